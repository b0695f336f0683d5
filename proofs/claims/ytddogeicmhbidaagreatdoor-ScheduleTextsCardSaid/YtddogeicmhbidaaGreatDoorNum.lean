/-
  Decimal numerals.
  Conditions: none.
-/
import Derived.Test.YtddogeicmhbidaaGreatDoorBase
import Derived.Test.YtddogeicmhbidaaGreatDoorAmItoa
import Derived.Test.YtddogeicmhbidaaGreatDoorAmBld
import Derived.Shelf.Lay
import Derived.Ground.NamesProg
import Derived.Test.YtddogeicmhbidaaGreatDoorBld
import Derived.Test.YtddogeicmhbidaaGreatDoorAmJoin
import Derived.Shelf.Strings.BuilderX
import Derived.Test.YtddogeicmhbidaaGreatDoorSteel
namespace Go.Proofs.YtddogeicmhbidaaGreatDoor
open Go Go.AM
set_option linter.unusedSimpArgs false
set_option linter.unusedVariables false
set_option maxRecDepth 100000
open Go.Lib in
theorem dec_len : ∀ (k u : Nat), u < 10 ^ (k + 1) → (decDigits u).length ≤ k + 1 := by
  intro k
  induction k with
  | zero =>
    intro u h
    rw [decDigits, dif_pos (by omega)]
    simp
  | succ k ih =>
    intro u h
    rw [decDigits]
    split
    · simp
    · have := ih (u / 10) (by rw [Nat.pow_succ] at h; omega)
      simp only [List.length_append, List.length_singleton]
      omega
theorem itoa_len {N : Int} (h0 : 0 ≤ N) (h1 : N ≤ 1099511627777) : (Go.Lib.itoa N).length ≤ 21 := by
  obtain ⟨u, rfl⟩ : ∃ u : Nat, N = u := ⟨N.toNat, by omega⟩
  rw [Go.Lib.itoa_nonneg]
  have := dec_len 20 u (by omega)
  omega
/-- The decimal digits of a number, none for 0. -/
def digZ (n : Int) : List UInt8 := if n = 0 then [] else Go.Lib.itoa n
theorem digZ_pos {n : Int} (h : 0 < n) : digZ n = digZ (n / 10) ++ [UInt8.ofNat (48 + n % 10).toNat] := by
  obtain ⟨u, rfl⟩ : ∃ u : Nat, n = u := ⟨n.toNat, by omega⟩
  have e : ((u : Int) % 10).toNat = u % 10 := by omega
  have e0 : (48 + (u : Int) % 10).toNat = 48 + u % 10 := by omega
  have e2 : ((u : Int) / 10) = ((u / 10 : Nat) : Int) := by omega
  rw [e0, e2, digZ, if_neg (by omega), Go.Lib.itoa_nonneg, Go.Lib.decDigits]
  by_cases h10 : u < 10
  · rw [dif_pos h10, digZ, if_pos (by omega), Nat.mod_eq_of_lt h10]; rfl
  · rw [dif_neg h10, digZ, if_neg (by omega), Go.Lib.itoa_nonneg]
theorem dig_byte {n : Int} (h : 0 ≤ n) : [[AV.lit (.int .u8 (48 + n % 10))]] = [UInt8.ofNat (48 + n % 10).toNat].map byteC := by
  have : ((UInt8.ofNat (48 + n % 10).toNat).toNat : Int) = 48 + n % 10 := by
    rw [UInt8.toNat_ofNat']
    omega
  simp only [List.map_cons, List.map_nil, byteC, this]
open Go.Shelf in
shelf_lay LaysM.n171 Nm 171 at Tryz as lays171
theorem itoa41_fun {n : Int} (h0 : 0 ≤ n) (h1 : n ≤ 1099511627777) : Fun Tryz.prog 33 [.lit (.int .i64 n)] (Ret (.lit (str (Go.Lib.itoa n))) []) :=
  itoa_fun lays171 ⟨_, Tryz.func33, rfl, rfl⟩ (g := 1) (by kernel_rfl) (by unfold laidG; exact List.mem_singleton.2 rfl) (by omega) (by omega)
end Go.Proofs.YtddogeicmhbidaaGreatDoor
namespace Go.Proofs.YtddogeicmhbidaaGreatDoor
open Go Go.AM
set_option linter.unusedSimpArgs false
set_option linter.unusedVariables false
set_option maxRecDepth 100000
set_option maxHeartbeats 2000000

open Go.Shelf in
shelf_lay Lays.n241 Nm 241 at Tryz as lays241
theorem bext : Go.Proofs.Builder.Extra Tryz.prog lays241_ren where
  sizeBuilder := by kernel_rfl
  liesBuilder := by kernel_rfl
  t5 := Tryz.underlying5
  a5 := Tryz.isAgg5
  z5 := Tryz.sizeOf5
  v5 := Tryz.zeroValue5
  infoByte := by kernel_rfl
  cellsByte := by kernel_rfl
  sizeByte := by kernel_rfl
  neB5 := by decide
theorem copyNil_fun : FunR Tryz.prog 58 [.adr 0 0 0] [(0, ⟨false, 67, 2, [[.lit (.pointer none), .lit (.slice none 0 0)]], true⟩)] 1 (Ret (.tup []) [(0, ⟨false, 67, 2, [[.adr 0 0 0, .lit (.slice none 0 0)]], false⟩)]) := by
  refine FunR.of (nt := 20) (rs := []) Tryz.func58 rfl rfl rfl rfl rfl ?_
  refine Ev.sr fun K hK => S.o q.mv (S.o q.nc (S.o (q.fa 0 am_fi67_0 am_cl64) (S.o (q.lv am_ag64) (S.peq (by kernel_rfl : Tryz.prog.underlying 64 = some (.pointer 67)) (h := S.end (hK _ ?_))))))
  clear hK K
  refine Ev.ct ?_
  refine Ev.region_S fun K hK => S.o q.mv (S.o q.mv (S.p2u (by kernel_rfl : Tryz.prog.underlying 64 = some (.pointer 67)) (by kernel_rfl) (by kernel_rfl) (h := S.same (f := 93) (fn := Tryz.f93) Tryz.func93 (by kernel_rfl) (by kernel_rfl) (by kernel_rfl) (by kernel_rfl) (h := S.u2p (by kernel_rfl) (by kernel_rfl : Tryz.prog.underlying 64 = some (.pointer 67)) (by kernel_rfl) (by kernel_rfl) (h := S.o q.nc (S.o (q.fa 0 am_fi67_0 am_cl64) (S.sv [_, _] false [] am_in64 am_cl64 (h := S.end (hK _ ?_)))))))))
  clear hK K
  show endR _ _ _ _ Exit.ret _
  refine Ev.rr0 [0] (keepR_d (h := keepR_n)) leads1 ?_
  refine ⟨?_, ?_⟩
  all_goals rfl
theorem grow1_fun {n : Int} (h0 : 0 ≤ n) (hn : n ≤ 281474976710656) : FunR Tryz.prog 94 [.adr 0 0 0, .lit (.int .i64 n)] [(0, ⟨false, 67, 2, [[.adr 0 0 0, .lit (.slice none 0 0)]], false⟩)] 1 (Ret (.tup []) [(0, ⟨false, 67, 2, [[.adr 0 0 0, .als 1 0 0]], false⟩), (1, ⟨true, 5, 1, [], true⟩)]) := grow_R lays241 bext ⟨_, Tryz.func94, rfl, rfl⟩ h0 hn
theorem grow0_fun {n : Int} (h0 : 0 < n) (hn : n ≤ 281474976710656) : FunR Tryz.prog 59 [.adr 0 0 0, .lit (.int .i64 n)] [(0, ⟨false, 67, 2, [[.lit (.pointer none), .lit (.slice none 0 0)]], true⟩)] 1 (Ret (.tup []) [(0, ⟨false, 67, 2, [[.adr 0 0 0, .als 1 0 0]], false⟩), (1, ⟨true, 5, 1, [], true⟩)]) := by
  refine FunR.of (nt := 25) (rs := []) Tryz.func59 rfl rfl rfl rfl rfl ?_
  refine Ev.sr fun K hK => S.o q.mv (S.cR [0] 1 [_] (hob := (keep_c (he := rfl) (h := keep_n))) (hF := copyNil_fun) (hn' := belowL rfl rfl) (h := S.end (hK _ ?_)))
  clear hK K
  refine Ev.seq ?_
  refine Ev.sr fun K hK => S.o q.mv (S.o q.lss (S.end (hK _ ?_)))
  clear hK K
  refine Ev.cd (fun c1 => ?_) (fun c1 => ?_)
  · first
  | (first | omega | contradiction)
  | omega
  · first
  | (first | omega | contradiction)
  | refine Ev.skip ?_
    show Ev _ _ _ _
    refine Ev.sm (tbs [(0, 0), (1, 1), (2, 3), (3, 7), (4, 15), (0, 0), (6, 32), (7, 96), (8, 224), (9, 480), (10, 1023), (0, 0), (12, 4095)]) 13 fun K hK => M.o q.mv (M.o q.nc (M.o (q.fa 1 am_fi67_1 am_cl65) (M.o (q.lv am_ag65) (M.o (q.cap0 am_el65) (M.o q.mv (M.o q.nc (M.o (q.fa 1 am_fi67_1 am_cl65) (M.o (q.lv am_ag65) (M.o (q.lenn am_el65) (M.o q.sub (M.o q.mv (M.o q.lss (M.end [_] (h := S.end (hK _ ?_)))))))))))))))
    clear hK K
    refine Ev.cd (fun c2 => ?_) (fun c2 => ?_)
    · first
    | (first | omega | contradiction)
    | refine Ev.region_S fun K hK => S.o q.mv (S.o q.mv (S.cR [0] 54 [_, _] (hob := (keep_d (he := rfl) (h := keep_n))) (hF := grow1_fun (by omega) (by omega)) (hn' := belowL rfl rfl) (h := S.end (hK _ ?_))))
      clear hK K
      show endR _ _ _ _ Exit.ret _
      refine Ev.rr0 [0, 53] (keepR_d (h := (keepR_c (h := keepR_n)))) (leadsB rfl) ?_
      refine ⟨?_, ?_⟩
      all_goals rfl
    · first
    | (first | omega | contradiction)
    | refine Ev.skip ?_
      show endR _ _ _ _ Exit.ret _
      refine Ev.rr0 [0] (keepR_d (h := keepR_n)) leads1 ?_
      refine ⟨?_, ?_⟩
      all_goals rfl

def sepcat (sep : List UInt8) (l : List (List UInt8)) : List UInt8 := (l.map fun y => sep ++ y).flatten
/-- Words, joined. -/
def joinS (sep : List UInt8) : List (List UInt8) → List UInt8
  | [] => []
  | x :: l => x ++ sepcat sep l
theorem sepcat_snoc (sep : List UInt8) (l : List (List UInt8)) (x : List UInt8) : sepcat sep (l ++ [x]) = sepcat sep l ++ sep ++ x := by simp [sepcat]
theorem sepcat_pos {sep : List UInt8} {l : List (List UInt8)} (h : 1 ≤ l.length) (hs : 0 < sep.length) : 0 < (sepcat sep l).length := by
  cases l with
  | nil => simp at h
  | cons x l =>
    simp only [sepcat, List.map_cons, List.flatten_cons, List.length_append]
    omega
def lenS (l : List (List UInt8)) : Int := (l.map fun x => (x.length : Int)).sum
theorem lenS_snoc (l : List (List UInt8)) (x : List UInt8) : lenS (l ++ [x]) = lenS l + x.length := by simp [lenS]
theorem lenS_bd : ∀ l : List (List UInt8), (∀ x ∈ l, x.length ≤ 1000000) → 0 ≤ lenS l ∧ lenS l ≤ 1000000 * l.length := by
  refine snoc_ind (fun _ => by simp [lenS]) ?_
  intro l s ih h
  have := ih fun b hb => h b (by simp [hb])
  have := h s (by simp)
  rw [lenS_snoc, List.length_append, List.length_singleton]
  omega
theorem sepcat_len (sep : List UInt8) : ∀ l : List (List UInt8), (∀ x ∈ l, x.length ≤ 1000000) → (sepcat sep l).length ≤ (sep.length + 1000000) * l.length := by
  refine snoc_ind (fun _ => by simp [sepcat]) ?_
  intro l s ih h
  have := ih fun b hb => h b (by simp [hb])
  have := h s (by simp)
  rw [sepcat_snoc, List.length_append, List.length_append, List.length_append, List.length_singleton, Nat.mul_add]
  omega
theorem joinS_len (sep : List UInt8) (l : List (List UInt8)) (h : ∀ x ∈ l, x.length ≤ 1000000) : (joinS sep l).length ≤ (sep.length + 1000000) * l.length := by
  cases l with
  | nil => simp [joinS]
  | cons x l =>
    have h1 := sepcat_len sep l (fun y hy => h y (by simp [hy]))
    have h2 := h x (by simp)
    rw [joinS, List.length_append, List.length_cons, Nat.mul_add]
    omega
theorem join_room {b : Int} (hb : 1 ≤ b) (hb2 : b ≤ 1000) (h : (1 : Int) ≥ 9223372036854775807 / b) : False := by
  have : (2 : Int) ≤ 9223372036854775807 / b := (Int.le_ediv_iff_mul_le (by omega)).2 (by omega)
  omega
theorem tail_eq (x : List UInt8) (r : List (List UInt8)) : ((x :: r).drop (1 : Int).toNat).take (((((x :: r).map strC).length : Int)).toNat - (1 : Int).toNat) = r := by simp
theorem join_fun (xs : List (List UInt8)) (h2 : xs.length ≤ 1000) (he : ∀ x ∈ xs, x.length ≤ 1000000) : Fun Tryz.prog 35 [.sh 1 (xs.map strC), .lit (str [32])] (Ret (.lit (str (joinS [32] xs))) []) := by
  have hone : (([32] : List UInt8).length : Int) = 1 := rfl
  refine Fun.of (nt := 75) (rs := [.tmp 4]) Tryz.func35 rfl rfl rfl rfl rfl ?_
  refine Ev.sr fun K hK => S.o q.as (S.end (hK _ ?_))
  clear hK K
  refine Ev.seq ?_
  refine Ev.sr fun K hK => S.o q.mv (S.o (q.lens am_el69) (S.end (hK _ ?_)))
  clear hK K
  refine Ev.block ?_
  refine Ev.sr fun K hK => S.o q.eql (S.o q.as (S.end (hK _ ?_)))
  clear hK K
  refine Ev.cd (fun c1 => ?_) (fun c1 => ?_)
  · first
  | (first | omega | contradiction)
  | obtain rfl : xs = [] := List.eq_nil_of_length_eq_zero (by omega)
    refine Ev.sr fun K hK => S.o q.as (S.end (hK _ ?_))
    clear hK K
    refine Ev.ret ?_
    refine Ev.ret1 ?_
    refine ⟨?_, rfl⟩
    first | rfl | (simp only [joinS, sepcat, List.map_nil, List.flatten_nil, List.append_nil]; done)
  · first
  | (first | omega | contradiction)
  | refine Ev.sr fun K hK => S.o q.eql (S.o q.as (S.end (hK _ ?_)))
    clear hK K
    refine Ev.cd (fun c2 => ?_) (fun c2 => ?_)
    · first
    | (first | omega | contradiction)
    | obtain ⟨x0, rfl⟩ : ∃ x0, xs = [x0] := List.length_eq_one_iff.1 (by omega)
      have hx0 : [x0][0]? = some x0 := rfl
      refine Ev.sr fun K hK => S.o q.mv (S.o (q.ix am_el69 am_cl9 (hl := (by first | exact ati hx0 (by omega) | exact atig (by omega)))) (S.o (q.ls am_ag9) (S.o q.as (S.end (hK _ ?_)))))
      clear hK K
      refine Ev.ret ?_
      refine Ev.ret1 ?_
      refine ⟨?_, rfl⟩
      first | rfl | (simp only [joinS, sepcat, List.map_nil, List.flatten_nil, List.append_nil]; done)
    · first
    | (first | omega | contradiction)
    | refine Ev.skip ?_
      show Ev _ _ _ _
      obtain ⟨x0, r, rfl⟩ : ∃ x0 r, xs = x0 :: r := by
        cases xs with
        | nil => simp at *
        | cons x r => exact ⟨x, r, rfl⟩
      have hx0 : (x0 :: r)[0]? = some x0 := rfl
      have hrl : ((x0 :: r).length : Int) = r.length + 1 := by simp
      have hrn : 1 ≤ r.length := by omega
      have hxl := he x0 (by simp)
      refine Ev.sr fun K hK => S.o q.as (S.end (hK _ ?_))
      clear hK K
      refine Ev.seq ?_
      refine Ev.sr fun K hK => S.o q.mv (S.o (q.slen am_el9 am_un9) (S.o q.gtr (S.end (hK _ ?_))))
      clear hK K
      refine Ev.cd (fun c3 => ?_) (fun c3 => ?_)
      · first
      | (first | omega | contradiction)
      | refine Ev.seq ?_
        refine Ev.sr fun K hK => S.o q.mv (S.o (q.slen am_el9 am_un9) (S.o q.mv (S.o (q.lens am_el69) (S.o q.sub (S.o q.quo ?_)))))
        simp only [hone]
        refine S.o q.geq (S.end (hK _ ?_))
        clear hK K
        refine Ev.cd (fun c4 => ?_) (fun c4 => ?_)
        · first
        | (first | omega | contradiction)
        | exact (join_room (b := (((x0 :: r).length : Int) - 1)) (by omega) (by omega) ‹_›).elim
        · first
        | (first | omega | contradiction)
        | refine Ev.skip ?_
          show Ev _ _ _ _
          refine Ev.region_S fun K hK => S.o q.mv (S.o q.mv (S.o (q.slen am_el9 am_un9) (S.o q.mv (S.o (q.lens am_el69) (S.o q.sub ?_)))))
          simp only [hone]
          refine S.o q.mul (S.o q.add (S.o q.as (S.end (hK _ ?_))))
          clear hK K
          show Ev _ _ _ _
          refine Ev.seq ?_
          refine Ev.sr fun K hK => S.o q.mv (S.o (q.lens am_el69) (S.o q.mv (S.end (hK _ ?_))))
          clear hK K
          refine Ev.block ?_
          refine Ev.loopU (ι := {p : List (List UInt8) × List (List UInt8) // p.1 ++ p.2 = (x0 :: r) ∧ True}) [] [0, 1, 4, 39, 40] (fun ⟨(pre, suf), _⟩ => [(41, .lit (.int .i64 ((pre.length : Int)))), (5, .lit (.int .i64 ((r.length : Int) + lenS pre)))]) (fun ⟨(pre, suf), _⟩ => []) (fun ⟨(pre, suf), _⟩ => suf.length) ⟨([], (x0 :: r)), rfl, trivial⟩ (.c (.c (.c (.c (.c .n))))) keep_n (slots_c (he := (by first | rfl | (congr 2; simp; done))) (h := (slots_c (he := (by first | rfl | exact iE (by rw [lenS_snoc]; omega) | exact iE (by simp only [lenS, List.map_nil, List.sum_nil]; omega))) (h := trivial)))) ?_
          rintro ⟨⟨pre, suf⟩, hp, hinv⟩ R1 hR1
          dsimp only [List.cons_append, List.nil_append, List.length_cons, List.length_nil]
          simp only at hp hinv
          have hpl : pre.length + suf.length = ((x0 :: r)).length := by rw [← hp, List.length_append]
          rcases suf with _ | ⟨s, suf⟩
          · rw [List.append_nil] at hp; subst hp; simp only [List.length_nil] at hpl
            obtain ⟨l1, l2⟩ := lenS_bd (x0 :: r) he
            refine Ev.sr fun K hK => S.o q.lss (S.end (hK _ ?_))
            clear hK K
            refine Ev.ud (fun c5 => ?_) (fun c5 => ?_)
            · first | omega | contradiction
            · first
            | (first | omega | contradiction)
            | refine Ev.exit ?_
              refine hR1 _ _ ?_
              show Ev _ _ _ _
              refine Ev.sr fun K hK => S.nn (q.al am_ze67) (S.end (hK _ ?_))
              clear hK K
              refine Ev.sr fun K hK => S.o q.mv (S.cR [0] 2 [_, _] (hob := (keep_c (he := rfl) (h := keep_n))) (hF := grow0_fun (by omega) (by omega)) (hn' := belowL rfl rfl) (h := S.end (hK _ ?_)))
              clear hK K
              refine Ev.sr fun K hK => S.o q.mv (S.o (q.ix am_el69 am_cl9 (hl := (by first | exact ati hx0 (by omega) | exact atig (by omega)))) (S.o (q.ls am_ag9) (S.cR [0, 1] 3 [_, _] (hob := (keep_d (he := rfl) (h := (keep_c (he := rfl) (h := keep_n))))) (hF := writeUsed_fun ([]) _ (by simp only [List.length_nil]; omega)) (hn' := belowL rfl rfl) (h := S.end (hK _ ?_)))))
              clear hK K
              refine Ev.seq ?_
              refine Ev.sr fun K hK => S.o q.mv (S.o (q.sh am_el69 am_cl9) ?_)
              rw [tail_eq]
              refine S.o (q.lens am_el69) (S.o q.mv (S.end (hK _ ?_)))
              clear hK K
              refine Ev.block ?_
              refine Ev.loopU (ι := {p : List (List UInt8) × List (List UInt8) // p.1 ++ p.2 = r ∧ True}) [0, 2] [0, 1, 4, 5, 8, 39, 40, 41, 42, 56, 58, 59, 60, 62, 63, 64] (fun ⟨(pre, suf), _⟩ => [(65, .lit (.int .i64 ((pre.length : Int))))]) (fun ⟨(pre, suf), _⟩ => [(0, ⟨false, 67, 2, [[bp (true) 0, .als 1 0 (x0 ++ sepcat [32] pre).length]], false⟩), (1, ⟨true, 5, 1, (x0 ++ sepcat [32] pre).map byteC, true⟩)]) (fun ⟨(pre, suf), _⟩ => suf.length) ⟨([], r), rfl, trivial⟩ (.c (.c (.c (.c (.c (.c (.c (.c (.c (.c (.c (.c (.c (.c (.c (.c .n)))))))))))))))) (keep_d (hr := (by first | exact rfl | exact bp_ren rfl rfl)) (he := (by first | rfl | (simp only [sepcat_snoc, List.append_assoc]; done) | (simp only [sepcat_snoc, List.append_assoc] <;> rfl) | (simp only [sepcat, List.map_nil, List.flatten_nil, List.append_nil, List.nil_append]; done) | (simp only [sepcat, List.map_nil, List.flatten_nil, List.append_nil, List.nil_append] <;> rfl))) (h := (keep_c (he := (by first | rfl | (simp only [sepcat_snoc, List.append_assoc]; done) | (simp only [sepcat_snoc, List.append_assoc] <;> rfl) | (simp only [sepcat, List.map_nil, List.flatten_nil, List.append_nil, List.nil_append]; done) | (simp only [sepcat, List.map_nil, List.flatten_nil, List.append_nil, List.nil_append] <;> rfl))) (h := keep_n)))) (slots_c (he := (by first | rfl | (congr 2; simp; done))) (h := trivial)) ?_
              rintro ⟨⟨pre, suf⟩, hp, hinv⟩ R3 hR3
              dsimp only [List.cons_append, List.nil_append, List.length_cons, List.length_nil]
              simp only at hp hinv
              have hpl : pre.length + suf.length = (r).length := by rw [← hp, List.length_append]
              rcases suf with _ | ⟨s, suf⟩
              · rw [List.append_nil] at hp; subst pre; simp only [List.length_nil] at hpl
                have hsp := sepcat_pos (sep := [32]) hrn (by decide)
                refine Ev.sr fun K hK => S.o q.lss (S.end (hK _ ?_))
                clear hK K
                refine Ev.ud (fun c6 => ?_) (fun c6 => ?_)
                · first | omega | contradiction
                · first
                | (first | omega | contradiction)
                | refine Ev.exit ?_
                  refine hR3 _ _ ?_
                  show Ev _ _ _ _
                  refine Ev.sr fun K hK => S.cR [0, 1] 2 [_] (hob := (keep_d (he := rfl) (h := (keep_c (he := rfl) (h := keep_n))))) (hF := string_fun _ (by rw [List.length_append]; omega)) (hn' := belowL rfl rfl) (h := S.o q.as (S.end (hK _ ?_)))
                  clear hK K
                  refine Ev.ret ?_
                  refine Ev.ret1 ?_
                  refine ⟨?_, rfl⟩
                  first | rfl | (simp only [joinS, sepcat, List.map_nil, List.flatten_nil, List.append_nil]; done)
              · simp only [List.length_cons] at hpl
                have hidx : (r)[pre.length]? = some s := by rw [← hp]; simp
                have hs := he s (by rw [← hp]; simp)
                have hsc := sepcat_len [32] pre (fun x hx => he x (by rw [← hp]; simp [hx]))
                simp only [List.length_cons, List.length_nil] at hsc
                refine Ev.sr fun K hK => S.o q.lss (S.end (hK _ ?_))
                clear hK K
                refine Ev.ud (fun c7 => ?_) (fun c7 => ?_)
                · first
                | (first | omega | contradiction)
                | refine Ev.seq ?_
                  refine Ev.block ?_
                  refine Ev.sr fun K hK => S.o (q.ix am_el69 am_cl9 (hl := (by first | exact ati hx0 (by omega) | exact ati hidx (by omega) | exact atig (by omega)))) (S.o (q.ls am_ag9) (S.o q.as (S.end (hK _ ?_))))
                  clear hK K
                  refine Ev.sr fun K hK => S.o q.mv (S.cR [0, 1] 3 [_, _] (hob := (keep_d (he := rfl) (h := (keep_c (he := rfl) (h := keep_n))))) (hF := writeUsed_fun (x0 ++ sepcat [32] pre) _ (by simp only [List.length_append, List.length_cons, List.length_nil]; omega)) (hn' := belowL rfl rfl) (h := S.end (hK _ ?_)))
                  clear hK K
                  refine Ev.region_S fun K hK => S.o q.mv (S.cR [0, 2] 4 [_, _] (hob := (keep_d (he := rfl) (h := (keep_c (he := rfl) (h := keep_n))))) (hF := writeUsed_fun ((x0 ++ sepcat [32] pre) ++ [32]) _ (by simp only [List.length_append, List.length_cons, List.length_nil]; omega)) (hn' := belowL rfl rfl) (h := S.end (hK _ ?_)))
                  clear hK K
                  show Ev _ _ _ _
                  refine Ev.region_S fun K hK => S.o q.add (S.o q.mv (S.end (hK _ ?_)))
                  clear hK K
                  refine hR3 _ _ ?_
                  refine roundU [0, 3] [0, 1, 4, 5, 8, 39, 40, 41, 42, 56, 58, 59, 60, 62, 63, 64] ⟨(pre ++ [s], suf), by rw [← hp]; simp, ?_⟩ ?_ (keep_d (hr := (by first | exact rfl | exact bp_ren rfl rfl)) (he := (by first | rfl | (simp only [sepcat_snoc, List.append_assoc]; done) | (simp only [sepcat_snoc, List.append_assoc] <;> rfl) | (simp only [sepcat, List.map_nil, List.flatten_nil, List.append_nil, List.nil_append]; done) | (simp only [sepcat, List.map_nil, List.flatten_nil, List.append_nil, List.nil_append] <;> rfl))) (h := (keep_c (he := (by first | rfl | (simp only [sepcat_snoc, List.append_assoc]; done) | (simp only [sepcat_snoc, List.append_assoc] <;> rfl) | (simp only [sepcat, List.map_nil, List.flatten_nil, List.append_nil, List.nil_append]; done) | (simp only [sepcat, List.map_nil, List.flatten_nil, List.append_nil, List.nil_append] <;> rfl))) (h := keep_n)))) (slots_c (he := (by first | rfl | (congr 2; simp; done))) (h := trivial)) (.c (.c (.c (.c (.c (.c (.c (.c (.c (.c (.c (.c (.c (.c (.c (.c .n))))))))))))))))
                  trivial
                  all_goals (dsimp only; simp only [List.length_cons]; omega)
                · first | omega | contradiction
          · simp only [List.length_cons] at hpl
            have hidx : ((x0 :: r))[pre.length]? = some s := by rw [← hp]; simp
            have hs := he s (by rw [← hp]; simp)
            obtain ⟨l1, l2⟩ := lenS_bd pre (fun x hx => he x (by rw [← hp]; simp [hx]))
            refine Ev.sr fun K hK => S.o q.lss (S.end (hK _ ?_))
            clear hK K
            refine Ev.ud (fun c8 => ?_) (fun c8 => ?_)
            · first
            | (first | omega | contradiction)
            | refine Ev.seq ?_
              refine Ev.block ?_
              refine Ev.sr fun K hK => S.o (q.ix am_el69 am_cl9 (hl := (by first | exact ati hx0 (by omega) | exact ati hidx (by omega) | exact atig (by omega)))) (S.o (q.ls am_ag9) (S.o q.as (S.end (hK _ ?_))))
              clear hK K
              refine Ev.seq ?_
              refine Ev.sr fun K hK => S.o q.mv (S.o (q.slen am_el9 am_un9) (S.o q.mv (S.o q.sub (S.o q.gtr (S.end (hK _ ?_))))))
              clear hK K
              refine Ev.cd (fun c9 => ?_) (fun c9 => ?_)
              · first
              | (first | omega | contradiction)
              | omega
              · first
              | (first | omega | contradiction)
              | refine Ev.skip ?_
                show Ev _ _ _ _
                refine Ev.region_S fun K hK => S.o q.mv (S.o q.mv (S.o (q.slen am_el9 am_un9) (S.o q.add (S.o q.as (S.end (hK _ ?_))))))
                clear hK K
                show Ev _ _ _ _
                refine Ev.region_S fun K hK => S.o q.add (S.o q.mv (S.end (hK _ ?_)))
                clear hK K
                refine hR1 _ _ ?_
                refine roundU [] [0, 1, 4, 39, 40] ⟨(pre ++ [s], suf), by rw [← hp]; simp, ?_⟩ ?_ keep_n (slots_c (he := (by first | rfl | (congr 2; simp; done))) (h := (slots_c (he := (by first | rfl | exact iE (by rw [lenS_snoc]; omega) | exact iE (by simp only [lenS, List.map_nil, List.sum_nil]; omega))) (h := trivial)))) (.c (.c (.c (.c (.c .n)))))
                trivial
                all_goals (dsimp only; simp only [List.length_cons]; omega)
            · first | omega | contradiction
      · first
      | (first | omega | contradiction)
      | refine Ev.skip ?_
        show Ev _ _ _ _
        refine Ev.seq ?_
        refine Ev.sr fun K hK => S.o q.mv (S.o (q.lens am_el69) (S.o q.mv (S.end (hK _ ?_))))
        clear hK K
        refine Ev.block ?_
        refine Ev.loopU (ι := {p : List (List UInt8) × List (List UInt8) // p.1 ++ p.2 = (x0 :: r) ∧ True}) [] [0, 1, 4, 39, 40] (fun ⟨(pre, suf), _⟩ => [(41, .lit (.int .i64 ((pre.length : Int)))), (5, .lit (.int .i64 ((r.length : Int) + lenS pre)))]) (fun ⟨(pre, suf), _⟩ => []) (fun ⟨(pre, suf), _⟩ => suf.length) ⟨([], (x0 :: r)), rfl, trivial⟩ (.c (.c (.c (.c (.c .n))))) keep_n (slots_c (he := (by first | rfl | (congr 2; simp; done))) (h := (slots_c (he := (by first | rfl | exact iE (by rw [lenS_snoc]; omega) | exact iE (by simp only [lenS, List.map_nil, List.sum_nil]; omega))) (h := trivial)))) ?_
        rintro ⟨⟨pre, suf⟩, hp, hinv⟩ R1 hR1
        dsimp only [List.cons_append, List.nil_append, List.length_cons, List.length_nil]
        simp only at hp hinv
        have hpl : pre.length + suf.length = ((x0 :: r)).length := by rw [← hp, List.length_append]
        rcases suf with _ | ⟨s, suf⟩
        · rw [List.append_nil] at hp; subst hp; simp only [List.length_nil] at hpl
          obtain ⟨l1, l2⟩ := lenS_bd (x0 :: r) he
          refine Ev.sr fun K hK => S.o q.lss (S.end (hK _ ?_))
          clear hK K
          refine Ev.ud (fun c10 => ?_) (fun c10 => ?_)
          · first | omega | contradiction
          · first
          | (first | omega | contradiction)
          | refine Ev.exit ?_
            refine hR1 _ _ ?_
            show Ev _ _ _ _
            refine Ev.sr fun K hK => S.nn (q.al am_ze67) (S.end (hK _ ?_))
            clear hK K
            refine Ev.sr fun K hK => S.o q.mv (S.cR [0] 2 [_, _] (hob := (keep_c (he := rfl) (h := keep_n))) (hF := grow0_fun (by omega) (by omega)) (hn' := belowL rfl rfl) (h := S.end (hK _ ?_)))
            clear hK K
            refine Ev.sr fun K hK => S.o q.mv (S.o (q.ix am_el69 am_cl9 (hl := (by first | exact ati hx0 (by omega) | exact atig (by omega)))) (S.o (q.ls am_ag9) (S.cR [0, 1] 3 [_, _] (hob := (keep_d (he := rfl) (h := (keep_c (he := rfl) (h := keep_n))))) (hF := writeUsed_fun ([]) _ (by simp only [List.length_nil]; omega)) (hn' := belowL rfl rfl) (h := S.end (hK _ ?_)))))
            clear hK K
            refine Ev.seq ?_
            refine Ev.sr fun K hK => S.o q.mv (S.o (q.sh am_el69 am_cl9) ?_)
            rw [tail_eq]
            refine S.o (q.lens am_el69) (S.o q.mv (S.end (hK _ ?_)))
            clear hK K
            refine Ev.block ?_
            refine Ev.loopU (ι := {p : List (List UInt8) × List (List UInt8) // p.1 ++ p.2 = r ∧ True}) [0, 2] [0, 1, 4, 5, 8, 39, 40, 41, 42, 56, 58, 59, 60, 62, 63, 64] (fun ⟨(pre, suf), _⟩ => [(65, .lit (.int .i64 ((pre.length : Int))))]) (fun ⟨(pre, suf), _⟩ => [(0, ⟨false, 67, 2, [[bp (true) 0, .als 1 0 (x0 ++ sepcat [32] pre).length]], false⟩), (1, ⟨true, 5, 1, (x0 ++ sepcat [32] pre).map byteC, true⟩)]) (fun ⟨(pre, suf), _⟩ => suf.length) ⟨([], r), rfl, trivial⟩ (.c (.c (.c (.c (.c (.c (.c (.c (.c (.c (.c (.c (.c (.c (.c (.c .n)))))))))))))))) (keep_d (hr := (by first | exact rfl | exact bp_ren rfl rfl)) (he := (by first | rfl | (simp only [sepcat_snoc, List.append_assoc]; done) | (simp only [sepcat_snoc, List.append_assoc] <;> rfl) | (simp only [sepcat, List.map_nil, List.flatten_nil, List.append_nil, List.nil_append]; done) | (simp only [sepcat, List.map_nil, List.flatten_nil, List.append_nil, List.nil_append] <;> rfl))) (h := (keep_c (he := (by first | rfl | (simp only [sepcat_snoc, List.append_assoc]; done) | (simp only [sepcat_snoc, List.append_assoc] <;> rfl) | (simp only [sepcat, List.map_nil, List.flatten_nil, List.append_nil, List.nil_append]; done) | (simp only [sepcat, List.map_nil, List.flatten_nil, List.append_nil, List.nil_append] <;> rfl))) (h := keep_n)))) (slots_c (he := (by first | rfl | (congr 2; simp; done))) (h := trivial)) ?_
            rintro ⟨⟨pre, suf⟩, hp, hinv⟩ R3 hR3
            dsimp only [List.cons_append, List.nil_append, List.length_cons, List.length_nil]
            simp only at hp hinv
            have hpl : pre.length + suf.length = (r).length := by rw [← hp, List.length_append]
            rcases suf with _ | ⟨s, suf⟩
            · rw [List.append_nil] at hp; subst pre; simp only [List.length_nil] at hpl
              have hsp := sepcat_pos (sep := [32]) hrn (by decide)
              refine Ev.sr fun K hK => S.o q.lss (S.end (hK _ ?_))
              clear hK K
              refine Ev.ud (fun c11 => ?_) (fun c11 => ?_)
              · first | omega | contradiction
              · first
              | (first | omega | contradiction)
              | refine Ev.exit ?_
                refine hR3 _ _ ?_
                show Ev _ _ _ _
                refine Ev.sr fun K hK => S.cR [0, 1] 2 [_] (hob := (keep_d (he := rfl) (h := (keep_c (he := rfl) (h := keep_n))))) (hF := string_fun _ (by rw [List.length_append]; omega)) (hn' := belowL rfl rfl) (h := S.o q.as (S.end (hK _ ?_)))
                clear hK K
                refine Ev.ret ?_
                refine Ev.ret1 ?_
                refine ⟨?_, rfl⟩
                first | rfl | (simp only [joinS, sepcat, List.map_nil, List.flatten_nil, List.append_nil]; done)
            · simp only [List.length_cons] at hpl
              have hidx : (r)[pre.length]? = some s := by rw [← hp]; simp
              have hs := he s (by rw [← hp]; simp)
              have hsc := sepcat_len [32] pre (fun x hx => he x (by rw [← hp]; simp [hx]))
              simp only [List.length_cons, List.length_nil] at hsc
              refine Ev.sr fun K hK => S.o q.lss (S.end (hK _ ?_))
              clear hK K
              refine Ev.ud (fun c12 => ?_) (fun c12 => ?_)
              · first
              | (first | omega | contradiction)
              | refine Ev.seq ?_
                refine Ev.block ?_
                refine Ev.sr fun K hK => S.o (q.ix am_el69 am_cl9 (hl := (by first | exact ati hx0 (by omega) | exact ati hidx (by omega) | exact atig (by omega)))) (S.o (q.ls am_ag9) (S.o q.as (S.end (hK _ ?_))))
                clear hK K
                refine Ev.sr fun K hK => S.o q.mv (S.cR [0, 1] 3 [_, _] (hob := (keep_d (he := rfl) (h := (keep_c (he := rfl) (h := keep_n))))) (hF := writeUsed_fun (x0 ++ sepcat [32] pre) _ (by simp only [List.length_append, List.length_cons, List.length_nil]; omega)) (hn' := belowL rfl rfl) (h := S.end (hK _ ?_)))
                clear hK K
                refine Ev.region_S fun K hK => S.o q.mv (S.cR [0, 2] 4 [_, _] (hob := (keep_d (he := rfl) (h := (keep_c (he := rfl) (h := keep_n))))) (hF := writeUsed_fun ((x0 ++ sepcat [32] pre) ++ [32]) _ (by simp only [List.length_append, List.length_cons, List.length_nil]; omega)) (hn' := belowL rfl rfl) (h := S.end (hK _ ?_)))
                clear hK K
                show Ev _ _ _ _
                refine Ev.region_S fun K hK => S.o q.add (S.o q.mv (S.end (hK _ ?_)))
                clear hK K
                refine hR3 _ _ ?_
                refine roundU [0, 3] [0, 1, 4, 5, 8, 39, 40, 41, 42, 56, 58, 59, 60, 62, 63, 64] ⟨(pre ++ [s], suf), by rw [← hp]; simp, ?_⟩ ?_ (keep_d (hr := (by first | exact rfl | exact bp_ren rfl rfl)) (he := (by first | rfl | (simp only [sepcat_snoc, List.append_assoc]; done) | (simp only [sepcat_snoc, List.append_assoc] <;> rfl) | (simp only [sepcat, List.map_nil, List.flatten_nil, List.append_nil, List.nil_append]; done) | (simp only [sepcat, List.map_nil, List.flatten_nil, List.append_nil, List.nil_append] <;> rfl))) (h := (keep_c (he := (by first | rfl | (simp only [sepcat_snoc, List.append_assoc]; done) | (simp only [sepcat_snoc, List.append_assoc] <;> rfl) | (simp only [sepcat, List.map_nil, List.flatten_nil, List.append_nil, List.nil_append]; done) | (simp only [sepcat, List.map_nil, List.flatten_nil, List.append_nil, List.nil_append] <;> rfl))) (h := keep_n)))) (slots_c (he := (by first | rfl | (congr 2; simp; done))) (h := trivial)) (.c (.c (.c (.c (.c (.c (.c (.c (.c (.c (.c (.c (.c (.c (.c (.c .n))))))))))))))))
                trivial
                all_goals (dsimp only; simp only [List.length_cons]; omega)
              · first | omega | contradiction
        · simp only [List.length_cons] at hpl
          have hidx : ((x0 :: r))[pre.length]? = some s := by rw [← hp]; simp
          have hs := he s (by rw [← hp]; simp)
          obtain ⟨l1, l2⟩ := lenS_bd pre (fun x hx => he x (by rw [← hp]; simp [hx]))
          refine Ev.sr fun K hK => S.o q.lss (S.end (hK _ ?_))
          clear hK K
          refine Ev.ud (fun c13 => ?_) (fun c13 => ?_)
          · first
          | (first | omega | contradiction)
          | refine Ev.seq ?_
            refine Ev.block ?_
            refine Ev.sr fun K hK => S.o (q.ix am_el69 am_cl9 (hl := (by first | exact ati hx0 (by omega) | exact ati hidx (by omega) | exact atig (by omega)))) (S.o (q.ls am_ag9) (S.o q.as (S.end (hK _ ?_))))
            clear hK K
            refine Ev.seq ?_
            refine Ev.sr fun K hK => S.o q.mv (S.o (q.slen am_el9 am_un9) (S.o q.mv (S.o q.sub (S.o q.gtr (S.end (hK _ ?_))))))
            clear hK K
            refine Ev.cd (fun c14 => ?_) (fun c14 => ?_)
            · first
            | (first | omega | contradiction)
            | omega
            · first
            | (first | omega | contradiction)
            | refine Ev.skip ?_
              show Ev _ _ _ _
              refine Ev.region_S fun K hK => S.o q.mv (S.o q.mv (S.o (q.slen am_el9 am_un9) (S.o q.add (S.o q.as (S.end (hK _ ?_))))))
              clear hK K
              show Ev _ _ _ _
              refine Ev.region_S fun K hK => S.o q.add (S.o q.mv (S.end (hK _ ?_)))
              clear hK K
              refine hR1 _ _ ?_
              refine roundU [] [0, 1, 4, 39, 40] ⟨(pre ++ [s], suf), by rw [← hp]; simp, ?_⟩ ?_ keep_n (slots_c (he := (by first | rfl | (congr 2; simp; done))) (h := (slots_c (he := (by first | rfl | exact iE (by rw [lenS_snoc]; omega) | exact iE (by simp only [lenS, List.map_nil, List.sum_nil]; omega))) (h := trivial)))) (.c (.c (.c (.c (.c .n)))))
              trivial
              all_goals (dsimp only; simp only [List.length_cons]; omega)
          · first | omega | contradiction
end Go.Proofs.YtddogeicmhbidaaGreatDoor
namespace Go.Proofs.YtddogeicmhbidaaGreatDoor
open Go Go.AM
set_option linter.unusedSimpArgs false
set_option linter.unusedVariables false
set_option maxRecDepth 100000
set_option maxHeartbeats 1000000

def code2 (k : Int) : List UInt8 := if k < 10 then [48] ++ Go.Lib.itoa k else Go.Lib.itoa k
theorem code2_lo {k : Int} (h : k < 10) : code2 k = [48] ++ Go.Lib.itoa k := if_pos h
theorem code2_hi {k : Int} (h : ¬ k < 10) : code2 k = Go.Lib.itoa k := if_neg h
def lineH (b : Bar) : List (List UInt8) := [b.mark, Go.Lib.itoa b.size, Go.Lib.itoa b.count, code2 b.code]
def lineW (b : Bar) : List (List UInt8) := lineH b ++ b.dims.map Go.Lib.itoa
/-- The text of a line. -/
def lineT (b : Bar) : List UInt8 := joinS [32] (lineW b) ++ [10]
def textP (l : List Bar) : List UInt8 := l.flatMap lineT
def textV (l : List Bar) : List UInt8 := if okSched l then textP l else []
def textE (l : List Bar) : Int := if okSched l then 0 else 1
theorem okBar_code {b : Bar} (h : okBar b) : 0 ≤ b.code ∧ b.code ≤ 98 := by
  have h1 := h.2.2.2.2.1
  rcases codes b.code with e | e | e | e | e | e | e | e | e
  iterate 8 omega
  exact absurd (legsL_none e).2 h1
theorem lineW_el {b : Bar} (h : okBar b) : (lineW b).length ≤ 9 ∧ ∀ x ∈ lineW b, x.length ≤ 1000000 := by
  have h1 := isName_len h.1
  have h2 := size_bd h.2.1
  have h3 := h.2.2.1
  have h4 := h.2.2.2.1
  have h5 := okBar_code h
  have h6 := h.2.2.2.2.2.1
  have h7 := (dims_eq b.code).2.2.1
  refine ⟨by simp only [lineW, lineH, List.length_append, List.length_map, List.length_cons, List.length_nil]; omega, fun x hx => ?_⟩
  simp only [lineW, lineH, List.mem_append, List.mem_cons, List.not_mem_nil, or_false, List.mem_map] at hx
  rcases hx with (rfl | rfl | rfl | rfl) | ⟨d, hd, rfl⟩
  · omega
  · have := itoa_len (N := b.size) (by omega) (by omega); omega
  · have := itoa_len (N := b.count) (by omega) (by omega); omega
  · have := itoa_len (N := b.code) (by omega) (by omega)
    unfold code2
    split
    · simp only [List.length_append, List.length_cons, List.length_nil]; omega
    · omega
  · have h8 := dims_in h.2.2.2.2.2.2 hd
    have := itoa_len (N := d) (by omega) (by omega); omega
theorem lineT_len {b : Bar} (h : okBar b) : (lineT b).length ≤ 10000000 ∧ 0 < (lineT b).length := by
  obtain ⟨h1, h2⟩ := lineW_el h
  have h3 := joinS_len [32] _ h2
  rw [lineT, List.length_append, List.length_singleton]
  simp only [List.length_cons, List.length_nil] at h3
  omega
theorem textP_snoc (l : List Bar) (s : Bar) : textP (l ++ [s]) = textP l ++ lineT s := by simp [textP]
theorem textP_len : ∀ l : List Bar, (∀ c ∈ l, okBar c) → (textP l).length ≤ l.length * 10000000 := by
  refine snoc_ind (fun _ => by simp [textP]) ?_
  intro l s ih h
  have := ih fun b hb => h b (by simp [hb])
  have := (lineT_len (h s (by simp))).1
  rw [textP_snoc, List.length_append, List.length_append, List.length_singleton, Nat.add_mul]
  omega
theorem Text_nil : Fun Tryz.prog 13 [.sh 5 (([] : List Bar).map Bar.c)] (Ret (.tup [.lit (str []), .lit (.int .i64 0)]) []) := by
  have hw : schedW [] := fun c hc => by simp at hc
  have hl0 : ([] : List Bar).length ≤ 140737488355328 := by decide
  have hok : okSched [] := by decide
  refine Fun.of (nt := 57) (rs := [.tmp 2, .tmp 3]) Tryz.func13 rfl rfl rfl rfl rfl ?_
  refine Ev.sr fun K hK => S.o q.as (S.o q.as (S.end (hK _ ?_)))
  clear hK K
  refine Ev.seq ?_
  refine Ev.sr fun K hK => S.o q.mv (S.c0 (hF := schedValid_fun _ (by omega) (by assumption)) (h := S.o q.not (S.end (hK _ ?_))))
  clear hK K
  refine Ev.cn (fun c1 => ?_) (fun c1 => ?_)
  · first
  | (first | omega | contradiction)
  | contradiction
  · first
  | (first | omega | contradiction)
  | refine Ev.skip ?_
    show Ev _ _ _ _
    refine Ev.sr fun K hK => S.nn (q.al am_ze67) (S.end (hK _ ?_))
    clear hK K
    refine Ev.seq ?_
    refine Ev.sr fun K hK => S.o q.mv (S.o (q.lens am_el22) (S.o q.mv (S.end (hK _ ?_))))
    clear hK K
    refine Ev.block ?_
    refine Ev.loopU (ι := Unit) [0] [2, 3, 4, 14, 15] (fun _ => [(16, .lit (.int .i64 (0)))]) (fun _ => [(0, ⟨false, 67, 2, [[.lit (.pointer none), .lit (.slice none 0 0)]], true⟩)]) (fun _ => 0) () (.c (.c (.c (.c (.c .n))))) (keep_c (he := (by first | rfl | (simp; done))) (h := keep_n)) (slots_c (he := (by first | rfl | (simp; done) | (congr 2; omega))) (h := trivial)) ?_
    rintro ⟨⟩ R0 hR0
    dsimp only [List.cons_append, List.nil_append, List.length_cons, List.length_nil]
    refine Ev.sr fun K hK => S.o q.lss (S.end (hK _ ?_))
    clear hK K
    refine Ev.ud (fun c2 => ?_) (fun c2 => ?_)
    · first
    | (first | omega | contradiction)
    | refine Ev.seq ?_
      refine Ev.block ?_
      omega
    · first
    | (first | omega | contradiction)
    | refine Ev.exit ?_
      refine hR0 _ _ ?_
      show Ev _ _ _ _
      refine Ev.sr fun K hK => S.cR [0] 1 [_] (hob := (keep_c (he := rfl) (h := keep_n))) (hF := string0_fun) (hn' := belowL rfl rfl) (h := S.o q.as (S.o q.as (S.end (hK _ ?_))))
      clear hK K
      refine Ev.ret ?_
      refine Ev.ret2 ?_
      refine ⟨?_, rfl⟩
      rfl
theorem Text_cons (l : List Bar) (hne : l.isEmpty = false) (hl : l.length ≤ 140737488355328) (hw : schedW l) : Fun Tryz.prog 13 [.sh 5 (l.map Bar.c)] (Ret (.tup [.lit (str (textV l)), .lit (.int .i64 (textE l))]) []) := by
  refine Fun.of (nt := 57) (rs := [.tmp 2, .tmp 3]) Tryz.func13 rfl rfl rfl rfl rfl ?_
  refine Ev.sr fun K hK => S.o q.as (S.o q.as (S.end (hK _ ?_)))
  clear hK K
  refine Ev.seq ?_
  refine Ev.sr fun K hK => S.o q.mv (S.c0 (hF := schedValid_fun _ (by omega) (by assumption)) (h := S.o q.not (S.end (hK _ ?_))))
  clear hK K
  refine Ev.cn (fun c1 => ?_) (fun c1 => ?_)
  · first
  | (first | omega | contradiction)
  | refine Ev.sr fun K hK => S.o q.as (S.o q.as (S.end (hK _ ?_)))
    clear hK K
    refine Ev.ret ?_
    refine Ev.ret2 ?_
    refine ⟨?_, rfl⟩
    first
     | (rw [show textV l = [] from if_neg ‹_›, show textE l = 1 from if_neg ‹_›]; done)
     | (rw [show textV l = textP l from if_pos hyes, show textE l = 0 from if_pos hyes]; done)
  · first
  | (first | omega | contradiction)
  | refine Ev.skip ?_
    show Ev _ _ _ _
    have hyes : okSched l := ‹_›
    have hll := hyes.1
    have h0 : 0 < l.length := by cases l with | nil => simp at hne | cons => simp
    refine Ev.sr fun K hK => S.nn (q.al am_ze67) (S.end (hK _ ?_))
    clear hK K
    refine Ev.seq ?_
    refine Ev.weaken (Wk.nilv (f := byteC) 0 1 5 1 []) ?_
    refine Ev.sr fun K hK => S.o q.mv (S.o (q.lens am_el22) (S.o q.mv (S.end (hK _ ?_))))
    clear hK K
    refine Ev.block ?_
    refine Ev.loopU (ι := {p : List (Bar) × List (Bar) // p.1 ++ p.2 = l ∧ True}) [0, 1] [2, 3, 4, 14, 15] (fun ⟨(pre, suf), _⟩ => [(16, .lit (.int .i64 ((pre.length : Int))))]) (fun ⟨(pre, suf), _⟩ => [(0, ⟨false, 67, 2, [[bp (!pre.isEmpty) 0, .als 1 0 (textP pre).length]], false⟩), (1, ⟨true, 5, 1, (textP pre).map byteC, true⟩)]) (fun ⟨(pre, suf), _⟩ => suf.length) ⟨([], l), rfl, trivial⟩ (.c (.c (.c (.c (.c .n))))) (keep_d (hr := (by first | exact rfl | exact bp_ren rfl rfl)) (he := (by first | rfl | (simp only [textP_snoc, List.append_assoc]; done) | (simp only [textP_snoc, List.append_assoc, bp_snoc]; done))) (h := (keep_c (he := (by first | rfl | (simp only [textP_snoc, List.append_assoc]; done) | (simp only [textP_snoc, List.append_assoc, bp_snoc]; done))) (h := keep_n)))) (slots_c (he := (by first | rfl | (congr 2; simp; done))) (h := trivial)) ?_
    rintro ⟨⟨pre, suf⟩, hp, hinv⟩ R0 hR0
    dsimp only [List.cons_append, List.nil_append, List.length_cons, List.length_nil]
    simp only at hp hinv
    have hpl : pre.length + suf.length = (l).length := by rw [← hp, List.length_append]
    rcases suf with _ | ⟨s, suf⟩
    · rw [List.append_nil] at hp; subst pre; simp only [List.length_nil] at hpl
      have htl : 0 < (textP l).length := by
        cases l with
        | nil => simp at hne
        | cons c l =>
          have h9 := (lineT_len (hyes.2.1 c (by simp))).2
          simp only [textP, List.flatMap_cons, List.length_append]
          omega
      refine Ev.sr fun K hK => S.o q.lss (S.end (hK _ ?_))
      clear hK K
      refine Ev.ud (fun c2 => ?_) (fun c2 => ?_)
      · first | omega | contradiction
      · first
      | (first | omega | contradiction)
      | refine Ev.exit ?_
        refine hR0 _ _ ?_
        show Ev _ _ _ _
        rw [hne]
        refine Ev.sr fun K hK => S.cR [0, 1] 2 [_] (hob := (keep_d (he := rfl) (h := (keep_c (he := rfl) (h := keep_n))))) (hF := string_fun _ htl) (hn' := belowL rfl rfl) (h := S.o q.as (S.o q.as (S.end (hK _ ?_))))
        clear hK K
        refine Ev.ret ?_
        refine Ev.ret2 ?_
        refine ⟨?_, rfl⟩
        first
         | (rw [show textV l = [] from if_neg ‹_›, show textE l = 1 from if_neg ‹_›]; done)
         | (rw [show textV l = textP l from if_pos hyes, show textE l = 0 from if_pos hyes]; done)
    · simp only [List.length_cons] at hpl
      have hidx : (l)[pre.length]? = some s := by rw [← hp]; simp
      have hsk : okBar s := hyes.2.1 s (by rw [← hp]; simp)
      have hk1 := size_bd hsk.2.1
      have hk2 := hsk.2.2.1
      have hk3 := hsk.2.2.2.1
      have hk4 := okBar_code hsk
      have hsl := lineW_el hsk
      obtain ⟨hlt, hlt0⟩ := lineT_len hsk
      have hic := itoa_len (N := s.code) (by omega) (by omega)
      have hjl : (joinS [32] (lineH s ++ s.dims.map Go.Lib.itoa)).length + 1 = (lineT s).length := by rw [lineT, List.length_append]; rfl
      have hd6 := hsk.2.2.2.2.2.1
      have hd7 := (dims_eq s.code).2.2.1
      have hpt := textP_len pre (fun c hc => hyes.2.1 c (by rw [← hp]; simp [hc]))
      refine Ev.sr fun K hK => S.o q.lss (S.end (hK _ ?_))
      clear hK K
      refine Ev.ud (fun c3 => ?_) (fun c3 => ?_)
      · first
      | (first | omega | contradiction)
      | refine Ev.seq ?_
        refine Ev.block ?_
        refine Ev.sr fun K hK => S.o (q.ix am_el22 am_cl49 (hl := (by first | exact ati hidx (by omega) | exact atig (by omega)))) (S.o (q.lsA [_, _, _, _, _] am_ag49 am_cl49) (S.nn (q.al am_ze49) (S.sv [_, _, _, _, _] true [_, _] am_in49 am_cl49 (h := S.end (hK _ ?_)))))
        clear hK K
        refine Ev.sr fun K hK => S.o (q.fa 3 am_fi49_3 am_cl3) (S.o (q.lv am_ag3) (S.c0 (hF := itoa41_fun (by omega) (by omega)) (h := S.o q.as (S.end (hK _ ?_)))))
        clear hK K
        refine Ev.seq ?_
        refine Ev.sr fun K hK => S.o (q.fa 3 am_fi49_3 am_cl3) (S.o (q.lv am_ag3) (S.o q.lss (S.end (hK _ ?_))))
        clear hK K
        refine Ev.cd (fun c4 => ?_) (fun c4 => ?_)
        · first
        | (first | omega | contradiction)
        | refine Ev.region_S fun K hK => S.o q.mv (S.o q.sadd (S.o q.as (S.end (hK _ ?_))))
          clear hK K
          show Ev _ _ _ _
          first | rw [← code2_lo ‹s.code < 10›] | rw [← code2_hi ‹¬ s.code < 10›]
          refine Ev.sm (tbs [(0, 0), (1, 1), (0, 0), (3, 4), (4, 12), (0, 0), (6, 32), (7, 124), (0, 0), (9, 511), (10, 1023)]) 10 fun K hK => M.o (q.fa 0 am_fi49_0 am_cl9) (M.o (q.lv am_ag9) (M.o (q.fa 1 am_fi49_1 am_cl3) (M.o (q.lv am_ag3) (M.c0 (hF := itoa41_fun (by omega) (by omega)) (h := M.o (q.fa 2 am_fi49_2 am_cl3) (M.o (q.lv am_ag3) (M.c0 (hF := itoa41_fun (by omega) (by omega)) (h := M.o q.mv (M.nn [_] (q.bs [[_], [_], [_], [_]] true am_el69 am_ze9 am_cl9) (h := M.end [_, _, _, _] (h := S.o q.as (S.end (hK _ ?_)))))))))))))
          clear hK K
          refine Ev.seq ?_
          refine Ev.sr fun K hK => S.o (q.fa 4 am_fi49_4 am_cl47) (S.o (q.lv am_ag47) (S.o (q.lens am_el47) (S.o q.mv (S.end (hK _ ?_)))))
          clear hK K
          refine Ev.block ?_
          refine Ev.loopU (ι := {q : List Int × List Int // q.1 ++ q.2 = s.dims}) [0, 1, 2, 39] [2, 3, 4, 6, 7, 14, 15, 16, 17, 18, 19, 20, 21, 22, 23, 24, 25, 26, 27, 28, 29, 30, 31, 32, 33, 34, 35, 36, 38, 39, 40] (fun ⟨(prek, sufk), _⟩ => [(41, .lit (.int .i64 ((prek.length : Int)))), (8, .als 3 0 (lineH s ++ prek.map Go.Lib.itoa).length)]) (fun ⟨(prek, sufk), _⟩ => [(0, ⟨false, 67, 2, [[bp (!pre.isEmpty) 0, .als 1 0 (textP pre).length]], false⟩), (1, ⟨true, 5, 1, (textP pre).map byteC, true⟩), (2, ⟨false, 49, 5, [[.lit (str (s.mark)), .lit (.int .i64 (s.size)), .lit (.int .i64 (s.count)), .lit (.int .i64 (s.code)), .sh 1 ((s.dims).map intC)]], true⟩), (3, ⟨true, 9, 1, (lineH s ++ prek.map Go.Lib.itoa).map strC, true⟩)]) (fun ⟨(prek, sufk), _⟩ => sufk.length) ⟨([], s.dims), rfl⟩ (.c (.c (.c (.c (.c (.c (.c (.c (.c (.c (.c (.c (.c (.c (.c (.c (.c (.c (.c (.c (.c (.c (.c (.c (.c (.c (.c (.c (.c (.c (.c .n))))))))))))))))))))))))))))))) (keep_d (hr := (by first | exact rfl | exact bp_ren rfl rfl)) (he := (by first | rfl | (simp; done))) (h := (keep_c (he := (by first | rfl | (simp; done))) (h := (keep_c (he := (by first | rfl | (simp; done))) (h := (keep_c (he := (by first | rfl | (simp; done))) (h := keep_n)))))))) (slots_c (he := (by first | rfl | (congr 2; simp; done))) (h := (slots_c (he := (by first | rfl | (congr 1; simp; done))) (h := trivial)))) ?_
          rintro ⟨⟨prek, sufk⟩, hpk⟩ R2 hR2
          dsimp only [List.cons_append, List.nil_append, List.length_cons, List.length_nil]
          simp only at hpk
          have hplk : prek.length + sufk.length = s.dims.length := by rw [← hpk, List.length_append]
          rcases sufk with _ | ⟨sk, sufk⟩
          · rw [List.append_nil] at hpk; subst prek; simp only [List.length_nil] at hplk
            refine Ev.sr fun K hK => S.o q.lss (S.end (hK _ ?_))
            clear hK K
            refine Ev.ud (fun c5 => ?_) (fun c5 => ?_)
            · first | omega | contradiction
            · first
            | (first | omega | contradiction)
            | refine Ev.exit ?_
              refine hR2 _ _ ?_
              show Ev _ _ _ _
              refine Ev.region_S fun K hK => S.o q.mv ?_
              refine SeqL.weaken (Wk.frz 51 [_, _, _]) ?_
              refine S.c0 (hF := join_fun (lineH s ++ s.dims.map Go.Lib.itoa) (by have h := hsl.1; unfold lineW at h; omega) hsl.2) (h := S.o q.sadd ?_)
              rcases hfl : pre.isEmpty with _ | _
              · skip
                rw [show joinS [32] (lineH s ++ s.dims.map Go.Lib.itoa) ++ [10] = lineT s from rfl]
                refine S.cR [0, 1] 5 [_, _, _] (hob := (keep_d (he := rfl) (h := (keep_c (he := rfl) (h := keep_n))))) (hF := writeUsed_fun (textP pre) (lineT s) (by omega)) (hn' := belowL rfl rfl) (h := S.end (hK _ ?_))
                clear hK K
                show Ev _ _ _ _
                refine Ev.region_S fun K hK => S.o q.add (S.o q.mv (S.end (hK _ ?_)))
                clear hK K
                refine hR0 _ _ ?_
                refine roundU [0, 4] [2, 3, 4, 14, 15] ⟨(pre ++ [s], suf), by rw [← hp]; simp, ?_⟩ ?_ (keep_d (hr := (by first | exact rfl | exact bp_ren rfl rfl)) (he := (by first | rfl | (simp only [textP_snoc, List.append_assoc]; done) | (simp only [textP_snoc, List.append_assoc, bp_snoc]; done))) (h := (keep_c (he := (by first | rfl | (simp only [textP_snoc, List.append_assoc]; done) | (simp only [textP_snoc, List.append_assoc, bp_snoc]; done))) (h := keep_n)))) (slots_c (he := (by first | rfl | (congr 2; simp; done))) (h := trivial)) (.c (.c (.c (.c (.c .n)))))
                trivial
                all_goals (dsimp only; simp only [List.length_cons]; omega)
              · skip
                rw [show joinS [32] (lineH s ++ s.dims.map Go.Lib.itoa) ++ [10] = lineT s from rfl]
                refine S.cR [0, 1] 5 [_, _, _] (hob := (keep_d (he := rfl) (h := (keep_c (he := rfl) (h := keep_n))))) (hF := writeFresh_fun (textP pre) (lineT s) (by omega)) (hn' := belowL rfl rfl) (h := S.end (hK _ ?_))
                clear hK K
                show Ev _ _ _ _
                refine Ev.region_S fun K hK => S.o q.add (S.o q.mv (S.end (hK _ ?_)))
                clear hK K
                refine hR0 _ _ ?_
                refine roundU [0, 4] [2, 3, 4, 14, 15] ⟨(pre ++ [s], suf), by rw [← hp]; simp, ?_⟩ ?_ (keep_d (hr := (by first | exact rfl | exact bp_ren rfl rfl)) (he := (by first | rfl | (simp only [textP_snoc, List.append_assoc]; done) | (simp only [textP_snoc, List.append_assoc, bp_snoc]; done))) (h := (keep_c (he := (by first | rfl | (simp only [textP_snoc, List.append_assoc]; done) | (simp only [textP_snoc, List.append_assoc, bp_snoc]; done))) (h := keep_n)))) (slots_c (he := (by first | rfl | (congr 2; simp; done))) (h := trivial)) (.c (.c (.c (.c (.c .n)))))
                trivial
                all_goals (dsimp only; simp only [List.length_cons]; omega)
          · simp only [List.length_cons] at hplk
            have hidk : s.dims[prek.length]? = some sk := by rw [← hpk]; simp
            have hskd := dims_in hsk.2.2.2.2.2.2 (show sk ∈ s.dims by rw [← hpk]; simp)
            have hhl : (lineH s).length = 4 := rfl
            refine Ev.sr fun K hK => S.o q.lss (S.end (hK _ ?_))
            clear hK K
            refine Ev.ud (fun c6 => ?_) (fun c6 => ?_)
            · first
            | (first | omega | contradiction)
            | refine Ev.seq ?_
              refine Ev.block ?_
              refine Ev.sr fun K hK => S.o (q.ix am_el47 am_cl3 (hl := (by first | exact ati hidx (by omega) | exact ati hidk (by omega) | exact atig (by omega)))) (S.o (q.ls am_ag3) (S.o q.as (S.end (hK _ ?_))))
              clear hK K
              refine Ev.region_S fun K hK => S.o q.mv (S.o q.mv (S.c0 (hF := itoa41_fun (by omega) (by omega)) (h := S.nn (q.bs [[_]] true am_el69 am_ze9 am_cl9) (S.ap' [_, _, _, _] am_el69 am_ze9 am_cl9 am_by9 (hh := head_own') (hr := (rows_lit [_])) (h := S.o q.as (S.end (hK _ ?_)))))))
              clear hK K
              show Ev _ _ _ _
              refine Ev.region_S fun K hK => S.o q.add (S.o q.mv (S.end (hK _ ?_)))
              clear hK K
              refine hR2 _ _ ?_
              refine roundU [0, 1, 2, 5] [2, 3, 4, 6, 7, 14, 15, 16, 17, 18, 19, 20, 21, 22, 23, 24, 25, 26, 27, 28, 29, 30, 31, 32, 33, 34, 35, 36, 38, 39, 40] ⟨(prek ++ [sk], sufk), by rw [← hpk]; simp⟩ ?_ (keep_d (hr := (by first | exact rfl | exact bp_ren rfl rfl)) (he := (by first | rfl | (simp; done))) (h := (keep_c (he := (by first | rfl | (simp; done))) (h := (keep_c (he := (by first | rfl | (simp; done))) (h := (keep_c (he := (by first | rfl | (simp; done))) (h := keep_n)))))))) (slots_c (he := (by first | rfl | (congr 2; simp; done))) (h := (slots_c (he := (by first | rfl | (congr 1; simp; done))) (h := trivial)))) (.c (.c (.c (.c (.c (.c (.c (.c (.c (.c (.c (.c (.c (.c (.c (.c (.c (.c (.c (.c (.c (.c (.c (.c (.c (.c (.c (.c (.c (.c (.c .n)))))))))))))))))))))))))))))))
              skip
              all_goals (dsimp only; simp only [List.length_cons]; omega)
            · first | omega | contradiction
        · first
        | (first | omega | contradiction)
        | refine Ev.skip ?_
          show Ev _ _ _ _
          first | rw [← code2_lo ‹s.code < 10›] | rw [← code2_hi ‹¬ s.code < 10›]
          refine Ev.sm (tbs [(0, 0), (1, 1), (0, 0), (3, 4), (4, 12), (0, 0), (6, 32), (7, 124), (0, 0), (9, 511), (10, 1023)]) 10 fun K hK => M.o (q.fa 0 am_fi49_0 am_cl9) (M.o (q.lv am_ag9) (M.o (q.fa 1 am_fi49_1 am_cl3) (M.o (q.lv am_ag3) (M.c0 (hF := itoa41_fun (by omega) (by omega)) (h := M.o (q.fa 2 am_fi49_2 am_cl3) (M.o (q.lv am_ag3) (M.c0 (hF := itoa41_fun (by omega) (by omega)) (h := M.o q.mv (M.nn [_] (q.bs [[_], [_], [_], [_]] true am_el69 am_ze9 am_cl9) (h := M.end [_, _, _, _] (h := S.o q.as (S.end (hK _ ?_)))))))))))))
          clear hK K
          refine Ev.seq ?_
          refine Ev.sr fun K hK => S.o (q.fa 4 am_fi49_4 am_cl47) (S.o (q.lv am_ag47) (S.o (q.lens am_el47) (S.o q.mv (S.end (hK _ ?_)))))
          clear hK K
          refine Ev.block ?_
          refine Ev.loopU (ι := {q : List Int × List Int // q.1 ++ q.2 = s.dims}) [0, 1, 2, 39] [2, 3, 4, 6, 7, 14, 15, 16, 17, 18, 19, 20, 21, 22, 23, 24, 25, 28, 29, 30, 31, 32, 33, 34, 35, 36, 38, 39, 40] (fun ⟨(prek, sufk), _⟩ => [(41, .lit (.int .i64 ((prek.length : Int)))), (8, .als 3 0 (lineH s ++ prek.map Go.Lib.itoa).length)]) (fun ⟨(prek, sufk), _⟩ => [(0, ⟨false, 67, 2, [[bp (!pre.isEmpty) 0, .als 1 0 (textP pre).length]], false⟩), (1, ⟨true, 5, 1, (textP pre).map byteC, true⟩), (2, ⟨false, 49, 5, [[.lit (str (s.mark)), .lit (.int .i64 (s.size)), .lit (.int .i64 (s.count)), .lit (.int .i64 (s.code)), .sh 1 ((s.dims).map intC)]], true⟩), (3, ⟨true, 9, 1, (lineH s ++ prek.map Go.Lib.itoa).map strC, true⟩)]) (fun ⟨(prek, sufk), _⟩ => sufk.length) ⟨([], s.dims), rfl⟩ (.c (.c (.c (.c (.c (.c (.c (.c (.c (.c (.c (.c (.c (.c (.c (.c (.c (.c (.c (.c (.c (.c (.c (.c (.c (.c (.c (.c (.c .n))))))))))))))))))))))))))))) (keep_d (hr := (by first | exact rfl | exact bp_ren rfl rfl)) (he := (by first | rfl | (simp; done))) (h := (keep_c (he := (by first | rfl | (simp; done))) (h := (keep_c (he := (by first | rfl | (simp; done))) (h := (keep_c (he := (by first | rfl | (simp; done))) (h := keep_n)))))))) (slots_c (he := (by first | rfl | (congr 2; simp; done))) (h := (slots_c (he := (by first | rfl | (congr 1; simp; done))) (h := trivial)))) ?_
          rintro ⟨⟨prek, sufk⟩, hpk⟩ R2 hR2
          dsimp only [List.cons_append, List.nil_append, List.length_cons, List.length_nil]
          simp only at hpk
          have hplk : prek.length + sufk.length = s.dims.length := by rw [← hpk, List.length_append]
          rcases sufk with _ | ⟨sk, sufk⟩
          · rw [List.append_nil] at hpk; subst prek; simp only [List.length_nil] at hplk
            refine Ev.sr fun K hK => S.o q.lss (S.end (hK _ ?_))
            clear hK K
            refine Ev.ud (fun c7 => ?_) (fun c7 => ?_)
            · first | omega | contradiction
            · first
            | (first | omega | contradiction)
            | refine Ev.exit ?_
              refine hR2 _ _ ?_
              show Ev _ _ _ _
              refine Ev.region_S fun K hK => S.o q.mv ?_
              refine SeqL.weaken (Wk.frz 51 [_, _, _]) ?_
              refine S.c0 (hF := join_fun (lineH s ++ s.dims.map Go.Lib.itoa) (by have h := hsl.1; unfold lineW at h; omega) hsl.2) (h := S.o q.sadd ?_)
              rcases hfl : pre.isEmpty with _ | _
              · skip
                rw [show joinS [32] (lineH s ++ s.dims.map Go.Lib.itoa) ++ [10] = lineT s from rfl]
                refine S.cR [0, 1] 5 [_, _, _] (hob := (keep_d (he := rfl) (h := (keep_c (he := rfl) (h := keep_n))))) (hF := writeUsed_fun (textP pre) (lineT s) (by omega)) (hn' := belowL rfl rfl) (h := S.end (hK _ ?_))
                clear hK K
                show Ev _ _ _ _
                refine Ev.region_S fun K hK => S.o q.add (S.o q.mv (S.end (hK _ ?_)))
                clear hK K
                refine hR0 _ _ ?_
                refine roundU [0, 4] [2, 3, 4, 14, 15] ⟨(pre ++ [s], suf), by rw [← hp]; simp, ?_⟩ ?_ (keep_d (hr := (by first | exact rfl | exact bp_ren rfl rfl)) (he := (by first | rfl | (simp only [textP_snoc, List.append_assoc]; done) | (simp only [textP_snoc, List.append_assoc, bp_snoc]; done))) (h := (keep_c (he := (by first | rfl | (simp only [textP_snoc, List.append_assoc]; done) | (simp only [textP_snoc, List.append_assoc, bp_snoc]; done))) (h := keep_n)))) (slots_c (he := (by first | rfl | (congr 2; simp; done))) (h := trivial)) (.c (.c (.c (.c (.c .n)))))
                trivial
                all_goals (dsimp only; simp only [List.length_cons]; omega)
              · skip
                rw [show joinS [32] (lineH s ++ s.dims.map Go.Lib.itoa) ++ [10] = lineT s from rfl]
                refine S.cR [0, 1] 5 [_, _, _] (hob := (keep_d (he := rfl) (h := (keep_c (he := rfl) (h := keep_n))))) (hF := writeFresh_fun (textP pre) (lineT s) (by omega)) (hn' := belowL rfl rfl) (h := S.end (hK _ ?_))
                clear hK K
                show Ev _ _ _ _
                refine Ev.region_S fun K hK => S.o q.add (S.o q.mv (S.end (hK _ ?_)))
                clear hK K
                refine hR0 _ _ ?_
                refine roundU [0, 4] [2, 3, 4, 14, 15] ⟨(pre ++ [s], suf), by rw [← hp]; simp, ?_⟩ ?_ (keep_d (hr := (by first | exact rfl | exact bp_ren rfl rfl)) (he := (by first | rfl | (simp only [textP_snoc, List.append_assoc]; done) | (simp only [textP_snoc, List.append_assoc, bp_snoc]; done))) (h := (keep_c (he := (by first | rfl | (simp only [textP_snoc, List.append_assoc]; done) | (simp only [textP_snoc, List.append_assoc, bp_snoc]; done))) (h := keep_n)))) (slots_c (he := (by first | rfl | (congr 2; simp; done))) (h := trivial)) (.c (.c (.c (.c (.c .n)))))
                trivial
                all_goals (dsimp only; simp only [List.length_cons]; omega)
          · simp only [List.length_cons] at hplk
            have hidk : s.dims[prek.length]? = some sk := by rw [← hpk]; simp
            have hskd := dims_in hsk.2.2.2.2.2.2 (show sk ∈ s.dims by rw [← hpk]; simp)
            have hhl : (lineH s).length = 4 := rfl
            refine Ev.sr fun K hK => S.o q.lss (S.end (hK _ ?_))
            clear hK K
            refine Ev.ud (fun c8 => ?_) (fun c8 => ?_)
            · first
            | (first | omega | contradiction)
            | refine Ev.seq ?_
              refine Ev.block ?_
              refine Ev.sr fun K hK => S.o (q.ix am_el47 am_cl3 (hl := (by first | exact ati hidx (by omega) | exact ati hidk (by omega) | exact atig (by omega)))) (S.o (q.ls am_ag3) (S.o q.as (S.end (hK _ ?_))))
              clear hK K
              refine Ev.region_S fun K hK => S.o q.mv (S.o q.mv (S.c0 (hF := itoa41_fun (by omega) (by omega)) (h := S.nn (q.bs [[_]] true am_el69 am_ze9 am_cl9) (S.ap' [_, _, _, _] am_el69 am_ze9 am_cl9 am_by9 (hh := head_own') (hr := (rows_lit [_])) (h := S.o q.as (S.end (hK _ ?_)))))))
              clear hK K
              show Ev _ _ _ _
              refine Ev.region_S fun K hK => S.o q.add (S.o q.mv (S.end (hK _ ?_)))
              clear hK K
              refine hR2 _ _ ?_
              refine roundU [0, 1, 2, 5] [2, 3, 4, 6, 7, 14, 15, 16, 17, 18, 19, 20, 21, 22, 23, 24, 25, 28, 29, 30, 31, 32, 33, 34, 35, 36, 38, 39, 40] ⟨(prek ++ [sk], sufk), by rw [← hpk]; simp⟩ ?_ (keep_d (hr := (by first | exact rfl | exact bp_ren rfl rfl)) (he := (by first | rfl | (simp; done))) (h := (keep_c (he := (by first | rfl | (simp; done))) (h := (keep_c (he := (by first | rfl | (simp; done))) (h := (keep_c (he := (by first | rfl | (simp; done))) (h := keep_n)))))))) (slots_c (he := (by first | rfl | (congr 2; simp; done))) (h := (slots_c (he := (by first | rfl | (congr 1; simp; done))) (h := trivial)))) (.c (.c (.c (.c (.c (.c (.c (.c (.c (.c (.c (.c (.c (.c (.c (.c (.c (.c (.c (.c (.c (.c (.c (.c (.c (.c (.c (.c (.c .n)))))))))))))))))))))))))))))
              skip
              all_goals (dsimp only; simp only [List.length_cons]; omega)
            · first | omega | contradiction
      · first | omega | contradiction
theorem Text_fun (l : List Bar) (hl : l.length ≤ 140737488355328) (hw : schedW l) : Fun Tryz.prog 13 [.sh 5 (l.map Bar.c)] (Ret (.tup [.lit (str (textV l)), .lit (.int .i64 (textE l))]) []) := by
  cases l with
  | nil => exact Text_nil
  | cons c l => exact Text_cons (c :: l) rfl hl hw
end Go.Proofs.YtddogeicmhbidaaGreatDoor
