/-
  Decimal numerals.
  Conditions: none.
-/
import Derived.Test.YtccddakkegelkaaGreatDoorBase
import Derived.Test.YtccddakkegelkaaGreatDoorAmItoa
import Derived.Test.YtccddakkegelkaaGreatDoorAmBld
import Derived.Shelf.Lay
import Derived.Ground.NamesProg
import Derived.Test.YtccddakkegelkaaGreatDoorBld
import Derived.Test.YtccddakkegelkaaGreatDoorAmJoin
import Derived.Shelf.Strings.BuilderX
import Derived.Test.YtccddakkegelkaaGreatDoorSteel
import Derived.Test.YtccddakkegelkaaGreatDoorAmStrs
import Derived.Test.YtccddakkegelkaaGreatDoorAmRes
import Derived.Test.YtccddakkegelkaaGreatDoorAmOwn
import Derived.Test.YtccddakkegelkaaGreatDoorAmDel
namespace Go.Proofs.YtccddakkegelkaaGreatDoor
open Go Go.AM
set_option linter.unusedSimpArgs false
set_option linter.unusedVariables false
set_option maxRecDepth 100000
open Go.Lib in
theorem dec_len : ∀ (k u : Nat), u < 10 ^ (k + 1) → (decDigits u).length ≤ k + 1 := by
  intro k
  induction k with
  | zero =>
    intro u h
    rw [decDigits, dif_pos (by omega)]
    simp
  | succ k ih =>
    intro u h
    rw [decDigits]
    split
    · simp
    · have := ih (u / 10) (by rw [Nat.pow_succ] at h; omega)
      simp only [List.length_append, List.length_singleton]
      omega
theorem itoa_len {N : Int} (h0 : 0 ≤ N) (h1 : N ≤ 1099511627777) : (Go.Lib.itoa N).length ≤ 21 := by
  obtain ⟨u, rfl⟩ : ∃ u : Nat, N = u := ⟨N.toNat, by omega⟩
  rw [Go.Lib.itoa_nonneg]
  have := dec_len 20 u (by omega)
  omega
/-- The decimal digits of a number, none for 0. -/
def digZ (n : Int) : List UInt8 := if n = 0 then [] else Go.Lib.itoa n
open Go.Shelf in
shelf_lay LaysM.n171 Nm 171 at Tryz as lays171
theorem itoa41_fun {n : Int} (h0 : 0 ≤ n) (h1 : n ≤ 1099511627777) : Fun Tryz.prog 53 [.lit (.int .i64 n)] (Ret (.lit (str (Go.Lib.itoa n))) []) :=
  itoa_fun lays171 ⟨_, Tryz.func53, rfl, rfl⟩ (g := 1) (by kernel_rfl) (by unfold laidG; exact List.mem_singleton.2 rfl) (by omega) (by omega)
end Go.Proofs.YtccddakkegelkaaGreatDoor
namespace Go.Proofs.YtccddakkegelkaaGreatDoor
open Go Go.AM
set_option linter.unusedSimpArgs false
set_option linter.unusedVariables false
set_option maxRecDepth 100000
set_option maxHeartbeats 2000000

open Go.Shelf in
shelf_lay Lays.n241 Nm 241 at Tryz as lays241
theorem bext : Go.Proofs.Builder.Extra Tryz.prog lays241_ren where
  sizeBuilder := by kernel_rfl
  liesBuilder := by kernel_rfl
  t5 := Tryz.underlying5
  a5 := Tryz.isAgg5
  z5 := Tryz.sizeOf5
  v5 := Tryz.zeroValue5
  infoByte := by kernel_rfl
  cellsByte := by kernel_rfl
  sizeByte := by kernel_rfl
  neB5 := by decide
theorem copyNil_fun : FunR Tryz.prog 58 [.adr 0 0 0] [(0, ⟨false, 70, 2, [[.lit (.pointer none), .lit (.slice none 0 0)]], true⟩)] 1 (Ret (.tup []) [(0, ⟨false, 70, 2, [[.adr 0 0 0, .lit (.slice none 0 0)]], false⟩)]) := by
  refine FunR.of (nt := 20) (rs := []) Tryz.func58 rfl rfl rfl rfl rfl ?_
  refine Ev.sr fun K hK => S.o q.mv (S.o q.nc (S.o (q.fa 0 am_fi70_0 am_cl67) (S.o (q.lv am_ag67) (S.peq (by kernel_rfl : Tryz.prog.underlying 67 = some (.pointer 70)) (h := S.end (hK _ ?_))))))
  clear hK K
  refine Ev.ct ?_
  refine Ev.region_S fun K hK => S.o q.mv (S.o q.mv (S.p2u (by kernel_rfl : Tryz.prog.underlying 67 = some (.pointer 70)) (by kernel_rfl) (by kernel_rfl) (h := S.same (f := 86) (fn := Tryz.f86) Tryz.func86 (by kernel_rfl) (by kernel_rfl) (by kernel_rfl) (by kernel_rfl) (h := S.u2p (by kernel_rfl) (by kernel_rfl : Tryz.prog.underlying 67 = some (.pointer 70)) (by kernel_rfl) (by kernel_rfl) (h := S.o q.nc (S.o (q.fa 0 am_fi70_0 am_cl67) (S.sv [_, _] false [] am_in67 am_cl67 (h := S.end (hK _ ?_)))))))))
  clear hK K
  show endR _ _ _ _ Exit.ret _
  refine Ev.rr0 [0] (keepR_d (h := keepR_n)) leads1 ?_
  refine ⟨?_, ?_⟩
  all_goals rfl
theorem grow1_fun {n : Int} (h0 : 0 ≤ n) (hn : n ≤ 281474976710656) : FunR Tryz.prog 85 [.adr 0 0 0, .lit (.int .i64 n)] [(0, ⟨false, 70, 2, [[.adr 0 0 0, .lit (.slice none 0 0)]], false⟩)] 1 (Ret (.tup []) [(0, ⟨false, 70, 2, [[.adr 0 0 0, .als 1 0 0]], false⟩), (1, ⟨true, 5, 1, [], true⟩)]) := grow_R lays241 bext ⟨_, Tryz.func85, rfl, rfl⟩ h0 hn
theorem grow0_fun {n : Int} (h0 : 0 < n) (hn : n ≤ 281474976710656) : FunR Tryz.prog 57 [.adr 0 0 0, .lit (.int .i64 n)] [(0, ⟨false, 70, 2, [[.lit (.pointer none), .lit (.slice none 0 0)]], true⟩)] 1 (Ret (.tup []) [(0, ⟨false, 70, 2, [[.adr 0 0 0, .als 1 0 0]], false⟩), (1, ⟨true, 5, 1, [], true⟩)]) := by
  refine FunR.of (nt := 25) (rs := []) Tryz.func57 rfl rfl rfl rfl rfl ?_
  refine Ev.sr fun K hK => S.o q.mv (S.cR [0] 1 [_] (hob := (keep_c (he := rfl) (h := keep_n))) (hF := copyNil_fun) (hn' := belowL rfl rfl) (h := S.end (hK _ ?_)))
  clear hK K
  refine Ev.seq ?_
  refine Ev.sr fun K hK => S.o q.mv (S.o q.lss (S.end (hK _ ?_)))
  clear hK K
  refine Ev.cd (fun c1 => ?_) (fun c1 => ?_)
  · first
  | (first | omega | contradiction)
  | omega
  · first
  | (first | omega | contradiction)
  | refine Ev.skip ?_
    show Ev _ _ _ _
    refine Ev.sm (tbs [(0, 0), (1, 1), (2, 3), (3, 7), (4, 15), (0, 0), (6, 32), (7, 96), (8, 224), (9, 480), (10, 1023), (0, 0), (12, 4095)]) 13 fun K hK => M.o q.mv (M.o q.nc (M.o (q.fa 1 am_fi70_1 am_cl68) (M.o (q.lv am_ag68) (M.o (q.cap0 am_el68) (M.o q.mv (M.o q.nc (M.o (q.fa 1 am_fi70_1 am_cl68) (M.o (q.lv am_ag68) (M.o (q.lenn am_el68) (M.o q.sub (M.o q.mv (M.o q.lss (M.end [_] (h := S.end (hK _ ?_)))))))))))))))
    clear hK K
    refine Ev.cd (fun c2 => ?_) (fun c2 => ?_)
    · first
    | (first | omega | contradiction)
    | refine Ev.region_S fun K hK => S.o q.mv (S.o q.mv (S.cR [0] 54 [_, _] (hob := (keep_d (he := rfl) (h := keep_n))) (hF := grow1_fun (by omega) (by omega)) (hn' := belowL rfl rfl) (h := S.end (hK _ ?_))))
      clear hK K
      show endR _ _ _ _ Exit.ret _
      refine Ev.rr0 [0, 53] (keepR_d (h := (keepR_c (h := keepR_n)))) (leadsB rfl) ?_
      refine ⟨?_, ?_⟩
      all_goals rfl
    · first
    | (first | omega | contradiction)
    | refine Ev.skip ?_
      show endR _ _ _ _ Exit.ret _
      refine Ev.rr0 [0] (keepR_d (h := keepR_n)) leads1 ?_
      refine ⟨?_, ?_⟩
      all_goals rfl

def sepcat (sep : List UInt8) (l : List (List UInt8)) : List UInt8 := (l.map fun y => sep ++ y).flatten
/-- Words, joined. -/
def joinS (sep : List UInt8) : List (List UInt8) → List UInt8
  | [] => []
  | x :: l => x ++ sepcat sep l
theorem sepcat_snoc (sep : List UInt8) (l : List (List UInt8)) (x : List UInt8) : sepcat sep (l ++ [x]) = sepcat sep l ++ sep ++ x := by simp [sepcat]
theorem sepcat_pos {sep : List UInt8} {l : List (List UInt8)} (h : 1 ≤ l.length) (hs : 0 < sep.length) : 0 < (sepcat sep l).length := by
  cases l with
  | nil => simp at h
  | cons x l =>
    simp only [sepcat, List.map_cons, List.flatten_cons, List.length_append]
    omega
def lenS (l : List (List UInt8)) : Int := (l.map fun x => (x.length : Int)).sum
theorem lenS_snoc (l : List (List UInt8)) (x : List UInt8) : lenS (l ++ [x]) = lenS l + x.length := by simp [lenS]
theorem lenS_bd : ∀ l : List (List UInt8), (∀ x ∈ l, x.length ≤ 1000000) → 0 ≤ lenS l ∧ lenS l ≤ 1000000 * l.length := by
  refine snoc_ind (fun _ => by simp [lenS]) ?_
  intro l s ih h
  have := ih fun b hb => h b (by simp [hb])
  have := h s (by simp)
  rw [lenS_snoc, List.length_append, List.length_singleton]
  omega
theorem sepcat_len (sep : List UInt8) : ∀ l : List (List UInt8), (∀ x ∈ l, x.length ≤ 1000000) → (sepcat sep l).length ≤ (sep.length + 1000000) * l.length := by
  refine snoc_ind (fun _ => by simp [sepcat]) ?_
  intro l s ih h
  have := ih fun b hb => h b (by simp [hb])
  have := h s (by simp)
  rw [sepcat_snoc, List.length_append, List.length_append, List.length_append, List.length_singleton, Nat.mul_add]
  omega
theorem joinS_len (sep : List UInt8) (l : List (List UInt8)) (h : ∀ x ∈ l, x.length ≤ 1000000) : (joinS sep l).length ≤ (sep.length + 1000000) * l.length := by
  cases l with
  | nil => simp [joinS]
  | cons x l =>
    have h1 := sepcat_len sep l (fun y hy => h y (by simp [hy]))
    have h2 := h x (by simp)
    rw [joinS, List.length_append, List.length_cons, Nat.mul_add]
    omega
theorem join_room {b : Int} (hb : 1 ≤ b) (hb2 : b ≤ 1000) (h : (1 : Int) ≥ 9223372036854775807 / b) : False := by
  have : (2 : Int) ≤ 9223372036854775807 / b := (Int.le_ediv_iff_mul_le (by omega)).2 (by omega)
  omega
theorem tail_eq (x : List UInt8) (r : List (List UInt8)) : ((x :: r).drop (1 : Int).toNat).take (((((x :: r).map strC).length : Int)).toNat - (1 : Int).toNat) = r := by simp
theorem join_fun (xs : List (List UInt8)) (h2 : xs.length ≤ 1000) (he : ∀ x ∈ xs, x.length ≤ 1000000) : Fun Tryz.prog 34 [.sh 1 (xs.map strC), .lit (str [32])] (Ret (.lit (str (joinS [32] xs))) []) := by
  have hone : (([32] : List UInt8).length : Int) = 1 := rfl
  refine Fun.of (nt := 75) (rs := [.tmp 4]) Tryz.func34 rfl rfl rfl rfl rfl ?_
  refine Ev.sr fun K hK => S.o q.as (S.end (hK _ ?_))
  clear hK K
  refine Ev.seq ?_
  refine Ev.sr fun K hK => S.o q.mv (S.o (q.lens am_el61) (S.end (hK _ ?_)))
  clear hK K
  refine Ev.block ?_
  refine Ev.sr fun K hK => S.o q.eql (S.o q.as (S.end (hK _ ?_)))
  clear hK K
  refine Ev.cd (fun c1 => ?_) (fun c1 => ?_)
  · first
  | (first | omega | contradiction)
  | obtain rfl : xs = [] := List.eq_nil_of_length_eq_zero (by omega)
    refine Ev.sr fun K hK => S.o q.as (S.end (hK _ ?_))
    clear hK K
    refine Ev.ret ?_
    refine Ev.ret1 ?_
    refine ⟨?_, rfl⟩
    first | rfl | (simp only [joinS, sepcat, List.map_nil, List.flatten_nil, List.append_nil]; done)
  · first
  | (first | omega | contradiction)
  | refine Ev.sr fun K hK => S.o q.eql (S.o q.as (S.end (hK _ ?_)))
    clear hK K
    refine Ev.cd (fun c2 => ?_) (fun c2 => ?_)
    · first
    | (first | omega | contradiction)
    | obtain ⟨x0, rfl⟩ : ∃ x0, xs = [x0] := List.length_eq_one_iff.1 (by omega)
      have hx0 : [x0][0]? = some x0 := rfl
      refine Ev.sr fun K hK => S.o q.mv (S.o (q.ix am_el61 am_cl9 (hl := (by first | exact ati hx0 (by omega) | exact atig (by omega)))) (S.o (q.ls am_ag9) (S.o q.as (S.end (hK _ ?_)))))
      clear hK K
      refine Ev.ret ?_
      refine Ev.ret1 ?_
      refine ⟨?_, rfl⟩
      first | rfl | (simp only [joinS, sepcat, List.map_nil, List.flatten_nil, List.append_nil]; done)
    · first
    | (first | omega | contradiction)
    | refine Ev.skip ?_
      show Ev _ _ _ _
      obtain ⟨x0, r, rfl⟩ : ∃ x0 r, xs = x0 :: r := by
        cases xs with
        | nil => simp at *
        | cons x r => exact ⟨x, r, rfl⟩
      have hx0 : (x0 :: r)[0]? = some x0 := rfl
      have hrl : ((x0 :: r).length : Int) = r.length + 1 := by simp
      have hrn : 1 ≤ r.length := by omega
      have hxl := he x0 (by simp)
      refine Ev.sr fun K hK => S.o q.as (S.end (hK _ ?_))
      clear hK K
      refine Ev.seq ?_
      refine Ev.sr fun K hK => S.o q.mv (S.o (q.slen am_el9 am_un9) (S.o q.gtr (S.end (hK _ ?_))))
      clear hK K
      refine Ev.cd (fun c3 => ?_) (fun c3 => ?_)
      · first
      | (first | omega | contradiction)
      | refine Ev.seq ?_
        refine Ev.sr fun K hK => S.o q.mv (S.o (q.slen am_el9 am_un9) (S.o q.mv (S.o (q.lens am_el61) (S.o q.sub (S.o q.quo ?_)))))
        simp only [hone]
        refine S.o q.geq (S.end (hK _ ?_))
        clear hK K
        refine Ev.cd (fun c4 => ?_) (fun c4 => ?_)
        · first
        | (first | omega | contradiction)
        | exact (join_room (b := (((x0 :: r).length : Int) - 1)) (by omega) (by omega) ‹_›).elim
        · first
        | (first | omega | contradiction)
        | refine Ev.skip ?_
          show Ev _ _ _ _
          refine Ev.region_S fun K hK => S.o q.mv (S.o q.mv (S.o (q.slen am_el9 am_un9) (S.o q.mv (S.o (q.lens am_el61) (S.o q.sub ?_)))))
          simp only [hone]
          refine S.o q.mul (S.o q.add (S.o q.as (S.end (hK _ ?_))))
          clear hK K
          show Ev _ _ _ _
          refine Ev.seq ?_
          refine Ev.sr fun K hK => S.o q.mv (S.o (q.lens am_el61) (S.o q.mv (S.end (hK _ ?_))))
          clear hK K
          refine Ev.block ?_
          refine Ev.loopU (ι := {p : List (List UInt8) × List (List UInt8) // p.1 ++ p.2 = (x0 :: r) ∧ True}) [] [0, 1, 4, 39, 40] (fun ⟨(pre, suf), _⟩ => [(41, .lit (.int .i64 ((pre.length : Int)))), (5, .lit (.int .i64 ((r.length : Int) + lenS pre)))]) (fun ⟨(pre, suf), _⟩ => []) (fun ⟨(pre, suf), _⟩ => suf.length) ⟨([], (x0 :: r)), rfl, trivial⟩ (.c (.c (.c (.c (.c .n))))) keep_n (slots_c (he := (by first | rfl | (congr 2; simp; done))) (h := (slots_c (he := (by first | rfl | exact iE (by rw [lenS_snoc]; omega) | exact iE (by simp only [lenS, List.map_nil, List.sum_nil]; omega))) (h := trivial)))) ?_
          rintro ⟨⟨pre, suf⟩, hp, hinv⟩ R1 hR1
          dsimp only [List.cons_append, List.nil_append, List.length_cons, List.length_nil]
          simp only at hp hinv
          have hpl : pre.length + suf.length = ((x0 :: r)).length := by rw [← hp, List.length_append]
          rcases suf with _ | ⟨s, suf⟩
          · rw [List.append_nil] at hp; subst hp; simp only [List.length_nil] at hpl
            obtain ⟨l1, l2⟩ := lenS_bd (x0 :: r) he
            refine Ev.sr fun K hK => S.o q.lss (S.end (hK _ ?_))
            clear hK K
            refine Ev.ud (fun c5 => ?_) (fun c5 => ?_)
            · first | omega | contradiction
            · first
            | (first | omega | contradiction)
            | refine Ev.exit ?_
              refine hR1 _ _ ?_
              show Ev _ _ _ _
              refine Ev.sr fun K hK => S.nn (q.al am_ze70) (S.end (hK _ ?_))
              clear hK K
              refine Ev.sr fun K hK => S.o q.mv (S.cR [0] 2 [_, _] (hob := (keep_c (he := rfl) (h := keep_n))) (hF := grow0_fun (by omega) (by omega)) (hn' := belowL rfl rfl) (h := S.end (hK _ ?_)))
              clear hK K
              refine Ev.sr fun K hK => S.o q.mv (S.o (q.ix am_el61 am_cl9 (hl := (by first | exact ati hx0 (by omega) | exact atig (by omega)))) (S.o (q.ls am_ag9) (S.cR [0, 1] 3 [_, _] (hob := (keep_d (he := rfl) (h := (keep_c (he := rfl) (h := keep_n))))) (hF := writeUsed_fun ([]) _ (by simp only [List.length_nil]; omega)) (hn' := belowL rfl rfl) (h := S.end (hK _ ?_)))))
              clear hK K
              refine Ev.seq ?_
              refine Ev.sr fun K hK => S.o q.mv (S.o (q.sh am_el61 am_cl9) ?_)
              rw [tail_eq]
              refine S.o (q.lens am_el61) (S.o q.mv (S.end (hK _ ?_)))
              clear hK K
              refine Ev.block ?_
              refine Ev.loopU (ι := {p : List (List UInt8) × List (List UInt8) // p.1 ++ p.2 = r ∧ True}) [0, 2] [0, 1, 4, 5, 8, 39, 40, 41, 42, 56, 58, 59, 60, 62, 63, 64] (fun ⟨(pre, suf), _⟩ => [(65, .lit (.int .i64 ((pre.length : Int))))]) (fun ⟨(pre, suf), _⟩ => [(0, ⟨false, 70, 2, [[bp (true) 0, .als 1 0 (x0 ++ sepcat [32] pre).length]], false⟩), (1, ⟨true, 5, 1, (x0 ++ sepcat [32] pre).map byteC, true⟩)]) (fun ⟨(pre, suf), _⟩ => suf.length) ⟨([], r), rfl, trivial⟩ (.c (.c (.c (.c (.c (.c (.c (.c (.c (.c (.c (.c (.c (.c (.c (.c .n)))))))))))))))) (keep_d (hr := (by first | exact rfl | exact bp_ren rfl rfl)) (he := (by first | rfl | (simp only [sepcat_snoc, List.append_assoc]; done) | (simp only [sepcat_snoc, List.append_assoc] <;> rfl) | (simp only [sepcat, List.map_nil, List.flatten_nil, List.append_nil, List.nil_append]; done) | (simp only [sepcat, List.map_nil, List.flatten_nil, List.append_nil, List.nil_append] <;> rfl))) (h := (keep_c (he := (by first | rfl | (simp only [sepcat_snoc, List.append_assoc]; done) | (simp only [sepcat_snoc, List.append_assoc] <;> rfl) | (simp only [sepcat, List.map_nil, List.flatten_nil, List.append_nil, List.nil_append]; done) | (simp only [sepcat, List.map_nil, List.flatten_nil, List.append_nil, List.nil_append] <;> rfl))) (h := keep_n)))) (slots_c (he := (by first | rfl | (congr 2; simp; done))) (h := trivial)) ?_
              rintro ⟨⟨pre, suf⟩, hp, hinv⟩ R3 hR3
              dsimp only [List.cons_append, List.nil_append, List.length_cons, List.length_nil]
              simp only at hp hinv
              have hpl : pre.length + suf.length = (r).length := by rw [← hp, List.length_append]
              rcases suf with _ | ⟨s, suf⟩
              · rw [List.append_nil] at hp; subst pre; simp only [List.length_nil] at hpl
                have hsp := sepcat_pos (sep := [32]) hrn (by decide)
                refine Ev.sr fun K hK => S.o q.lss (S.end (hK _ ?_))
                clear hK K
                refine Ev.ud (fun c6 => ?_) (fun c6 => ?_)
                · first | omega | contradiction
                · first
                | (first | omega | contradiction)
                | refine Ev.exit ?_
                  refine hR3 _ _ ?_
                  show Ev _ _ _ _
                  refine Ev.sr fun K hK => S.cR [0, 1] 2 [_] (hob := (keep_d (he := rfl) (h := (keep_c (he := rfl) (h := keep_n))))) (hF := string_fun _ (by rw [List.length_append]; omega)) (hn' := belowL rfl rfl) (h := S.o q.as (S.end (hK _ ?_)))
                  clear hK K
                  refine Ev.ret ?_
                  refine Ev.ret1 ?_
                  refine ⟨?_, rfl⟩
                  first | rfl | (simp only [joinS, sepcat, List.map_nil, List.flatten_nil, List.append_nil]; done)
              · simp only [List.length_cons] at hpl
                have hidx : (r)[pre.length]? = some s := by rw [← hp]; simp
                have hs := he s (by rw [← hp]; simp)
                have hsc := sepcat_len [32] pre (fun x hx => he x (by rw [← hp]; simp [hx]))
                simp only [List.length_cons, List.length_nil] at hsc
                refine Ev.sr fun K hK => S.o q.lss (S.end (hK _ ?_))
                clear hK K
                refine Ev.ud (fun c7 => ?_) (fun c7 => ?_)
                · first
                | (first | omega | contradiction)
                | refine Ev.seq ?_
                  refine Ev.block ?_
                  refine Ev.sr fun K hK => S.o (q.ix am_el61 am_cl9 (hl := (by first | exact ati hx0 (by omega) | exact ati hidx (by omega) | exact atig (by omega)))) (S.o (q.ls am_ag9) (S.o q.as (S.end (hK _ ?_))))
                  clear hK K
                  refine Ev.sr fun K hK => S.o q.mv (S.cR [0, 1] 3 [_, _] (hob := (keep_d (he := rfl) (h := (keep_c (he := rfl) (h := keep_n))))) (hF := writeUsed_fun (x0 ++ sepcat [32] pre) _ (by simp only [List.length_append, List.length_cons, List.length_nil]; omega)) (hn' := belowL rfl rfl) (h := S.end (hK _ ?_)))
                  clear hK K
                  refine Ev.region_S fun K hK => S.o q.mv (S.cR [0, 2] 4 [_, _] (hob := (keep_d (he := rfl) (h := (keep_c (he := rfl) (h := keep_n))))) (hF := writeUsed_fun ((x0 ++ sepcat [32] pre) ++ [32]) _ (by simp only [List.length_append, List.length_cons, List.length_nil]; omega)) (hn' := belowL rfl rfl) (h := S.end (hK _ ?_)))
                  clear hK K
                  show Ev _ _ _ _
                  refine Ev.region_S fun K hK => S.o q.add (S.o q.mv (S.end (hK _ ?_)))
                  clear hK K
                  refine hR3 _ _ ?_
                  refine roundU [0, 3] [0, 1, 4, 5, 8, 39, 40, 41, 42, 56, 58, 59, 60, 62, 63, 64] ⟨(pre ++ [s], suf), by rw [← hp]; simp, ?_⟩ ?_ (keep_d (hr := (by first | exact rfl | exact bp_ren rfl rfl)) (he := (by first | rfl | (simp only [sepcat_snoc, List.append_assoc]; done) | (simp only [sepcat_snoc, List.append_assoc] <;> rfl) | (simp only [sepcat, List.map_nil, List.flatten_nil, List.append_nil, List.nil_append]; done) | (simp only [sepcat, List.map_nil, List.flatten_nil, List.append_nil, List.nil_append] <;> rfl))) (h := (keep_c (he := (by first | rfl | (simp only [sepcat_snoc, List.append_assoc]; done) | (simp only [sepcat_snoc, List.append_assoc] <;> rfl) | (simp only [sepcat, List.map_nil, List.flatten_nil, List.append_nil, List.nil_append]; done) | (simp only [sepcat, List.map_nil, List.flatten_nil, List.append_nil, List.nil_append] <;> rfl))) (h := keep_n)))) (slots_c (he := (by first | rfl | (congr 2; simp; done))) (h := trivial)) (.c (.c (.c (.c (.c (.c (.c (.c (.c (.c (.c (.c (.c (.c (.c (.c .n))))))))))))))))
                  trivial
                  all_goals (dsimp only; simp only [List.length_cons]; omega)
                · first | omega | contradiction
          · simp only [List.length_cons] at hpl
            have hidx : ((x0 :: r))[pre.length]? = some s := by rw [← hp]; simp
            have hs := he s (by rw [← hp]; simp)
            obtain ⟨l1, l2⟩ := lenS_bd pre (fun x hx => he x (by rw [← hp]; simp [hx]))
            refine Ev.sr fun K hK => S.o q.lss (S.end (hK _ ?_))
            clear hK K
            refine Ev.ud (fun c8 => ?_) (fun c8 => ?_)
            · first
            | (first | omega | contradiction)
            | refine Ev.seq ?_
              refine Ev.block ?_
              refine Ev.sr fun K hK => S.o (q.ix am_el61 am_cl9 (hl := (by first | exact ati hx0 (by omega) | exact ati hidx (by omega) | exact atig (by omega)))) (S.o (q.ls am_ag9) (S.o q.as (S.end (hK _ ?_))))
              clear hK K
              refine Ev.seq ?_
              refine Ev.sr fun K hK => S.o q.mv (S.o (q.slen am_el9 am_un9) (S.o q.mv (S.o q.sub (S.o q.gtr (S.end (hK _ ?_))))))
              clear hK K
              refine Ev.cd (fun c9 => ?_) (fun c9 => ?_)
              · first
              | (first | omega | contradiction)
              | omega
              · first
              | (first | omega | contradiction)
              | refine Ev.skip ?_
                show Ev _ _ _ _
                refine Ev.region_S fun K hK => S.o q.mv (S.o q.mv (S.o (q.slen am_el9 am_un9) (S.o q.add (S.o q.as (S.end (hK _ ?_))))))
                clear hK K
                show Ev _ _ _ _
                refine Ev.region_S fun K hK => S.o q.add (S.o q.mv (S.end (hK _ ?_)))
                clear hK K
                refine hR1 _ _ ?_
                refine roundU [] [0, 1, 4, 39, 40] ⟨(pre ++ [s], suf), by rw [← hp]; simp, ?_⟩ ?_ keep_n (slots_c (he := (by first | rfl | (congr 2; simp; done))) (h := (slots_c (he := (by first | rfl | exact iE (by rw [lenS_snoc]; omega) | exact iE (by simp only [lenS, List.map_nil, List.sum_nil]; omega))) (h := trivial)))) (.c (.c (.c (.c (.c .n)))))
                trivial
                all_goals (dsimp only; simp only [List.length_cons]; omega)
            · first | omega | contradiction
      · first
      | (first | omega | contradiction)
      | refine Ev.skip ?_
        show Ev _ _ _ _
        refine Ev.seq ?_
        refine Ev.sr fun K hK => S.o q.mv (S.o (q.lens am_el61) (S.o q.mv (S.end (hK _ ?_))))
        clear hK K
        refine Ev.block ?_
        refine Ev.loopU (ι := {p : List (List UInt8) × List (List UInt8) // p.1 ++ p.2 = (x0 :: r) ∧ True}) [] [0, 1, 4, 39, 40] (fun ⟨(pre, suf), _⟩ => [(41, .lit (.int .i64 ((pre.length : Int)))), (5, .lit (.int .i64 ((r.length : Int) + lenS pre)))]) (fun ⟨(pre, suf), _⟩ => []) (fun ⟨(pre, suf), _⟩ => suf.length) ⟨([], (x0 :: r)), rfl, trivial⟩ (.c (.c (.c (.c (.c .n))))) keep_n (slots_c (he := (by first | rfl | (congr 2; simp; done))) (h := (slots_c (he := (by first | rfl | exact iE (by rw [lenS_snoc]; omega) | exact iE (by simp only [lenS, List.map_nil, List.sum_nil]; omega))) (h := trivial)))) ?_
        rintro ⟨⟨pre, suf⟩, hp, hinv⟩ R1 hR1
        dsimp only [List.cons_append, List.nil_append, List.length_cons, List.length_nil]
        simp only at hp hinv
        have hpl : pre.length + suf.length = ((x0 :: r)).length := by rw [← hp, List.length_append]
        rcases suf with _ | ⟨s, suf⟩
        · rw [List.append_nil] at hp; subst hp; simp only [List.length_nil] at hpl
          obtain ⟨l1, l2⟩ := lenS_bd (x0 :: r) he
          refine Ev.sr fun K hK => S.o q.lss (S.end (hK _ ?_))
          clear hK K
          refine Ev.ud (fun c10 => ?_) (fun c10 => ?_)
          · first | omega | contradiction
          · first
          | (first | omega | contradiction)
          | refine Ev.exit ?_
            refine hR1 _ _ ?_
            show Ev _ _ _ _
            refine Ev.sr fun K hK => S.nn (q.al am_ze70) (S.end (hK _ ?_))
            clear hK K
            refine Ev.sr fun K hK => S.o q.mv (S.cR [0] 2 [_, _] (hob := (keep_c (he := rfl) (h := keep_n))) (hF := grow0_fun (by omega) (by omega)) (hn' := belowL rfl rfl) (h := S.end (hK _ ?_)))
            clear hK K
            refine Ev.sr fun K hK => S.o q.mv (S.o (q.ix am_el61 am_cl9 (hl := (by first | exact ati hx0 (by omega) | exact atig (by omega)))) (S.o (q.ls am_ag9) (S.cR [0, 1] 3 [_, _] (hob := (keep_d (he := rfl) (h := (keep_c (he := rfl) (h := keep_n))))) (hF := writeUsed_fun ([]) _ (by simp only [List.length_nil]; omega)) (hn' := belowL rfl rfl) (h := S.end (hK _ ?_)))))
            clear hK K
            refine Ev.seq ?_
            refine Ev.sr fun K hK => S.o q.mv (S.o (q.sh am_el61 am_cl9) ?_)
            rw [tail_eq]
            refine S.o (q.lens am_el61) (S.o q.mv (S.end (hK _ ?_)))
            clear hK K
            refine Ev.block ?_
            refine Ev.loopU (ι := {p : List (List UInt8) × List (List UInt8) // p.1 ++ p.2 = r ∧ True}) [0, 2] [0, 1, 4, 5, 8, 39, 40, 41, 42, 56, 58, 59, 60, 62, 63, 64] (fun ⟨(pre, suf), _⟩ => [(65, .lit (.int .i64 ((pre.length : Int))))]) (fun ⟨(pre, suf), _⟩ => [(0, ⟨false, 70, 2, [[bp (true) 0, .als 1 0 (x0 ++ sepcat [32] pre).length]], false⟩), (1, ⟨true, 5, 1, (x0 ++ sepcat [32] pre).map byteC, true⟩)]) (fun ⟨(pre, suf), _⟩ => suf.length) ⟨([], r), rfl, trivial⟩ (.c (.c (.c (.c (.c (.c (.c (.c (.c (.c (.c (.c (.c (.c (.c (.c .n)))))))))))))))) (keep_d (hr := (by first | exact rfl | exact bp_ren rfl rfl)) (he := (by first | rfl | (simp only [sepcat_snoc, List.append_assoc]; done) | (simp only [sepcat_snoc, List.append_assoc] <;> rfl) | (simp only [sepcat, List.map_nil, List.flatten_nil, List.append_nil, List.nil_append]; done) | (simp only [sepcat, List.map_nil, List.flatten_nil, List.append_nil, List.nil_append] <;> rfl))) (h := (keep_c (he := (by first | rfl | (simp only [sepcat_snoc, List.append_assoc]; done) | (simp only [sepcat_snoc, List.append_assoc] <;> rfl) | (simp only [sepcat, List.map_nil, List.flatten_nil, List.append_nil, List.nil_append]; done) | (simp only [sepcat, List.map_nil, List.flatten_nil, List.append_nil, List.nil_append] <;> rfl))) (h := keep_n)))) (slots_c (he := (by first | rfl | (congr 2; simp; done))) (h := trivial)) ?_
            rintro ⟨⟨pre, suf⟩, hp, hinv⟩ R3 hR3
            dsimp only [List.cons_append, List.nil_append, List.length_cons, List.length_nil]
            simp only at hp hinv
            have hpl : pre.length + suf.length = (r).length := by rw [← hp, List.length_append]
            rcases suf with _ | ⟨s, suf⟩
            · rw [List.append_nil] at hp; subst pre; simp only [List.length_nil] at hpl
              have hsp := sepcat_pos (sep := [32]) hrn (by decide)
              refine Ev.sr fun K hK => S.o q.lss (S.end (hK _ ?_))
              clear hK K
              refine Ev.ud (fun c11 => ?_) (fun c11 => ?_)
              · first | omega | contradiction
              · first
              | (first | omega | contradiction)
              | refine Ev.exit ?_
                refine hR3 _ _ ?_
                show Ev _ _ _ _
                refine Ev.sr fun K hK => S.cR [0, 1] 2 [_] (hob := (keep_d (he := rfl) (h := (keep_c (he := rfl) (h := keep_n))))) (hF := string_fun _ (by rw [List.length_append]; omega)) (hn' := belowL rfl rfl) (h := S.o q.as (S.end (hK _ ?_)))
                clear hK K
                refine Ev.ret ?_
                refine Ev.ret1 ?_
                refine ⟨?_, rfl⟩
                first | rfl | (simp only [joinS, sepcat, List.map_nil, List.flatten_nil, List.append_nil]; done)
            · simp only [List.length_cons] at hpl
              have hidx : (r)[pre.length]? = some s := by rw [← hp]; simp
              have hs := he s (by rw [← hp]; simp)
              have hsc := sepcat_len [32] pre (fun x hx => he x (by rw [← hp]; simp [hx]))
              simp only [List.length_cons, List.length_nil] at hsc
              refine Ev.sr fun K hK => S.o q.lss (S.end (hK _ ?_))
              clear hK K
              refine Ev.ud (fun c12 => ?_) (fun c12 => ?_)
              · first
              | (first | omega | contradiction)
              | refine Ev.seq ?_
                refine Ev.block ?_
                refine Ev.sr fun K hK => S.o (q.ix am_el61 am_cl9 (hl := (by first | exact ati hx0 (by omega) | exact ati hidx (by omega) | exact atig (by omega)))) (S.o (q.ls am_ag9) (S.o q.as (S.end (hK _ ?_))))
                clear hK K
                refine Ev.sr fun K hK => S.o q.mv (S.cR [0, 1] 3 [_, _] (hob := (keep_d (he := rfl) (h := (keep_c (he := rfl) (h := keep_n))))) (hF := writeUsed_fun (x0 ++ sepcat [32] pre) _ (by simp only [List.length_append, List.length_cons, List.length_nil]; omega)) (hn' := belowL rfl rfl) (h := S.end (hK _ ?_)))
                clear hK K
                refine Ev.region_S fun K hK => S.o q.mv (S.cR [0, 2] 4 [_, _] (hob := (keep_d (he := rfl) (h := (keep_c (he := rfl) (h := keep_n))))) (hF := writeUsed_fun ((x0 ++ sepcat [32] pre) ++ [32]) _ (by simp only [List.length_append, List.length_cons, List.length_nil]; omega)) (hn' := belowL rfl rfl) (h := S.end (hK _ ?_)))
                clear hK K
                show Ev _ _ _ _
                refine Ev.region_S fun K hK => S.o q.add (S.o q.mv (S.end (hK _ ?_)))
                clear hK K
                refine hR3 _ _ ?_
                refine roundU [0, 3] [0, 1, 4, 5, 8, 39, 40, 41, 42, 56, 58, 59, 60, 62, 63, 64] ⟨(pre ++ [s], suf), by rw [← hp]; simp, ?_⟩ ?_ (keep_d (hr := (by first | exact rfl | exact bp_ren rfl rfl)) (he := (by first | rfl | (simp only [sepcat_snoc, List.append_assoc]; done) | (simp only [sepcat_snoc, List.append_assoc] <;> rfl) | (simp only [sepcat, List.map_nil, List.flatten_nil, List.append_nil, List.nil_append]; done) | (simp only [sepcat, List.map_nil, List.flatten_nil, List.append_nil, List.nil_append] <;> rfl))) (h := (keep_c (he := (by first | rfl | (simp only [sepcat_snoc, List.append_assoc]; done) | (simp only [sepcat_snoc, List.append_assoc] <;> rfl) | (simp only [sepcat, List.map_nil, List.flatten_nil, List.append_nil, List.nil_append]; done) | (simp only [sepcat, List.map_nil, List.flatten_nil, List.append_nil, List.nil_append] <;> rfl))) (h := keep_n)))) (slots_c (he := (by first | rfl | (congr 2; simp; done))) (h := trivial)) (.c (.c (.c (.c (.c (.c (.c (.c (.c (.c (.c (.c (.c (.c (.c (.c .n))))))))))))))))
                trivial
                all_goals (dsimp only; simp only [List.length_cons]; omega)
              · first | omega | contradiction
        · simp only [List.length_cons] at hpl
          have hidx : ((x0 :: r))[pre.length]? = some s := by rw [← hp]; simp
          have hs := he s (by rw [← hp]; simp)
          obtain ⟨l1, l2⟩ := lenS_bd pre (fun x hx => he x (by rw [← hp]; simp [hx]))
          refine Ev.sr fun K hK => S.o q.lss (S.end (hK _ ?_))
          clear hK K
          refine Ev.ud (fun c13 => ?_) (fun c13 => ?_)
          · first
          | (first | omega | contradiction)
          | refine Ev.seq ?_
            refine Ev.block ?_
            refine Ev.sr fun K hK => S.o (q.ix am_el61 am_cl9 (hl := (by first | exact ati hx0 (by omega) | exact ati hidx (by omega) | exact atig (by omega)))) (S.o (q.ls am_ag9) (S.o q.as (S.end (hK _ ?_))))
            clear hK K
            refine Ev.seq ?_
            refine Ev.sr fun K hK => S.o q.mv (S.o (q.slen am_el9 am_un9) (S.o q.mv (S.o q.sub (S.o q.gtr (S.end (hK _ ?_))))))
            clear hK K
            refine Ev.cd (fun c14 => ?_) (fun c14 => ?_)
            · first
            | (first | omega | contradiction)
            | omega
            · first
            | (first | omega | contradiction)
            | refine Ev.skip ?_
              show Ev _ _ _ _
              refine Ev.region_S fun K hK => S.o q.mv (S.o q.mv (S.o (q.slen am_el9 am_un9) (S.o q.add (S.o q.as (S.end (hK _ ?_))))))
              clear hK K
              show Ev _ _ _ _
              refine Ev.region_S fun K hK => S.o q.add (S.o q.mv (S.end (hK _ ?_)))
              clear hK K
              refine hR1 _ _ ?_
              refine roundU [] [0, 1, 4, 39, 40] ⟨(pre ++ [s], suf), by rw [← hp]; simp, ?_⟩ ?_ keep_n (slots_c (he := (by first | rfl | (congr 2; simp; done))) (h := (slots_c (he := (by first | rfl | exact iE (by rw [lenS_snoc]; omega) | exact iE (by simp only [lenS, List.map_nil, List.sum_nil]; omega))) (h := trivial)))) (.c (.c (.c (.c (.c .n)))))
              trivial
              all_goals (dsimp only; simp only [List.length_cons]; omega)
          · first | omega | contradiction
end Go.Proofs.YtccddakkegelkaaGreatDoor
namespace Go.Proofs.YtccddakkegelkaaGreatDoor
open Go Go.AM
set_option linter.unusedSimpArgs false
set_option linter.unusedVariables false
set_option maxRecDepth 100000
set_option maxHeartbeats 1000000

def code2 (k : Int) : List UInt8 := if k < 10 then [48] ++ Go.Lib.itoa k else Go.Lib.itoa k
theorem code2_lo {k : Int} (h : k < 10) : code2 k = [48] ++ Go.Lib.itoa k := if_pos h
theorem code2_hi {k : Int} (h : ¬ k < 10) : code2 k = Go.Lib.itoa k := if_neg h
def lineH (b : Bar) : List (List UInt8) := [b.mark, Go.Lib.itoa b.size, Go.Lib.itoa b.count, code2 b.code]
def lineW (b : Bar) : List (List UInt8) := lineH b ++ b.dims.map Go.Lib.itoa
/-- The text of a line. -/
def sLineT (b : Bar) : List UInt8 := joinS [32] (lineW b) ++ [10]
def sTextP (l : List Bar) : List UInt8 := l.flatMap sLineT
def sTextV (l : List Bar) : List UInt8 := if okSched l then sTextP l else []
def sTextE (l : List Bar) : Int := if okSched l then 0 else 1
theorem okBar_code {b : Bar} (h : okBar b) : 0 ≤ b.code ∧ b.code ≤ 98 := by
  have h1 := h.2.2.2.2.1
  rcases codes b.code with e | e | e | e | e | e | e | e | e
  iterate 8 omega
  exact absurd (legsL_none e).2 h1
theorem lineW_el {b : Bar} (h : okBar b) : (lineW b).length ≤ 9 ∧ ∀ x ∈ lineW b, x.length ≤ 1000000 := by
  have h1 := isName_len h.1
  have h2 := size_bd h.2.1
  have h3 := h.2.2.1
  have h4 := h.2.2.2.1
  have h5 := okBar_code h
  have h6 := h.2.2.2.2.2.1
  have h7 := (dims_eq b.code).2.2.1
  refine ⟨by simp only [lineW, lineH, List.length_append, List.length_map, List.length_cons, List.length_nil]; omega, fun x hx => ?_⟩
  simp only [lineW, lineH, List.mem_append, List.mem_cons, List.not_mem_nil, or_false, List.mem_map] at hx
  rcases hx with (rfl | rfl | rfl | rfl) | ⟨d, hd, rfl⟩
  · omega
  · have := itoa_len (N := b.size) (by omega) (by omega); omega
  · have := itoa_len (N := b.count) (by omega) (by omega); omega
  · have := itoa_len (N := b.code) (by omega) (by omega)
    unfold code2
    split
    · simp only [List.length_append, List.length_cons, List.length_nil]; omega
    · omega
  · have h8 := dims_in h.2.2.2.2.2.2 hd
    have := itoa_len (N := d) (by omega) (by omega); omega
theorem sLineT_len {b : Bar} (h : okBar b) : (sLineT b).length ≤ 10000000 ∧ 0 < (sLineT b).length := by
  obtain ⟨h1, h2⟩ := lineW_el h
  have h3 := joinS_len [32] _ h2
  rw [sLineT, List.length_append, List.length_singleton]
  simp only [List.length_cons, List.length_nil] at h3
  omega
theorem sTextP_snoc (l : List Bar) (s : Bar) : sTextP (l ++ [s]) = sTextP l ++ sLineT s := by simp [sTextP]
theorem sTextP_len : ∀ l : List Bar, (∀ c ∈ l, okBar c) → (sTextP l).length ≤ l.length * 10000000 := by
  refine snoc_ind (fun _ => by simp [sTextP]) ?_
  intro l s ih h
  have := ih fun b hb => h b (by simp [hb])
  have := (sLineT_len (h s (by simp))).1
  rw [sTextP_snoc, List.length_append, List.length_append, List.length_singleton, Nat.add_mul]
  omega
theorem sText_nil : Fun Tryz.prog 31 [.sh 5 (([] : List Bar).map Bar.c)] (Ret (.tup [.lit (str []), .lit (.int .i64 0)]) []) := by
  have hw : schedW [] := fun c hc => by simp at hc
  have hl0 : ([] : List Bar).length ≤ 140737488355328 := by decide
  have hok : okSched [] := by decide
  refine Fun.of (nt := 57) (rs := [.tmp 2, .tmp 3]) Tryz.func31 rfl rfl rfl rfl rfl ?_
  refine Ev.sr fun K hK => S.o q.as (S.o q.as (S.end (hK _ ?_)))
  clear hK K
  refine Ev.seq ?_
  refine Ev.sr fun K hK => S.o q.mv (S.c0 (hF := schedValid_fun _ (by omega) (by assumption)) (h := S.o q.not (S.end (hK _ ?_))))
  clear hK K
  refine Ev.cn (fun c1 => ?_) (fun c1 => ?_)
  · first
  | (first | omega | contradiction)
  | contradiction
  · first
  | (first | omega | contradiction)
  | refine Ev.skip ?_
    show Ev _ _ _ _
    refine Ev.sr fun K hK => S.nn (q.al am_ze70) (S.end (hK _ ?_))
    clear hK K
    refine Ev.seq ?_
    refine Ev.sr fun K hK => S.o q.mv (S.o (q.lens am_el22) (S.o q.mv (S.end (hK _ ?_))))
    clear hK K
    refine Ev.block ?_
    refine Ev.loopU (ι := Unit) [0] [2, 3, 4, 14, 15] (fun _ => [(16, .lit (.int .i64 (0)))]) (fun _ => [(0, ⟨false, 70, 2, [[.lit (.pointer none), .lit (.slice none 0 0)]], true⟩)]) (fun _ => 0) () (.c (.c (.c (.c (.c .n))))) (keep_c (he := (by first | rfl | (simp; done))) (h := keep_n)) (slots_c (he := (by first | rfl | (simp; done) | (congr 2; omega))) (h := trivial)) ?_
    rintro ⟨⟩ R0 hR0
    dsimp only [List.cons_append, List.nil_append, List.length_cons, List.length_nil]
    refine Ev.sr fun K hK => S.o q.lss (S.end (hK _ ?_))
    clear hK K
    refine Ev.ud (fun c2 => ?_) (fun c2 => ?_)
    · first
    | (first | omega | contradiction)
    | refine Ev.seq ?_
      refine Ev.block ?_
      omega
    · first
    | (first | omega | contradiction)
    | refine Ev.exit ?_
      refine hR0 _ _ ?_
      show Ev _ _ _ _
      refine Ev.sr fun K hK => S.cR [0] 1 [_] (hob := (keep_c (he := rfl) (h := keep_n))) (hF := string0_fun) (hn' := belowL rfl rfl) (h := S.o q.as (S.o q.as (S.end (hK _ ?_))))
      clear hK K
      refine Ev.ret ?_
      refine Ev.ret2 ?_
      refine ⟨?_, rfl⟩
      rfl
theorem sText_cons (l : List Bar) (hne : l.isEmpty = false) (hl : l.length ≤ 140737488355328) (hw : schedW l) : Fun Tryz.prog 31 [.sh 5 (l.map Bar.c)] (Ret (.tup [.lit (str (sTextV l)), .lit (.int .i64 (sTextE l))]) []) := by
  refine Fun.of (nt := 57) (rs := [.tmp 2, .tmp 3]) Tryz.func31 rfl rfl rfl rfl rfl ?_
  refine Ev.sr fun K hK => S.o q.as (S.o q.as (S.end (hK _ ?_)))
  clear hK K
  refine Ev.seq ?_
  refine Ev.sr fun K hK => S.o q.mv (S.c0 (hF := schedValid_fun _ (by omega) (by assumption)) (h := S.o q.not (S.end (hK _ ?_))))
  clear hK K
  refine Ev.cn (fun c1 => ?_) (fun c1 => ?_)
  · first
  | (first | omega | contradiction)
  | refine Ev.sr fun K hK => S.o q.as (S.o q.as (S.end (hK _ ?_)))
    clear hK K
    refine Ev.ret ?_
    refine Ev.ret2 ?_
    refine ⟨?_, rfl⟩
    first
     | (rw [show sTextV l = [] from if_neg ‹_›, show sTextE l = 1 from if_neg ‹_›]; done)
     | (rw [show sTextV l = sTextP l from if_pos hyes, show sTextE l = 0 from if_pos hyes]; done)
  · first
  | (first | omega | contradiction)
  | refine Ev.skip ?_
    show Ev _ _ _ _
    have hyes : okSched l := ‹_›
    have hll := hyes.1
    have h0 : 0 < l.length := by cases l with | nil => simp at hne | cons => simp
    refine Ev.sr fun K hK => S.nn (q.al am_ze70) (S.end (hK _ ?_))
    clear hK K
    refine Ev.seq ?_
    refine Ev.weaken (Wk.nilv (f := byteC) 0 1 5 1 []) ?_
    refine Ev.sr fun K hK => S.o q.mv (S.o (q.lens am_el22) (S.o q.mv (S.end (hK _ ?_))))
    clear hK K
    refine Ev.block ?_
    refine Ev.loopU (ι := {p : List (Bar) × List (Bar) // p.1 ++ p.2 = l ∧ True}) [0, 1] [2, 3, 4, 14, 15] (fun ⟨(pre, suf), _⟩ => [(16, .lit (.int .i64 ((pre.length : Int))))]) (fun ⟨(pre, suf), _⟩ => [(0, ⟨false, 70, 2, [[bp (!pre.isEmpty) 0, .als 1 0 (sTextP pre).length]], false⟩), (1, ⟨true, 5, 1, (sTextP pre).map byteC, true⟩)]) (fun ⟨(pre, suf), _⟩ => suf.length) ⟨([], l), rfl, trivial⟩ (.c (.c (.c (.c (.c .n))))) (keep_d (hr := (by first | exact rfl | exact bp_ren rfl rfl)) (he := (by first | rfl | (simp only [sTextP_snoc, List.append_assoc]; done) | (simp only [sTextP_snoc, List.append_assoc, bp_snoc]; done))) (h := (keep_c (he := (by first | rfl | (simp only [sTextP_snoc, List.append_assoc]; done) | (simp only [sTextP_snoc, List.append_assoc, bp_snoc]; done))) (h := keep_n)))) (slots_c (he := (by first | rfl | (congr 2; simp; done))) (h := trivial)) ?_
    rintro ⟨⟨pre, suf⟩, hp, hinv⟩ R0 hR0
    dsimp only [List.cons_append, List.nil_append, List.length_cons, List.length_nil]
    simp only at hp hinv
    have hpl : pre.length + suf.length = (l).length := by rw [← hp, List.length_append]
    rcases suf with _ | ⟨s, suf⟩
    · rw [List.append_nil] at hp; subst pre; simp only [List.length_nil] at hpl
      have htl : 0 < (sTextP l).length := by
        cases l with
        | nil => simp at hne
        | cons c l =>
          have h9 := (sLineT_len (hyes.2.1 c (by simp))).2
          simp only [sTextP, List.flatMap_cons, List.length_append]
          omega
      refine Ev.sr fun K hK => S.o q.lss (S.end (hK _ ?_))
      clear hK K
      refine Ev.ud (fun c2 => ?_) (fun c2 => ?_)
      · first | omega | contradiction
      · first
      | (first | omega | contradiction)
      | refine Ev.exit ?_
        refine hR0 _ _ ?_
        show Ev _ _ _ _
        rw [hne]
        refine Ev.sr fun K hK => S.cR [0, 1] 2 [_] (hob := (keep_d (he := rfl) (h := (keep_c (he := rfl) (h := keep_n))))) (hF := string_fun _ htl) (hn' := belowL rfl rfl) (h := S.o q.as (S.o q.as (S.end (hK _ ?_))))
        clear hK K
        refine Ev.ret ?_
        refine Ev.ret2 ?_
        refine ⟨?_, rfl⟩
        first
         | (rw [show sTextV l = [] from if_neg ‹_›, show sTextE l = 1 from if_neg ‹_›]; done)
         | (rw [show sTextV l = sTextP l from if_pos hyes, show sTextE l = 0 from if_pos hyes]; done)
    · simp only [List.length_cons] at hpl
      have hidx : (l)[pre.length]? = some s := by rw [← hp]; simp
      have hsk : okBar s := hyes.2.1 s (by rw [← hp]; simp)
      have hk1 := size_bd hsk.2.1
      have hk2 := hsk.2.2.1
      have hk3 := hsk.2.2.2.1
      have hk4 := okBar_code hsk
      have hsl := lineW_el hsk
      obtain ⟨hlt, hlt0⟩ := sLineT_len hsk
      have hic := itoa_len (N := s.code) (by omega) (by omega)
      have hjl : (joinS [32] (lineH s ++ s.dims.map Go.Lib.itoa)).length + 1 = (sLineT s).length := by rw [sLineT, List.length_append]; rfl
      have hd6 := hsk.2.2.2.2.2.1
      have hd7 := (dims_eq s.code).2.2.1
      have hpt := sTextP_len pre (fun c hc => hyes.2.1 c (by rw [← hp]; simp [hc]))
      refine Ev.sr fun K hK => S.o q.lss (S.end (hK _ ?_))
      clear hK K
      refine Ev.ud (fun c3 => ?_) (fun c3 => ?_)
      · first
      | (first | omega | contradiction)
      | refine Ev.seq ?_
        refine Ev.block ?_
        refine Ev.sr fun K hK => S.o (q.ix am_el22 am_cl44 (hl := (by first | exact ati hidx (by omega) | exact atig (by omega)))) (S.o (q.lsA [_, _, _, _, _] am_ag44 am_cl44) (S.nn (q.al am_ze44) (S.sv [_, _, _, _, _] true [_, _] am_in44 am_cl44 (h := S.end (hK _ ?_)))))
        clear hK K
        refine Ev.sr fun K hK => S.o (q.fa 3 am_fi44_3 am_cl3) (S.o (q.lv am_ag3) (S.c0 (hF := itoa41_fun (by omega) (by omega)) (h := S.o q.as (S.end (hK _ ?_)))))
        clear hK K
        refine Ev.seq ?_
        refine Ev.sr fun K hK => S.o (q.fa 3 am_fi44_3 am_cl3) (S.o (q.lv am_ag3) (S.o q.lss (S.end (hK _ ?_))))
        clear hK K
        refine Ev.cd (fun c4 => ?_) (fun c4 => ?_)
        · first
        | (first | omega | contradiction)
        | refine Ev.region_S fun K hK => S.o q.mv (S.o q.sadd (S.o q.as (S.end (hK _ ?_))))
          clear hK K
          show Ev _ _ _ _
          first | rw [← code2_lo ‹s.code < 10›] | rw [← code2_hi ‹¬ s.code < 10›]
          refine Ev.sm (tbs [(0, 0), (1, 1), (0, 0), (3, 4), (4, 12), (0, 0), (6, 32), (7, 124), (0, 0), (9, 511), (10, 1023)]) 10 fun K hK => M.o (q.fa 0 am_fi44_0 am_cl9) (M.o (q.lv am_ag9) (M.o (q.fa 1 am_fi44_1 am_cl3) (M.o (q.lv am_ag3) (M.c0 (hF := itoa41_fun (by omega) (by omega)) (h := M.o (q.fa 2 am_fi44_2 am_cl3) (M.o (q.lv am_ag3) (M.c0 (hF := itoa41_fun (by omega) (by omega)) (h := M.o q.mv (M.nn [_] (q.bs [[_], [_], [_], [_]] true am_el61 am_ze9 am_cl9) (h := M.end [_, _, _, _] (h := S.o q.as (S.end (hK _ ?_)))))))))))))
          clear hK K
          refine Ev.seq ?_
          refine Ev.sr fun K hK => S.o (q.fa 4 am_fi44_4 am_cl42) (S.o (q.lv am_ag42) (S.o (q.lens am_el42) (S.o q.mv (S.end (hK _ ?_)))))
          clear hK K
          refine Ev.block ?_
          refine Ev.loopU (ι := {q : List Int × List Int // q.1 ++ q.2 = s.dims}) [0, 1, 2, 39] [2, 3, 4, 6, 7, 14, 15, 16, 17, 18, 19, 20, 21, 22, 23, 24, 25, 26, 27, 28, 29, 30, 31, 32, 33, 34, 35, 36, 38, 39, 40] (fun ⟨(prek, sufk), _⟩ => [(41, .lit (.int .i64 ((prek.length : Int)))), (8, .als 3 0 (lineH s ++ prek.map Go.Lib.itoa).length)]) (fun ⟨(prek, sufk), _⟩ => [(0, ⟨false, 70, 2, [[bp (!pre.isEmpty) 0, .als 1 0 (sTextP pre).length]], false⟩), (1, ⟨true, 5, 1, (sTextP pre).map byteC, true⟩), (2, ⟨false, 44, 5, [[.lit (str (s.mark)), .lit (.int .i64 (s.size)), .lit (.int .i64 (s.count)), .lit (.int .i64 (s.code)), .sh 1 ((s.dims).map intC)]], true⟩), (3, ⟨true, 9, 1, (lineH s ++ prek.map Go.Lib.itoa).map strC, true⟩)]) (fun ⟨(prek, sufk), _⟩ => sufk.length) ⟨([], s.dims), rfl⟩ (.c (.c (.c (.c (.c (.c (.c (.c (.c (.c (.c (.c (.c (.c (.c (.c (.c (.c (.c (.c (.c (.c (.c (.c (.c (.c (.c (.c (.c (.c (.c .n))))))))))))))))))))))))))))))) (keep_d (hr := (by first | exact rfl | exact bp_ren rfl rfl)) (he := (by first | rfl | (simp; done))) (h := (keep_c (he := (by first | rfl | (simp; done))) (h := (keep_c (he := (by first | rfl | (simp; done))) (h := (keep_c (he := (by first | rfl | (simp; done))) (h := keep_n)))))))) (slots_c (he := (by first | rfl | (congr 2; simp; done))) (h := (slots_c (he := (by first | rfl | (congr 1; simp; done))) (h := trivial)))) ?_
          rintro ⟨⟨prek, sufk⟩, hpk⟩ R2 hR2
          dsimp only [List.cons_append, List.nil_append, List.length_cons, List.length_nil]
          simp only at hpk
          have hplk : prek.length + sufk.length = s.dims.length := by rw [← hpk, List.length_append]
          rcases sufk with _ | ⟨sk, sufk⟩
          · rw [List.append_nil] at hpk; subst prek; simp only [List.length_nil] at hplk
            refine Ev.sr fun K hK => S.o q.lss (S.end (hK _ ?_))
            clear hK K
            refine Ev.ud (fun c5 => ?_) (fun c5 => ?_)
            · first | omega | contradiction
            · first
            | (first | omega | contradiction)
            | refine Ev.exit ?_
              refine hR2 _ _ ?_
              show Ev _ _ _ _
              refine Ev.region_S fun K hK => S.o q.mv ?_
              refine SeqL.weaken (Wk.frz 51 [_, _, _]) ?_
              refine S.c0 (hF := join_fun (lineH s ++ s.dims.map Go.Lib.itoa) (by have h := hsl.1; unfold lineW at h; omega) hsl.2) (h := S.o q.sadd ?_)
              rcases hfl : pre.isEmpty with _ | _
              · skip
                rw [show joinS [32] (lineH s ++ s.dims.map Go.Lib.itoa) ++ [10] = sLineT s from rfl]
                refine S.cR [0, 1] 5 [_, _, _] (hob := (keep_d (he := rfl) (h := (keep_c (he := rfl) (h := keep_n))))) (hF := writeUsed_fun (sTextP pre) (sLineT s) (by omega)) (hn' := belowL rfl rfl) (h := S.end (hK _ ?_))
                clear hK K
                show Ev _ _ _ _
                refine Ev.region_S fun K hK => S.o q.add (S.o q.mv (S.end (hK _ ?_)))
                clear hK K
                refine hR0 _ _ ?_
                refine roundU [0, 4] [2, 3, 4, 14, 15] ⟨(pre ++ [s], suf), by rw [← hp]; simp, ?_⟩ ?_ (keep_d (hr := (by first | exact rfl | exact bp_ren rfl rfl)) (he := (by first | rfl | (simp only [sTextP_snoc, List.append_assoc]; done) | (simp only [sTextP_snoc, List.append_assoc, bp_snoc]; done))) (h := (keep_c (he := (by first | rfl | (simp only [sTextP_snoc, List.append_assoc]; done) | (simp only [sTextP_snoc, List.append_assoc, bp_snoc]; done))) (h := keep_n)))) (slots_c (he := (by first | rfl | (congr 2; simp; done))) (h := trivial)) (.c (.c (.c (.c (.c .n)))))
                trivial
                all_goals (dsimp only; simp only [List.length_cons]; omega)
              · skip
                rw [show joinS [32] (lineH s ++ s.dims.map Go.Lib.itoa) ++ [10] = sLineT s from rfl]
                refine S.cR [0, 1] 5 [_, _, _] (hob := (keep_d (he := rfl) (h := (keep_c (he := rfl) (h := keep_n))))) (hF := writeFresh_fun (sTextP pre) (sLineT s) (by omega)) (hn' := belowL rfl rfl) (h := S.end (hK _ ?_))
                clear hK K
                show Ev _ _ _ _
                refine Ev.region_S fun K hK => S.o q.add (S.o q.mv (S.end (hK _ ?_)))
                clear hK K
                refine hR0 _ _ ?_
                refine roundU [0, 4] [2, 3, 4, 14, 15] ⟨(pre ++ [s], suf), by rw [← hp]; simp, ?_⟩ ?_ (keep_d (hr := (by first | exact rfl | exact bp_ren rfl rfl)) (he := (by first | rfl | (simp only [sTextP_snoc, List.append_assoc]; done) | (simp only [sTextP_snoc, List.append_assoc, bp_snoc]; done))) (h := (keep_c (he := (by first | rfl | (simp only [sTextP_snoc, List.append_assoc]; done) | (simp only [sTextP_snoc, List.append_assoc, bp_snoc]; done))) (h := keep_n)))) (slots_c (he := (by first | rfl | (congr 2; simp; done))) (h := trivial)) (.c (.c (.c (.c (.c .n)))))
                trivial
                all_goals (dsimp only; simp only [List.length_cons]; omega)
          · simp only [List.length_cons] at hplk
            have hidk : s.dims[prek.length]? = some sk := by rw [← hpk]; simp
            have hskd := dims_in hsk.2.2.2.2.2.2 (show sk ∈ s.dims by rw [← hpk]; simp)
            have hhl : (lineH s).length = 4 := rfl
            refine Ev.sr fun K hK => S.o q.lss (S.end (hK _ ?_))
            clear hK K
            refine Ev.ud (fun c6 => ?_) (fun c6 => ?_)
            · first
            | (first | omega | contradiction)
            | refine Ev.seq ?_
              refine Ev.block ?_
              refine Ev.sr fun K hK => S.o (q.ix am_el42 am_cl3 (hl := (by first | exact ati hidx (by omega) | exact ati hidk (by omega) | exact atig (by omega)))) (S.o (q.ls am_ag3) (S.o q.as (S.end (hK _ ?_))))
              clear hK K
              refine Ev.region_S fun K hK => S.o q.mv (S.o q.mv (S.c0 (hF := itoa41_fun (by omega) (by omega)) (h := S.nn (q.bs [[_]] true am_el61 am_ze9 am_cl9) (S.ap' [_, _, _, _] am_el61 am_ze9 am_cl9 am_by9 (hh := head_own') (hr := (rows_lit [_])) (h := S.o q.as (S.end (hK _ ?_)))))))
              clear hK K
              show Ev _ _ _ _
              refine Ev.region_S fun K hK => S.o q.add (S.o q.mv (S.end (hK _ ?_)))
              clear hK K
              refine hR2 _ _ ?_
              refine roundU [0, 1, 2, 5] [2, 3, 4, 6, 7, 14, 15, 16, 17, 18, 19, 20, 21, 22, 23, 24, 25, 26, 27, 28, 29, 30, 31, 32, 33, 34, 35, 36, 38, 39, 40] ⟨(prek ++ [sk], sufk), by rw [← hpk]; simp⟩ ?_ (keep_d (hr := (by first | exact rfl | exact bp_ren rfl rfl)) (he := (by first | rfl | (simp; done))) (h := (keep_c (he := (by first | rfl | (simp; done))) (h := (keep_c (he := (by first | rfl | (simp; done))) (h := (keep_c (he := (by first | rfl | (simp; done))) (h := keep_n)))))))) (slots_c (he := (by first | rfl | (congr 2; simp; done))) (h := (slots_c (he := (by first | rfl | (congr 1; simp; done))) (h := trivial)))) (.c (.c (.c (.c (.c (.c (.c (.c (.c (.c (.c (.c (.c (.c (.c (.c (.c (.c (.c (.c (.c (.c (.c (.c (.c (.c (.c (.c (.c (.c (.c .n)))))))))))))))))))))))))))))))
              skip
              all_goals (dsimp only; simp only [List.length_cons]; omega)
            · first | omega | contradiction
        · first
        | (first | omega | contradiction)
        | refine Ev.skip ?_
          show Ev _ _ _ _
          first | rw [← code2_lo ‹s.code < 10›] | rw [← code2_hi ‹¬ s.code < 10›]
          refine Ev.sm (tbs [(0, 0), (1, 1), (0, 0), (3, 4), (4, 12), (0, 0), (6, 32), (7, 124), (0, 0), (9, 511), (10, 1023)]) 10 fun K hK => M.o (q.fa 0 am_fi44_0 am_cl9) (M.o (q.lv am_ag9) (M.o (q.fa 1 am_fi44_1 am_cl3) (M.o (q.lv am_ag3) (M.c0 (hF := itoa41_fun (by omega) (by omega)) (h := M.o (q.fa 2 am_fi44_2 am_cl3) (M.o (q.lv am_ag3) (M.c0 (hF := itoa41_fun (by omega) (by omega)) (h := M.o q.mv (M.nn [_] (q.bs [[_], [_], [_], [_]] true am_el61 am_ze9 am_cl9) (h := M.end [_, _, _, _] (h := S.o q.as (S.end (hK _ ?_)))))))))))))
          clear hK K
          refine Ev.seq ?_
          refine Ev.sr fun K hK => S.o (q.fa 4 am_fi44_4 am_cl42) (S.o (q.lv am_ag42) (S.o (q.lens am_el42) (S.o q.mv (S.end (hK _ ?_)))))
          clear hK K
          refine Ev.block ?_
          refine Ev.loopU (ι := {q : List Int × List Int // q.1 ++ q.2 = s.dims}) [0, 1, 2, 39] [2, 3, 4, 6, 7, 14, 15, 16, 17, 18, 19, 20, 21, 22, 23, 24, 25, 28, 29, 30, 31, 32, 33, 34, 35, 36, 38, 39, 40] (fun ⟨(prek, sufk), _⟩ => [(41, .lit (.int .i64 ((prek.length : Int)))), (8, .als 3 0 (lineH s ++ prek.map Go.Lib.itoa).length)]) (fun ⟨(prek, sufk), _⟩ => [(0, ⟨false, 70, 2, [[bp (!pre.isEmpty) 0, .als 1 0 (sTextP pre).length]], false⟩), (1, ⟨true, 5, 1, (sTextP pre).map byteC, true⟩), (2, ⟨false, 44, 5, [[.lit (str (s.mark)), .lit (.int .i64 (s.size)), .lit (.int .i64 (s.count)), .lit (.int .i64 (s.code)), .sh 1 ((s.dims).map intC)]], true⟩), (3, ⟨true, 9, 1, (lineH s ++ prek.map Go.Lib.itoa).map strC, true⟩)]) (fun ⟨(prek, sufk), _⟩ => sufk.length) ⟨([], s.dims), rfl⟩ (.c (.c (.c (.c (.c (.c (.c (.c (.c (.c (.c (.c (.c (.c (.c (.c (.c (.c (.c (.c (.c (.c (.c (.c (.c (.c (.c (.c (.c .n))))))))))))))))))))))))))))) (keep_d (hr := (by first | exact rfl | exact bp_ren rfl rfl)) (he := (by first | rfl | (simp; done))) (h := (keep_c (he := (by first | rfl | (simp; done))) (h := (keep_c (he := (by first | rfl | (simp; done))) (h := (keep_c (he := (by first | rfl | (simp; done))) (h := keep_n)))))))) (slots_c (he := (by first | rfl | (congr 2; simp; done))) (h := (slots_c (he := (by first | rfl | (congr 1; simp; done))) (h := trivial)))) ?_
          rintro ⟨⟨prek, sufk⟩, hpk⟩ R2 hR2
          dsimp only [List.cons_append, List.nil_append, List.length_cons, List.length_nil]
          simp only at hpk
          have hplk : prek.length + sufk.length = s.dims.length := by rw [← hpk, List.length_append]
          rcases sufk with _ | ⟨sk, sufk⟩
          · rw [List.append_nil] at hpk; subst prek; simp only [List.length_nil] at hplk
            refine Ev.sr fun K hK => S.o q.lss (S.end (hK _ ?_))
            clear hK K
            refine Ev.ud (fun c7 => ?_) (fun c7 => ?_)
            · first | omega | contradiction
            · first
            | (first | omega | contradiction)
            | refine Ev.exit ?_
              refine hR2 _ _ ?_
              show Ev _ _ _ _
              refine Ev.region_S fun K hK => S.o q.mv ?_
              refine SeqL.weaken (Wk.frz 51 [_, _, _]) ?_
              refine S.c0 (hF := join_fun (lineH s ++ s.dims.map Go.Lib.itoa) (by have h := hsl.1; unfold lineW at h; omega) hsl.2) (h := S.o q.sadd ?_)
              rcases hfl : pre.isEmpty with _ | _
              · skip
                rw [show joinS [32] (lineH s ++ s.dims.map Go.Lib.itoa) ++ [10] = sLineT s from rfl]
                refine S.cR [0, 1] 5 [_, _, _] (hob := (keep_d (he := rfl) (h := (keep_c (he := rfl) (h := keep_n))))) (hF := writeUsed_fun (sTextP pre) (sLineT s) (by omega)) (hn' := belowL rfl rfl) (h := S.end (hK _ ?_))
                clear hK K
                show Ev _ _ _ _
                refine Ev.region_S fun K hK => S.o q.add (S.o q.mv (S.end (hK _ ?_)))
                clear hK K
                refine hR0 _ _ ?_
                refine roundU [0, 4] [2, 3, 4, 14, 15] ⟨(pre ++ [s], suf), by rw [← hp]; simp, ?_⟩ ?_ (keep_d (hr := (by first | exact rfl | exact bp_ren rfl rfl)) (he := (by first | rfl | (simp only [sTextP_snoc, List.append_assoc]; done) | (simp only [sTextP_snoc, List.append_assoc, bp_snoc]; done))) (h := (keep_c (he := (by first | rfl | (simp only [sTextP_snoc, List.append_assoc]; done) | (simp only [sTextP_snoc, List.append_assoc, bp_snoc]; done))) (h := keep_n)))) (slots_c (he := (by first | rfl | (congr 2; simp; done))) (h := trivial)) (.c (.c (.c (.c (.c .n)))))
                trivial
                all_goals (dsimp only; simp only [List.length_cons]; omega)
              · skip
                rw [show joinS [32] (lineH s ++ s.dims.map Go.Lib.itoa) ++ [10] = sLineT s from rfl]
                refine S.cR [0, 1] 5 [_, _, _] (hob := (keep_d (he := rfl) (h := (keep_c (he := rfl) (h := keep_n))))) (hF := writeFresh_fun (sTextP pre) (sLineT s) (by omega)) (hn' := belowL rfl rfl) (h := S.end (hK _ ?_))
                clear hK K
                show Ev _ _ _ _
                refine Ev.region_S fun K hK => S.o q.add (S.o q.mv (S.end (hK _ ?_)))
                clear hK K
                refine hR0 _ _ ?_
                refine roundU [0, 4] [2, 3, 4, 14, 15] ⟨(pre ++ [s], suf), by rw [← hp]; simp, ?_⟩ ?_ (keep_d (hr := (by first | exact rfl | exact bp_ren rfl rfl)) (he := (by first | rfl | (simp only [sTextP_snoc, List.append_assoc]; done) | (simp only [sTextP_snoc, List.append_assoc, bp_snoc]; done))) (h := (keep_c (he := (by first | rfl | (simp only [sTextP_snoc, List.append_assoc]; done) | (simp only [sTextP_snoc, List.append_assoc, bp_snoc]; done))) (h := keep_n)))) (slots_c (he := (by first | rfl | (congr 2; simp; done))) (h := trivial)) (.c (.c (.c (.c (.c .n)))))
                trivial
                all_goals (dsimp only; simp only [List.length_cons]; omega)
          · simp only [List.length_cons] at hplk
            have hidk : s.dims[prek.length]? = some sk := by rw [← hpk]; simp
            have hskd := dims_in hsk.2.2.2.2.2.2 (show sk ∈ s.dims by rw [← hpk]; simp)
            have hhl : (lineH s).length = 4 := rfl
            refine Ev.sr fun K hK => S.o q.lss (S.end (hK _ ?_))
            clear hK K
            refine Ev.ud (fun c8 => ?_) (fun c8 => ?_)
            · first
            | (first | omega | contradiction)
            | refine Ev.seq ?_
              refine Ev.block ?_
              refine Ev.sr fun K hK => S.o (q.ix am_el42 am_cl3 (hl := (by first | exact ati hidx (by omega) | exact ati hidk (by omega) | exact atig (by omega)))) (S.o (q.ls am_ag3) (S.o q.as (S.end (hK _ ?_))))
              clear hK K
              refine Ev.region_S fun K hK => S.o q.mv (S.o q.mv (S.c0 (hF := itoa41_fun (by omega) (by omega)) (h := S.nn (q.bs [[_]] true am_el61 am_ze9 am_cl9) (S.ap' [_, _, _, _] am_el61 am_ze9 am_cl9 am_by9 (hh := head_own') (hr := (rows_lit [_])) (h := S.o q.as (S.end (hK _ ?_)))))))
              clear hK K
              show Ev _ _ _ _
              refine Ev.region_S fun K hK => S.o q.add (S.o q.mv (S.end (hK _ ?_)))
              clear hK K
              refine hR2 _ _ ?_
              refine roundU [0, 1, 2, 5] [2, 3, 4, 6, 7, 14, 15, 16, 17, 18, 19, 20, 21, 22, 23, 24, 25, 28, 29, 30, 31, 32, 33, 34, 35, 36, 38, 39, 40] ⟨(prek ++ [sk], sufk), by rw [← hpk]; simp⟩ ?_ (keep_d (hr := (by first | exact rfl | exact bp_ren rfl rfl)) (he := (by first | rfl | (simp; done))) (h := (keep_c (he := (by first | rfl | (simp; done))) (h := (keep_c (he := (by first | rfl | (simp; done))) (h := (keep_c (he := (by first | rfl | (simp; done))) (h := keep_n)))))))) (slots_c (he := (by first | rfl | (congr 2; simp; done))) (h := (slots_c (he := (by first | rfl | (congr 1; simp; done))) (h := trivial)))) (.c (.c (.c (.c (.c (.c (.c (.c (.c (.c (.c (.c (.c (.c (.c (.c (.c (.c (.c (.c (.c (.c (.c (.c (.c (.c (.c (.c (.c .n)))))))))))))))))))))))))))))
              skip
              all_goals (dsimp only; simp only [List.length_cons]; omega)
            · first | omega | contradiction
      · first | omega | contradiction
theorem sText_fun (l : List Bar) (hl : l.length ≤ 140737488355328) (hw : schedW l) : Fun Tryz.prog 31 [.sh 5 (l.map Bar.c)] (Ret (.tup [.lit (str (sTextV l)), .lit (.int .i64 (sTextE l))]) []) := by
  cases l with
  | nil => exact sText_nil
  | cons c l => exact sText_cons (c :: l) rfl hl hw
end Go.Proofs.YtccddakkegelkaaGreatDoor
namespace Go.Proofs.YtccddakkegelkaaGreatDoor
open Go Go.AM
set_option linter.unusedSimpArgs false
set_option linter.unusedVariables false
set_option maxRecDepth 100000
set_option maxHeartbeats 1000000

/-- What stands between the bytes c; with sv = 1 each piece but the last one keeps its c. -/
def splitG (sv : Nat) (c : UInt8) : List UInt8 → List (List UInt8)
  | [] => [[]]
  | b :: l => if b = c then (if sv = 1 then [b] else []) :: splitG sv c l else match splitG sv c l with
    | [] => [[b]]
    | w :: ws => (b :: w) :: ws
theorem splitG_ne (sv : Nat) (c : UInt8) : ∀ l, splitG sv c l ≠ []
  | [] => by simp [splitG]
  | b :: l => by
    rw [splitG]
    split
    · simp
    · split <;> simp
theorem splitG_len (sv : Nat) (c : UInt8) : ∀ l, (splitG sv c l).length = Go.Lib.countByte l c + 1
  | [] => rfl
  | b :: l => by
    have ih := splitG_len sv c l
    unfold Go.Lib.countByte at ih ⊢
    rw [splitG]
    by_cases h : b = c
    · subst h
      rw [if_pos rfl, List.length_cons, ih, List.count_cons_self]
    · rw [if_neg h, List.count_cons_of_ne (fun e => h e)]
      rcases hs : splitG sv c l with _ | ⟨w, ws⟩
      · exact absurd hs (splitG_ne sv c l)
      · rw [hs] at ih
        exact ih
theorem index_facts (c : UInt8) : ∀ l, (Go.Lib.indexByte l c = -1 ∧ c ∉ l) ∨ ∃ m : Nat, Go.Lib.indexByte l c = m ∧ m < l.length ∧ l = l.take m ++ c :: l.drop (m + 1) ∧ c ∉ l.take m ∧ l[m]? = some c
  | [] => .inl ⟨rfl, by simp⟩
  | b :: l => by
    rw [Go.Lib.indexByte]
    by_cases h : b = c
    · subst h
      exact .inr ⟨0, by simp, by simp, by simp, by simp, rfl⟩
    · rw [if_neg (by simpa using h)]
      rcases index_facts c l with ⟨h1, h2⟩ | ⟨m, h1, h2, h3, h4, h5⟩
      · exact .inl ⟨by simp [h1], by simp [h2, Ne.symm h]⟩
      · refine .inr ⟨m + 1, ?_, by simp [h2], ?_, by simp [h4, Ne.symm h], by simpa using h5⟩
        · rw [h1, if_neg (by simp <;> omega)]; omega
        · rw [List.take_succ_cons, List.cons_append, List.drop_succ_cons, ← h3]
theorem splitG_no (sv : Nat) {c : UInt8} : ∀ {l}, c ∉ l → splitG sv c l = [l]
  | [], _ => rfl
  | b :: l, h => by
    simp only [List.mem_cons, not_or] at h
    rw [splitG, if_neg (fun e => h.1 e.symm), splitG_no sv h.2]
theorem splitG_app (sv : Nat) {c : UInt8} : ∀ {a : List UInt8} (r : List UInt8), c ∉ a → splitG sv c (a ++ c :: r) = (a ++ if sv = 1 then [c] else []) :: splitG sv c r
  | [], r, _ => by simp [splitG]
  | b :: a, r, h => by
    simp only [List.mem_cons, not_or] at h
    rw [List.cons_append, splitG, if_neg (fun e => h.1 e.symm), splitG_app sv r h.2]
    rfl
theorem split_step {sv : Nat} {c : UInt8} {l : List UInt8} {m : Nat} (hs : sv ≤ 1) (h : Go.Lib.indexByte l c = m) : m < l.length ∧ splitG sv c l = l.take (m + sv) :: splitG sv c (l.drop (m + 1)) := by
  rcases index_facts c l with ⟨h1, _⟩ | ⟨m', h1, h2, h3, h4, h5⟩
  · rw [h1] at h; omega
  · have e : m' = m := by omega
    subst e
    refine ⟨h2, ?_⟩
    conv => lhs; rw [h3]
    rw [splitG_app sv _ h4]
    congr 1
    by_cases e1 : sv = 1
    · subst e1
      rw [if_pos rfl, List.take_add_one, h5]
      rfl
    · rw [if_neg e1, show sv = 0 by omega]; simp
theorem split_stop {sv : Nat} {c : UInt8} {l : List UInt8} (h : Go.Lib.indexByte l c < 0) : splitG sv c l = [l] := by
  rcases index_facts c l with ⟨_, h1⟩ | ⟨m, h1, _⟩
  · exact splitG_no sv h1
  · omega
theorem split_one {sv : Nat} {c : UInt8} {l : List UInt8} (h : (splitG sv c l).length = 1) : splitG sv c l = [l] := by
  rw [splitG_len] at h
  refine splitG_no sv ?_
  rw [← List.count_eq_zero]
  unfold Go.Lib.countByte at h
  omega
theorem fill_set {T : Type} (d : List T) (z x : T) (k : Nat) (i : Int) (hi : i = d.length) : (d ++ List.replicate (k + 1) z).set i.toNat x = (d ++ [x]) ++ List.replicate k z := by
  subst hi
  simp [List.replicate_succ]
/-- What stands ahead of the first byte c, and behind it. -/
def cutB (c : UInt8) (l : List UInt8) : List UInt8 × List UInt8 × Bool := if Go.Lib.indexByte l c < 0 then (l, [], false) else (l.take (Go.Lib.indexByte l c).toNat, l.drop ((Go.Lib.indexByte l c).toNat + 1), true)
open Go.Shelf in
shelf_lay Lays.n143 Nm 143 at Tryz as lays143
open Go.Shelf in
shelf_lay Lays.n138 Nm 138 at Tryz as lays138
theorem genSplitO_fun (l : List UInt8) (c : UInt8) (sv : Nat) (hsv : sv ≤ 1) (hl : l.length ≤ 900000) : Fun Tryz.prog 54 [.lit (str l), .lit (str [c]), .lit (.int .i64 (sv : Int)), .lit (.int .i64 (-1))] (Ret (.als 0 0 (splitG sv c l).length) [(0, ⟨true, 9, 1, (splitG sv c l).map strC, true⟩)]) := by
  have hc1 : (([c] : List UInt8).length : Int) = 1 := rfl
  have hN := splitG_len sv c l
  have hc : Go.Lib.countByte l c ≤ l.length := List.count_le_length
  have hmin : min ((Go.Lib.countByte l c : Nat) + 1 : Int) ((l.length : Int) + 1) = (((splitG sv c l).length : Nat) : Int) := by omega
  refine Fun.of (nt := 66) (rs := [.tmp 8]) Tryz.func54 rfl rfl rfl rfl rfl ?_
  refine Ev.sr fun K hK => S.o q.as (S.end (hK _ ?_))
  clear hK K
  refine Ev.seq ?_
  refine Ev.sr fun K hK => S.o q.mv (S.o q.eql (S.end (hK _ ?_)))
  clear hK K
  refine Ev.cd (fun c1 => ?_) (fun c1 => ?_)
  · first
  | (first | omega | contradiction)
  | refine Ev.sr fun K hK => S.o q.as (S.end (hK _ ?_))
    clear hK K
    refine Ev.weaken (Wk.nown strC 8 9 1) ?_
    refine Ev.ret ?_
    refine Ev.own1 ?_
    refine ⟨?_, ?_⟩
    all_goals first | rfl | (rw [fill_set _ _ _ 0 _ rfl, ← hd, hone]; simp; done) | (rw [← hd, hone]; simp; done)
  · first
  | (first | omega | contradiction)
  | refine Ev.skip ?_
    show Ev _ _ _ _
    refine Ev.seq ?_
    refine Ev.sr fun K hK => S.o q.mv (S.o q.seqs (S.end (hK _ ?_)))
    clear hK K
    refine Ev.cd (fun c2 => ?_) (fun c2 => ?_)
    · first
    | (first | omega | contradiction)
    | contradiction
    · first
    | (first | omega | contradiction)
    | refine Ev.skip ?_
      show Ev _ _ _ _
      refine Ev.seq ?_
      refine Ev.sr fun K hK => S.o q.mv (S.o q.lss (S.end (hK _ ?_)))
      clear hK K
      refine Ev.cd (fun c3 => ?_) (fun c3 => ?_)
      · first
      | (first | omega | contradiction)
      | refine Ev.region_S fun K hK => S.o q.mv (S.o q.mv (S.c0 (hF := count1_F lays138 ⟨_, Tryz.func72, rfl, rfl⟩ l c) (h := S.o q.add (S.o q.as (S.end (hK _ ?_))))))
        clear hK K
        show Ev _ _ _ _
        refine Ev.sr fun K hK => S.o q.mv (S.o q.mv (S.o (q.slen am_el9 am_un9) (S.o q.add (S.o q.min (S.o q.as (S.end (hK _ ?_)))))))
        clear hK K
        rw [hmin]
        refine Ev.sr fun K hK => S.o q.mv (S.mkf (f := strC) (([] : List UInt8)) am_el61 am_ze9 am_cl9 am_by9 (h := S.o q.as (S.end (hK _ ?_))))
        clear hK K
        refine Ev.sr fun K hK => S.o q.mv (S.o q.sub (S.o q.as (S.end (hK _ ?_))))
        clear hK K
        refine Ev.sr fun K hK => S.o q.as (S.end (hK _ ?_))
        clear hK K
        refine Ev.seq ?_
        refine Ev.block ?_
        refine Ev.loopU (ι := {q : List (List UInt8) × List UInt8 // q.1 ++ splitG sv c q.2 = splitG sv c l ∧ q.2.length ≤ l.length}) [0] [1, 2, 3, 8] (fun ⟨(d, r), _⟩ => [(10, .lit (.int .i64 ((d.length : Int)))), (0, .lit (str (r))), (9, .als 0 0 (d ++ List.replicate ((splitG sv c l).length - d.length) ([] : List UInt8)).length)]) (fun ⟨(d, r), _⟩ => [(0, ⟨true, 9, 1, (d ++ List.replicate ((splitG sv c l).length - d.length) ([] : List UInt8)).map strC, true⟩)]) (fun ⟨(d, r), _⟩ => (splitG sv c l).length - d.length) ⟨([], l), rfl, Nat.le_refl _⟩ (.c (.c (.c (.c .n)))) (keep_c (he := (by first | rfl | (rw [fill_set _ _ _ _ _ rfl, show (splitG sv c l).length - (d ++ [r.take (Go.Lib.indexByte r c + (sv : Int)).toNat]).length = K by simp only [List.length_append, List.length_singleton]; omega]; done) | (simp; done))) (h := keep_n)) (slots_c (he := (by first | rfl | (simp; done))) (h := (slots_c (he := (by first | rfl | skip)) (h := (slots_c (he := (by first | rfl | (congr 1; simp; omega))) (h := trivial)))))) ?_
        rintro ⟨⟨d, r⟩, hd, hrl⟩ R0 hR0
        dsimp only [List.cons_append, List.nil_append, List.length_cons, List.length_nil]
        simp only at hd hrl
        have hdl : d.length + (splitG sv c r).length = (splitG sv c l).length := by rw [← hd, List.length_append]
        have hrp : 0 < (splitG sv c r).length := List.length_pos_iff.2 (splitG_ne sv c r)
        obtain ⟨K, hK⟩ : ∃ K, (splitG sv c l).length - d.length = K + 1 := ⟨(splitG sv c l).length - d.length - 1, by omega⟩
        rw [hK]
        have hrow : (d ++ List.replicate (K + 1) ([] : List UInt8)).length = (splitG sv c l).length := by rw [List.length_append, List.length_replicate]; omega
        have hil : Go.Lib.indexByte r c < r.length := by rcases index_facts c r with ⟨h1, _⟩ | ⟨m, h1, h2, _⟩ <;> omega
        have htk : (r.take (Go.Lib.indexByte r c + (sv : Int)).toNat).length ≤ r.length := by rw [List.length_take]; omega
        have hig := Go.Lib.indexByte_ge r c
        by_cases hlt : (d.length : Int) < ((splitG sv c l).length : Int) - 1
        rotate_left
        · have hone := split_one (sv := sv) (c := c) (l := r) (by omega)
          obtain rfl : K = 0 := by omega
          refine Ev.seq ?_
          refine Ev.sr fun K hK => S.o q.mv (S.o q.mv (S.o q.lss (S.end (hK _ ?_))))
          clear hK K
          refine Ev.cd (fun c4 => ?_) (fun c4 => ?_)
          · first | omega | contradiction
          · first
          | (first | omega | contradiction)
          | refine Ev.exit ?_
            refine hR0 _ _ ?_
            show Ev _ _ _ _
            refine Ev.sr fun K hK => S.o q.mv (S.o q.mv (S.o q.mv (S.o (q.ia am_el61 am_cl9) (S.sx _ [] am_in9 am_cl9 (hl := (by first | exact at_g (by omega))) (h := S.end (hK _ ?_))))))
            clear hK K
            refine Ev.sr fun K hK => S.o q.mv (S.o q.mv (S.o q.add (S.o (q.sl am_el61 am_cl9) (S.o q.as (S.end (hK _ ?_))))))
            clear hK K
            refine Ev.ret ?_
            refine Ev.own1 ?_
            refine ⟨?_, ?_⟩
            all_goals first | rfl | (rw [fill_set _ _ _ 0 _ rfl, ← hd, hone]; simp; done) | (rw [← hd, hone]; simp; done)
        · have hi0 : 0 ≤ Go.Lib.indexByte r c := by
            rcases Int.lt_or_le (Go.Lib.indexByte r c) 0 with h | h
            · rw [split_stop (sv := sv) h] at hdl
              simp only [List.length_singleton] at hdl
              omega
            · exact h
          refine Ev.seq ?_
          refine Ev.sr fun K hK => S.o q.mv (S.o q.mv (S.o q.lss (S.end (hK _ ?_))))
          clear hK K
          refine Ev.cd (fun c5 => ?_) (fun c5 => ?_)
          · first
          | (first | omega | contradiction)
          | refine Ev.skip ?_
            show Ev _ _ _ _
            refine Ev.block ?_
            refine Ev.sr fun K hK => S.o q.mv (S.o q.mv (S.c0 (hF := index1_F lays143 ⟨_, Tryz.func73, rfl, rfl⟩ _ c) (h := S.o q.as (S.end (hK _ ?_)))))
            clear hK K
            refine Ev.seq ?_
            refine Ev.sr fun K hK => S.o q.mv (S.o q.lss (S.end (hK _ ?_)))
            clear hK K
            refine Ev.cd (fun c6 => ?_) (fun c6 => ?_)
            · first
            | (first | omega | contradiction)
            | refine Ev.exit ?_
              refine hR0 _ _ ?_
              show Ev _ _ _ _
              refine Ev.sr fun K hK => S.o q.mv (S.o q.mv (S.o q.mv (S.o (q.ia am_el61 am_cl9) (S.sx _ [] am_in9 am_cl9 (hl := (by first | exact at_g (by omega))) (h := S.end (hK _ ?_))))))
              clear hK K
              refine Ev.sr fun K hK => S.o q.mv (S.o q.mv (S.o q.add (S.o (q.sl am_el61 am_cl9) (S.o q.as (S.end (hK _ ?_))))))
              clear hK K
              refine Ev.ret ?_
              refine Ev.own1 ?_
              refine ⟨?_, ?_⟩
              all_goals first | rfl | (rw [fill_set _ _ _ 0 _ rfl, ← hd, hone]; simp; done) | (rw [← hd, hone]; simp; done)
            · first
            | (first | omega | contradiction)
            | refine Ev.skip ?_
              show Ev _ _ _ _
              refine Ev.sr fun K hK => S.o q.mv (S.o q.mv (S.o q.mv (S.o q.mv (S.o q.mv (S.o q.add (S.o (q.slhi am_el9 am_un9) (S.o (q.ia am_el61 am_cl9) (S.sx _ [] am_in9 am_cl9 (hl := (by first | exact at_g (by omega))) (h := S.end (hK _ ?_))))))))))
              clear hK K
              refine Ev.sr fun K hK => S.o q.mv (S.o q.mv (S.o q.mv (S.o (q.slen am_el9 am_un9) (S.o q.add (S.o (q.sllo am_el9 am_un9) (S.o q.as (S.end (hK _ ?_))))))))
              clear hK K
              refine Ev.region_S fun K hK => S.o q.mv (S.o q.add (S.o q.as (S.end (hK _ ?_))))
              clear hK K
              refine hR0 _ _ ?_
              refine roundU [0] [1, 2, 3, 8] ⟨(d ++ [r.take (Go.Lib.indexByte r c + (sv : Int)).toNat], r.drop (Go.Lib.indexByte r c + (([c] : List UInt8).length : Int)).toNat), ?_⟩ ?_ (keep_c (he := (by first | rfl | (rw [fill_set _ _ _ _ _ rfl, show (splitG sv c l).length - (d ++ [r.take (Go.Lib.indexByte r c + (sv : Int)).toNat]).length = K by simp only [List.length_append, List.length_singleton]; omega]; done) | (simp; done))) (h := keep_n)) (slots_c (he := (by first | rfl | (simp; done))) (h := (slots_c (he := (by first | rfl | skip)) (h := (slots_c (he := (by first | rfl | (congr 1; simp; omega))) (h := trivial)))))) (.c (.c (.c (.c .n))))
              obtain ⟨m, hm⟩ := Int.eq_ofNat_of_zero_le (show 0 ≤ Go.Lib.indexByte r c by omega)
              obtain ⟨g1, g2⟩ := split_step (sv := sv) hsv hm
              refine ⟨?_, by dsimp only; rw [List.length_drop]; omega⟩
              dsimp only
              rw [hc1, hm, show ((m : Int) + (sv : Int)).toNat = m + sv by omega, show ((m : Int) + 1).toNat = m + 1 by omega, List.append_assoc, ← hd, g2]
              rfl
              all_goals (dsimp only; simp only [List.length_append, List.length_singleton]; omega)
          · first | omega | contradiction
      · first
      | (first | omega | contradiction)
      | refine Ev.skip ?_
        show Ev _ _ _ _
        refine Ev.sr fun K hK => S.o q.mv (S.o q.mv (S.o (q.slen am_el9 am_un9) (S.o q.add (S.o q.min (S.o q.as (S.end (hK _ ?_)))))))
        clear hK K
        rw [hmin]
        refine Ev.sr fun K hK => S.o q.mv (S.mkf (f := strC) (([] : List UInt8)) am_el61 am_ze9 am_cl9 am_by9 (h := S.o q.as (S.end (hK _ ?_))))
        clear hK K
        refine Ev.sr fun K hK => S.o q.mv (S.o q.sub (S.o q.as (S.end (hK _ ?_))))
        clear hK K
        refine Ev.sr fun K hK => S.o q.as (S.end (hK _ ?_))
        clear hK K
        refine Ev.seq ?_
        refine Ev.block ?_
        refine Ev.loopU (ι := {q : List (List UInt8) × List UInt8 // q.1 ++ splitG sv c q.2 = splitG sv c l ∧ q.2.length ≤ l.length}) [0] [1, 2, 3, 8] (fun ⟨(d, r), _⟩ => [(10, .lit (.int .i64 ((d.length : Int)))), (0, .lit (str (r))), (9, .als 0 0 (d ++ List.replicate ((splitG sv c l).length - d.length) ([] : List UInt8)).length)]) (fun ⟨(d, r), _⟩ => [(0, ⟨true, 9, 1, (d ++ List.replicate ((splitG sv c l).length - d.length) ([] : List UInt8)).map strC, true⟩)]) (fun ⟨(d, r), _⟩ => (splitG sv c l).length - d.length) ⟨([], l), rfl, Nat.le_refl _⟩ (.c (.c (.c (.c .n)))) (keep_c (he := (by first | rfl | (rw [fill_set _ _ _ _ _ rfl, show (splitG sv c l).length - (d ++ [r.take (Go.Lib.indexByte r c + (sv : Int)).toNat]).length = K by simp only [List.length_append, List.length_singleton]; omega]; done) | (simp; done))) (h := keep_n)) (slots_c (he := (by first | rfl | (simp; done))) (h := (slots_c (he := (by first | rfl | skip)) (h := (slots_c (he := (by first | rfl | (congr 1; simp; omega))) (h := trivial)))))) ?_
        rintro ⟨⟨d, r⟩, hd, hrl⟩ R0 hR0
        dsimp only [List.cons_append, List.nil_append, List.length_cons, List.length_nil]
        simp only at hd hrl
        have hdl : d.length + (splitG sv c r).length = (splitG sv c l).length := by rw [← hd, List.length_append]
        have hrp : 0 < (splitG sv c r).length := List.length_pos_iff.2 (splitG_ne sv c r)
        obtain ⟨K, hK⟩ : ∃ K, (splitG sv c l).length - d.length = K + 1 := ⟨(splitG sv c l).length - d.length - 1, by omega⟩
        rw [hK]
        have hrow : (d ++ List.replicate (K + 1) ([] : List UInt8)).length = (splitG sv c l).length := by rw [List.length_append, List.length_replicate]; omega
        have hil : Go.Lib.indexByte r c < r.length := by rcases index_facts c r with ⟨h1, _⟩ | ⟨m, h1, h2, _⟩ <;> omega
        have htk : (r.take (Go.Lib.indexByte r c + (sv : Int)).toNat).length ≤ r.length := by rw [List.length_take]; omega
        have hig := Go.Lib.indexByte_ge r c
        by_cases hlt : (d.length : Int) < ((splitG sv c l).length : Int) - 1
        rotate_left
        · have hone := split_one (sv := sv) (c := c) (l := r) (by omega)
          obtain rfl : K = 0 := by omega
          refine Ev.seq ?_
          refine Ev.sr fun K hK => S.o q.mv (S.o q.mv (S.o q.lss (S.end (hK _ ?_))))
          clear hK K
          refine Ev.cd (fun c7 => ?_) (fun c7 => ?_)
          · first | omega | contradiction
          · first
          | (first | omega | contradiction)
          | refine Ev.exit ?_
            refine hR0 _ _ ?_
            show Ev _ _ _ _
            refine Ev.sr fun K hK => S.o q.mv (S.o q.mv (S.o q.mv (S.o (q.ia am_el61 am_cl9) (S.sx _ [] am_in9 am_cl9 (hl := (by first | exact at_g (by omega))) (h := S.end (hK _ ?_))))))
            clear hK K
            refine Ev.sr fun K hK => S.o q.mv (S.o q.mv (S.o q.add (S.o (q.sl am_el61 am_cl9) (S.o q.as (S.end (hK _ ?_))))))
            clear hK K
            refine Ev.ret ?_
            refine Ev.own1 ?_
            refine ⟨?_, ?_⟩
            all_goals first | rfl | (rw [fill_set _ _ _ 0 _ rfl, ← hd, hone]; simp; done) | (rw [← hd, hone]; simp; done)
        · have hi0 : 0 ≤ Go.Lib.indexByte r c := by
            rcases Int.lt_or_le (Go.Lib.indexByte r c) 0 with h | h
            · rw [split_stop (sv := sv) h] at hdl
              simp only [List.length_singleton] at hdl
              omega
            · exact h
          refine Ev.seq ?_
          refine Ev.sr fun K hK => S.o q.mv (S.o q.mv (S.o q.lss (S.end (hK _ ?_))))
          clear hK K
          refine Ev.cd (fun c8 => ?_) (fun c8 => ?_)
          · first
          | (first | omega | contradiction)
          | refine Ev.skip ?_
            show Ev _ _ _ _
            refine Ev.block ?_
            refine Ev.sr fun K hK => S.o q.mv (S.o q.mv (S.c0 (hF := index1_F lays143 ⟨_, Tryz.func73, rfl, rfl⟩ _ c) (h := S.o q.as (S.end (hK _ ?_)))))
            clear hK K
            refine Ev.seq ?_
            refine Ev.sr fun K hK => S.o q.mv (S.o q.lss (S.end (hK _ ?_)))
            clear hK K
            refine Ev.cd (fun c9 => ?_) (fun c9 => ?_)
            · first
            | (first | omega | contradiction)
            | refine Ev.exit ?_
              refine hR0 _ _ ?_
              show Ev _ _ _ _
              refine Ev.sr fun K hK => S.o q.mv (S.o q.mv (S.o q.mv (S.o (q.ia am_el61 am_cl9) (S.sx _ [] am_in9 am_cl9 (hl := (by first | exact at_g (by omega))) (h := S.end (hK _ ?_))))))
              clear hK K
              refine Ev.sr fun K hK => S.o q.mv (S.o q.mv (S.o q.add (S.o (q.sl am_el61 am_cl9) (S.o q.as (S.end (hK _ ?_))))))
              clear hK K
              refine Ev.ret ?_
              refine Ev.own1 ?_
              refine ⟨?_, ?_⟩
              all_goals first | rfl | (rw [fill_set _ _ _ 0 _ rfl, ← hd, hone]; simp; done) | (rw [← hd, hone]; simp; done)
            · first
            | (first | omega | contradiction)
            | refine Ev.skip ?_
              show Ev _ _ _ _
              refine Ev.sr fun K hK => S.o q.mv (S.o q.mv (S.o q.mv (S.o q.mv (S.o q.mv (S.o q.add (S.o (q.slhi am_el9 am_un9) (S.o (q.ia am_el61 am_cl9) (S.sx _ [] am_in9 am_cl9 (hl := (by first | exact at_g (by omega))) (h := S.end (hK _ ?_))))))))))
              clear hK K
              refine Ev.sr fun K hK => S.o q.mv (S.o q.mv (S.o q.mv (S.o (q.slen am_el9 am_un9) (S.o q.add (S.o (q.sllo am_el9 am_un9) (S.o q.as (S.end (hK _ ?_))))))))
              clear hK K
              refine Ev.region_S fun K hK => S.o q.mv (S.o q.add (S.o q.as (S.end (hK _ ?_))))
              clear hK K
              refine hR0 _ _ ?_
              refine roundU [0] [1, 2, 3, 8] ⟨(d ++ [r.take (Go.Lib.indexByte r c + (sv : Int)).toNat], r.drop (Go.Lib.indexByte r c + (([c] : List UInt8).length : Int)).toNat), ?_⟩ ?_ (keep_c (he := (by first | rfl | (rw [fill_set _ _ _ _ _ rfl, show (splitG sv c l).length - (d ++ [r.take (Go.Lib.indexByte r c + (sv : Int)).toNat]).length = K by simp only [List.length_append, List.length_singleton]; omega]; done) | (simp; done))) (h := keep_n)) (slots_c (he := (by first | rfl | (simp; done))) (h := (slots_c (he := (by first | rfl | skip)) (h := (slots_c (he := (by first | rfl | (congr 1; simp; omega))) (h := trivial)))))) (.c (.c (.c (.c .n))))
              obtain ⟨m, hm⟩ := Int.eq_ofNat_of_zero_le (show 0 ≤ Go.Lib.indexByte r c by omega)
              obtain ⟨g1, g2⟩ := split_step (sv := sv) hsv hm
              refine ⟨?_, by dsimp only; rw [List.length_drop]; omega⟩
              dsimp only
              rw [hc1, hm, show ((m : Int) + (sv : Int)).toNat = m + sv by omega, show ((m : Int) + 1).toNat = m + 1 by omega, List.append_assoc, ← hd, g2]
              rfl
              all_goals (dsimp only; simp only [List.length_append, List.length_singleton]; omega)
          · first | omega | contradiction
theorem splitAfterO_fun (l : List UInt8) (c : UInt8) (hl : l.length ≤ 900000) : Fun Tryz.prog 32 [.lit (str l), .lit (str [c])] (Ret (.als 0 0 (splitG 1 c l).length) [(0, ⟨true, 9, 1, (splitG 1 c l).map strC, true⟩)]) := by
  refine Fun.of (nt := 10) (rs := [.tmp 4]) Tryz.func32 rfl rfl rfl rfl rfl ?_
  refine Ev.sr fun K hK => S.o q.as (S.end (hK _ ?_))
  clear hK K
  refine Ev.sr fun K hK => S.o q.mv (S.o q.mv (S.o q.mv (S.o (q.slen am_el9 am_un9) (S.c1 (hF := genSplitO_fun l c 1 (by decide) hl) (h := S.o q.as (S.end (hK _ ?_)))))))
  clear hK K
  refine Ev.ret ?_
  refine Ev.own1 ?_
  refine ⟨?_, ?_⟩
  all_goals rfl
end Go.Proofs.YtccddakkegelkaaGreatDoor
