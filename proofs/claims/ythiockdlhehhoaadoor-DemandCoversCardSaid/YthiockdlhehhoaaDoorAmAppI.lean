/-
  The abstract machine, continued: strconv.AppendInt at base 10, onto a row of the call's own, with all other memory kept.
  Conditions: none; generic over the program.
-/
import Derived.Test.YthiockdlhehhoaaDoorAmRenR
import Derived.Test.YthiockdlhehhoaaDoorAmItoa
import Derived.Test.YthiockdlhehhoaaDoorAmOwn
import Derived.Test.YthiockdlhehhoaaDoorAmLib
import Derived.Shelf.Strconv.Itoa1
import Derived.Shelf.Strconv.Itoa2
import Derived.Lib.ItoaMem
import Derived.Lib.ItoaLen
import Derived.Lib.AppendIntMem
import Derived.Lib.Hide
import Derived.Lib.OwnKind
import Derived.Lib.Slices
import Derived.OwnWalk
namespace Go.AM
open Go.Proofs Go.Lib Go.Sort Go.Shelf Go.RowKit
set_option linter.unusedVariables false
set_option linter.unusedSimpArgs false
set_option linter.unusedSectionVars false

def bytesV (l : List UInt8) : List Value := l.map fun x => .int .u8 (x.toNat : Int)
theorem bytesV_app (l m : List UInt8) : bytesV (l ++ m) = bytesV l ++ bytesV m := by simp [bytesV]
theorem cells_bytes : ∀ (l : List UInt8) {E' : Env} {xs : List Value}, FVr E' 1 (l.map byteC) xs → xs = bytesV l
  | [], E', xs, h => by simpa [FVr, bytesV] using h
  | q :: l, E', xs, h => by
    simp only [List.map_cons, FVr, byteC, FVc] at h
    obtain ⟨ys, zs, rfl, _, ⟨y, ys', rfl, _, h1, rfl⟩, h2⟩ := h
    simp only [FV] at h1
    rw [h1, cells_bytes l h2]
    rfl

/-- A row of bytes of the call's own. -/
def OwnB (w : World) (el : TypeId) (v : Value) (l : List UInt8) : Prop := ObjOK w v (bytesV l) ⟨true, el, 1, l.map byteC, true⟩ ∧ ∃ A0 n0 c0, v = .slice A0 n0 c0
/-- What an append leaves of all other memory. -/
structure Mov (v v' : Value) (w w' : World) : Prop where
  os : w'.os = w.os
  tape : Tp w w'
  output : w'.output = w.output
  size : w.heap.size ≤ w'.heap.size
  block : ∀ k, k < w.heap.size → blockOf v ≠ some k → w'.heap[k]? = w.heap[k]?
  lies : ∀ k, blockOf v' = some k → (blockOf v = some k ∨ w.heap.size ≤ k) ∧ k < w'.heap.size

theorem Mov.trans {v v' v'' : Value} {w w' w'' : World} (h : Mov v v' w w') (k : Mov v' v'' w' w'') : Mov v v'' w w'' where
  os := k.os.trans h.os
  tape := h.tape.trans k.tape
  output := k.output.trans h.output
  size := Nat.le_trans h.size k.size
  block := fun j hj hne => (k.block j (Nat.lt_of_lt_of_le hj h.size) (fun e => by
    rcases (h.lies j e).1 with h1 | h1
    · exact hne h1
    · omega)).trans (h.block j hj hne)
  lies := fun j e => by
    obtain ⟨h1, h2⟩ := k.lies j e
    refine ⟨?_, h2⟩
    rcases h1 with h1 | h1
    · exact (h.lies j h1).1
    · exact .inr (Nat.le_trans h.size h1)

/-- The elder world with draws and new blocks behind it. -/
theorem OwnB.grow {w : World} {el : TypeId} {v : Value} {l : List UInt8} (h : OwnB w el v l) (k : Nat) (os : Array Go.Obj) : OwnB (Go.Sort.grow (w.drewN k) os) el v l := by
  obtain ⟨h1, h2⟩ := h
  refine ⟨?_, h2⟩
  simp only [ObjOK] at h1 ⊢
  rcases h1 with h1 | ⟨b, cap, cur, e, hg, h1⟩ | ⟨b, es, clk, e, _⟩
  · exact .inl h1
  · refine .inr (.inl ⟨b, cap, cur, e, ?_, h1⟩)
    rw [Lib.heap_grow_old w k os b (Array.getElem?_eq_some_iff.1 hg).1]
    exact hg
  · obtain ⟨_, _, _, e2⟩ := h2
    rw [e2] at e; cases e
theorem Mov.grow {w : World} {v : Value} (hb : ∀ k, blockOf v = some k → k < w.heap.size) (k : Nat) (os : Array Go.Obj) : Mov v v w (Go.Sort.grow (w.drewN k) os) where
  os := rfl
  tape := ⟨rfl, by simp [Go.Sort.grow, World.drewN]⟩
  output := rfl
  size := Lib.size_grow w k os
  block := fun j hj _ => Lib.heap_grow_old w k os j hj
  lies := fun j e => ⟨.inl e, Nat.lt_of_lt_of_le (hb j e) (Lib.size_grow w k os)⟩
theorem OwnB.lt {w : World} {el : TypeId} {v : Value} {l : List UInt8} (h : OwnB w el v l) : ∀ k, blockOf v = some k → k < w.heap.size := fun k hk => h.1.lt hk
theorem OwnB.alloc {w : World} {el : TypeId} {v : Value} {l : List UInt8} (h : OwnB w el v l) (o : Go.Obj) : OwnB (w.alloc o) el v l := by
  rw [alloc_eq_grow]; exact h.grow 0 #[o]

section
variable {P : Program} {ρ : Ren}
theorem wpl_append_str {w : World} {ops : Array Oper} {rest : List Oper} {o : Oper} {a : Act} {Q : Exit → Act → World → Prop} (hgd : o.guard = none) (s x : Operand) (t u : TypeId)
    (ho : o.op = .call { callee := .builtin .append, args := #[s, x], argTypes := #[t, u] }) (e : TypeId) (i : TypeInfo) (ht : P.underlying t = some (.slice e)) (hu : P.underlying u = some .string) (hi : P.info? e = some i)
    (hz : i.zero = some (.int .u8 0)) (hs1 : i.size = 1) (hby : i.bytes = 1) (v : Value) (l : List UInt8) (hs : a.eval s = v) (hown : OwnB w e v l) (m : List UInt8) (hx : a.eval x = .string ⟨m.toArray⟩) (hb : l.length + m.length ≤ 140737488355328)
    (h : ∀ v' w', OwnB w' e v' (l ++ m) → Mov v v' w w' → wpList P ops Q rest (a.put o.dst v') w') : wpList P ops Q (o :: rest) a w := by
  obtain ⟨v', w', hr, hok, e1, e2, e3, e4, e5, e6, e7⟩ := run_append_str (P := P) (w := w) t u o.type e i (.int .u8 0) ht hu hi hz (by rw [hs1]; rfl) hs1 v (bytesV l) ⟨true, e, 1, l.map byteC, true⟩ rfl rfl hs1.symm hown.1 hown.2
    (by rw [hs1]; simp [bytesV]) m (by simp only [List.length_map, maxLen]; omega) (by rw [hby]; simp only [List.length_map]; omega) true
  refine wpList_plain hgd fun _ hK => ?_
  unfold Oper.wp execOp
  simp only [ho, resolve, invoke, builtin, Sem.run_bind, Sem.run_pure, Result.andThen_ok, List.map_toArray, List.map_cons, List.map_nil, hs, hx]
  rw [show (Value.string ⟨m.toArray⟩) = str m from rfl, hr]
  refine hK _ _ (h v' w' ⟨?_, e7⟩ ⟨e1, e2, e3, e4, e5, e6⟩)
  rw [bytesV_app, List.map_append]
  rw [hs1] at hok
  exact hok
theorem wpl_append_row {w : World} {ops : Array Oper} {rest : List Oper} {o : Oper} {a : Act} {Q : Exit → Act → World → Prop} (hgd : o.guard = none) (s x : Operand) (t : TypeId)
    (ho : o.op = .call { callee := .builtin .append, args := #[s, x], argTypes := #[t, t] }) (e : TypeId) (i : TypeInfo) (ht : P.underlying t = some (.slice e)) (hi : P.info? e = some i)
    (hz : i.zero = some (.int .u8 0)) (hs1 : i.size = 1) (hby : i.bytes = 1) (v : Value) (l : List UInt8) (hs : a.eval s = v) (hown : OwnB w e v l) (m : List UInt8) (ad : Addr) (k c : Nat) (hx : a.eval x = .slice (some ad) k c) (hk : m.length = k)
    (hh : ∀ j u, (bytesV m)[j]? = some u → w.cell? (ad.add j) = some u) (hb : l.length + m.length ≤ 140737488355328)
    (h : ∀ v' w', OwnB w' e v' (l ++ m) → Mov v v' w w' → wpList P ops Q rest (a.put o.dst v') w') : wpList P ops Q (o :: rest) a w := by
  subst hk
  obtain ⟨v', w', hr, hok, e1, e2, e3, e4, e5, e6, e7⟩ := run_append_all (P := P) (w := w) t o.type e i (.int .u8 0) ht hi hz (by rw [hs1]; rfl) (by omega) v (bytesV l) ⟨true, e, 1, l.map byteC, true⟩ rfl rfl hs1.symm hown.1 hown.2
    (by rw [hs1]; simp [bytesV]) (some ad) m.length c (bytesV m) (m.map byteC) (by simp) (by rw [hs1]; simp [bytesV]) (fun _ => ⟨ad, rfl, hh⟩) (fun u hu => by simp only [bytesV, List.mem_map] at hu; obtain ⟨b, _, rfl⟩ := hu; rfl) (by simp only [List.length_map, maxLen]; omega) (by rw [hby]; simp only [List.length_map]; omega) true
  refine wpList_plain hgd fun _ hK => ?_
  unfold Oper.wp execOp
  simp only [ho, resolve, invoke, builtin, Sem.run_bind, Sem.run_pure, Result.andThen_ok, List.map_toArray, List.map_cons, List.map_nil, hs, hx, hr]
  refine hK _ _ (h v' w' ⟨?_, e7⟩ ⟨e1, e2, e3, e4, e5, e6⟩)
  rw [bytesV_app, List.map_append]
  rw [hs1] at hok
  exact hok

set_option maxHeartbeats 6400000 in
set_option maxRecDepth 100000 in
theorem appUint_small (L : LaysM.n288 P ρ) (u : Nat) (hu : u < 100) (sv : Value) (l : List UInt8) (w : World) (hown : OwnB w (ρ.t 5) sv l) (hlim : l.length + 20 ≤ 140737488355328) :
    Calls P (ρ.f 288) #[sv, .int .u64 u, .int .i64 10] w fun e w' => ∃ v', e = .returned v' ∧ OwnB w' (ρ.t 5) v' (l ++ Lib.decDigits u) ∧ Mov sv v' w w' := by
  have mixed := L.mixed
  have t5 := L.t5; have a5 := L.a5; have z5 := L.z5; have v5 := L.v5
  have t37 := L.t37; have u37 := run_underlying L.t37; have a37 := L.a37; have z37 := L.z37; have v37 := L.v37
  have t53 := L.t53; have a53 := L.a53; have z53 := L.z53; have v53 := L.v53
  have t3 := L.t3; have a3 := L.a3; have z3 := L.z3; have v3 := L.v3
  have t4 := L.t4; have a4 := L.a4; have z4 := L.z4; have v4 := L.v4
  have t9 := L.t9; have a9 := L.a9; have z9 := L.z9; have v9 := L.v9
  have t171 := L.t171; have a171 := L.a171; have z171 := L.z171; have v171 := L.v171
  have t0 := L.t0; have a0 := L.a0; have z0 := L.z0; have v0 := L.v0
  have t173 := L.t173; have a173 := L.a173; have z173 := L.z173; have v173 := L.v173
  have e283 : ∀ args w, (callFunc (ρ.f 283) args).run P w = .ok (.enter (ρ.f 283) args) w := enters_of L.f283 (by kernel_rfl) rfl
  obtain ⟨i0, hi, hz0, hz1, hz2⟩ := info_parts L.i5
  have hlen : (Lib.decDigits u).length ≤ 20 := by
    have := Lib.nDigits_le20 u (by omega)
    rw [Lib.decDigits_length]; omega
  go_enter L.f288, Body.n288_ntmps ρ
  go_wp2_with (first
    | (go_at_fn (ρ.f 283); refine (Any.internal_strconv_small { L with } u hu _).mono ?_; rintro e w' ⟨rfl, rfl⟩)
    | (at_builtin; refine wpl_append_str rfl _ _ (ρ.t 37) (ρ.t 9) rfl (ρ.t 5) i0 L.t37 L.t9 hi hz0 hz1 hz2 _ _ rfl hown (Lib.decDigits u) rfl (by omega) ?_))
  intro v' w1 hown' hmov
  go_wp2
  go_ret
  exact ⟨v', rfl, hown', hmov⟩

set_option maxHeartbeats 12800000 in
set_option maxRecDepth 100000 in
theorem appUint_big (L : LaysM.n288 P ρ) (u : Nat) (hu : 100 ≤ u) (hu64 : u < 18446744073709551616) (sv : Value) (l : List UInt8) (w : World) (hown : OwnB w (ρ.t 5) sv l) (hlim : l.length + 20 ≤ 140737488355328)
    (htab : Lib.TabIs P w "internal/strconv.uint64pow10" .u64 Lib.pow10Tab) :
    Calls P (ρ.f 288) #[sv, .int .u64 u, .int .i64 10] w fun e w' => ∃ v', e = .returned v' ∧ OwnB w' (ρ.t 5) v' (l ++ Lib.decDigits u) ∧ Mov sv v' w w' := by
  have mixed := L.mixed
  have t5 := L.t5; have a5 := L.a5; have z5 := L.z5; have v5 := L.v5
  have t37 := L.t37; have u37 := run_underlying L.t37; have a37 := L.a37; have z37 := L.z37; have v37 := L.v37
  have t53 := L.t53; have a53 := L.a53; have z53 := L.z53; have v53 := L.v53
  have t3 := L.t3; have a3 := L.a3; have z3 := L.z3; have v3 := L.v3
  have t4 := L.t4; have a4 := L.a4; have z4 := L.z4; have v4 := L.v4
  have t9 := L.t9; have a9 := L.a9; have z9 := L.z9; have v9 := L.v9
  have t171 := L.t171; have a171 := L.a171; have z171 := L.z171; have v171 := L.v171
  have t0 := L.t0; have a0 := L.a0; have z0 := L.z0; have v0 := L.v0
  have t173 := L.t173; have a173 := L.a173; have z173 := L.z173; have v173 := L.v173
  have e284 : ∀ args w, (callFunc (ρ.f 284) args).run P w = .ok (.enter (ρ.f 284) args) w := enters_of L.f284 (by kernel_rfl) rfl
  have e285 : ∀ args w, (callFunc (ρ.f 285) args).run P w = .ok (.enter (ρ.f 285) args) w := enters_of L.f285 (by kernel_rfl) rfl
  obtain ⟨i0, hi, hz0, hz1, hz2⟩ := info_parts L.i5
  have hu1 : 1 ≤ u := by omega
  have hnd20 : Lib.nDigits u ≤ 20 := Lib.nDigits_le20 u hu64
  have hal : P.arrayLen (ρ.t 171) = 24 := by simp [Program.arrayLen, L.t171]
  have hsl : ∀ W, (Instr.sliceAt (ρ.t 171) (.pointer (some ⟨w.heap.size, 0, none⟩)) none (some (.int .i64 (Lib.nDigits u : Int))) none).run P W = .ok (.slice (some ⟨w.heap.size, 0, none⟩) (Lib.nDigits u) 24) W := fun W => by
    rw [run_sliceAt_array_h W (ρ.t 171) ⟨w.heap.size, 0, none⟩ (by simp [Program.arrayLen, Program.elem, L.t171]) .i64 (Lib.nDigits u : Int) (by omega) (by rw [hal]; omega)]
    go_simp
  have hH0 := Lib.holds_zero0 w (ρ.t 171) (Lib.nDigits u) (by omega)
  have hfmt := Any.internal_strconv_formatBase10 { L with } w.heap.size 0 24 u (Array.replicate (Lib.nDigits u) 0) (w.alloc (.cells Lib.zeros24 (ρ.t 171))) hH0 (by rw [Array.size_replicate]; exact Lib.lt_pow_nDigits u) hu64 (by rw [Array.size_replicate]; omega)
  rw [Array.size_replicate] at hfmt
  have HH0 := Lib.hid hH0
  have iu : (100 : Int) ≤ (u : Int) := by omega
  clear hH0 hal
  go_enter L.f288, Body.n288_ntmps ρ
  go_wp2_with (first
    | (go_at_fn (ρ.f 284); refine (Any.internal_strconv_numDigits { L with } u hu1 hu64 _ (Lib.tabIs_alloc htab _)).mono ?_; rintro e w' ⟨rfl, rfl⟩))
  go_at_fn (ρ.f 285)
  refine hfmt.mono ?_
  rintro e w' ⟨rfl, k, v', dk, rfl, hF⟩
  have hcells : ∀ j u', (bytesV (Lib.decDigits u))[j]? = some u' → ((putRow (fun (b : UInt8) => Value.int .u8 (b.toNat : Int)) (w.alloc (.cells Lib.zeros24 (ρ.t 171))) w.heap.size 0 dk).drewN k).cell? ((⟨w.heap.size, 0, none⟩ : Addr).add j) = some u' := by
    intro j u' hj
    have hjl : j < (Lib.decDigits u).length := by
      have h5 := (List.getElem?_eq_some_iff.1 hj).1
      simpa [bytesV] using h5
    have e5 : (bytesV (Lib.decDigits u))[j]? = some (Value.int .u8 ((Lib.decDigits u)[j].toNat : Int)) := by simp [bytesV, hjl]
    rw [e5] at hj
    cases hj
    rw [Lib.row_is_numeral hF j hjl, Lib.add_plain, World.cell?_drewN]
    exact cell?_putRow (fun (b : UInt8) => Value.int .u8 (b.toNat : Int)) _ w.heap.size 0 _ dk HH0.out (by rw [hF.size, Array.size_replicate]) j (by rw [hF.size]; rw [Lib.decDigits_length] at hjl; exact hjl)
  obtain ⟨os, eo⟩ := Lib.fin_at w (.cells Lib.zeros24 (ρ.t 171)) dk k 0
  have hown2 : OwnB ((putRow (fun (b : UInt8) => Value.int .u8 (b.toNat : Int)) (w.alloc (.cells Lib.zeros24 (ρ.t 171))) w.heap.size 0 dk).drewN k) (ρ.t 5) sv l := by rw [eo]; exact hown.grow k os
  have hmov2 : Mov sv sv w ((putRow (fun (b : UInt8) => Value.int .u8 (b.toNat : Int)) (w.alloc (.cells Lib.zeros24 (ρ.t 171))) w.heap.size 0 dk).drewN k) := by rw [eo]; exact Mov.grow hown.lt k os
  generalize (putRow (fun (b : UInt8) => Value.int .u8 (b.toNat : Int)) (w.alloc (.cells Lib.zeros24 (ρ.t 171))) w.heap.size 0 dk).drewN k = W2 at hcells hown2 hmov2 ⊢
  clear eo HH0 hfmt
  go_wp2_with (at_builtin; refine wpl_append_row rfl _ _ (ρ.t 37) rfl (ρ.t 5) i0 L.t37 hi hz0 hz1 hz2 _ _ rfl hown2 (Lib.decDigits u) ⟨w.heap.size, 0, none⟩ (Lib.nDigits u) 24 rfl (Lib.decDigits_length u) hcells ?c4 ?_)
  case c4 => rw [Lib.decDigits_length]; omega
  intro v2 w3 hown' hmov
  go_wp2
  go_ret
  exact ⟨v2, rfl, hown', hmov2.trans hmov⟩

theorem appUint (L : LaysM.n288 P ρ) (u : Nat) (hu64 : u < 18446744073709551616) (sv : Value) (l : List UInt8) (w : World) (hown : OwnB w (ρ.t 5) sv l) (hlim : l.length + 20 ≤ 140737488355328)
    (htab : Lib.TabIs P w "internal/strconv.uint64pow10" .u64 Lib.pow10Tab) :
    Calls P (ρ.f 288) #[sv, .int .u64 u, .int .i64 10] w fun e w' => ∃ v', e = .returned v' ∧ OwnB w' (ρ.t 5) v' (l ++ Lib.decDigits u) ∧ Mov sv v' w w' := by
  by_cases h : u < 100
  · exact appUint_small L u h sv l w hown hlim
  · exact appUint_big L u (by omega) hu64 sv l w hown hlim htab

set_option maxHeartbeats 6400000 in
set_option maxRecDepth 100000 in
theorem appInt0 (L : LaysM.n249 P ρ) (i : Int) (h0 : -9223372036854775808 ≤ i) (h1 : i ≤ 9223372036854775807) (sv : Value) (l : List UInt8) (w : World) (hown : OwnB w (ρ.t 5) sv l) (hlim : l.length + 21 ≤ 140737488355328)
    (htab : ∀ v' w', Mov sv v' w w' → Lib.TabIs P w' "internal/strconv.uint64pow10" .u64 Lib.pow10Tab) :
    Calls P (ρ.f 249) #[sv, .int .i64 i, .int .i64 10] w fun e w' => ∃ v', e = .returned v' ∧ OwnB w' (ρ.t 5) v' (l ++ Lib.itoa i) ∧ Mov sv v' w w' := by
  have mixed := L.mixed
  have t5 := L.t5; have a5 := L.a5; have z5 := L.z5; have v5 := L.v5
  have t37 := L.t37; have u37 := run_underlying L.t37; have a37 := L.a37; have z37 := L.z37; have v37 := L.v37
  have t2 := L.t2; have a2 := L.a2; have z2 := L.z2; have v2 := L.v2
  have t3 := L.t3; have a3 := L.a3; have z3 := L.z3; have v3 := L.v3
  have t53 := L.t53; have a53 := L.a53; have z53 := L.z53; have v53 := L.v53
  have t4 := L.t4; have a4 := L.a4; have z4 := L.z4; have v4 := L.v4
  have e288 : ∀ args w, (callFunc (ρ.f 288) args).run P w = .ok (.enter (ρ.f 288) args) w := enters_of L.f288 (by kernel_rfl) rfl
  obtain ⟨i0, hi, hz0, hz1, hz2⟩ := info_parts L.i5
  by_cases hneg : i < 0
  · obtain ⟨u, rfl⟩ : ∃ u : Nat, i = -(u : Int) := ⟨i.natAbs, by omega⟩
    have hu1 : 1 ≤ u := by omega
    have hu64 : u < 18446744073709551616 := by omega
    have hwr : IntKind.u64.wrap (-IntKind.u64.wrap (-(u : Int))) = (u : Int) := by rw [IntKind.wrap_u64, IntKind.wrap_u64]; omega
    rw [Lib.itoa_neg u hu1]
    go_enter L.f249, Body.n249_ntmps ρ
    go_wp2_with (at_builtin; refine wpl_append_row rfl _ _ (ρ.t 37) rfl (ρ.t 5) i0 L.t37 hi hz0 hz1 hz2 _ _ rfl (hown.alloc _) [45] ⟨w.heap.size, 0, none⟩ 1 1 rfl rfl (by intro j u' hj; match j, hj with | 0, hj => simp [bytesV] at hj; subst hj; simp [Addr.add]) (by simp; omega) ?_)
    intro v1 w1 hown1 hmov1
    have hmov : Mov sv v1 w w1 := Mov.trans (by rw [alloc_eq_grow]; exact Mov.grow hown.lt 0 _) hmov1
    have htab1 := htab v1 w1 hmov
    go_wp2_with (go_at_fn (ρ.f 288); refine (appUint { L with } u hu64 v1 _ w1 hown1 (by simp; omega) htab1).mono ?_; rintro e w2 ⟨v2, rfl, hown2, hmov2⟩)
    go_wp2
    go_ret
    refine ⟨v2, rfl, ?_, hmov.trans hmov2⟩
    rw [List.append_assoc] at hown2
    exact hown2
  · obtain ⟨u, rfl⟩ : ∃ u : Nat, i = u := ⟨i.toNat, by omega⟩
    have hu64 : u < 18446744073709551616 := by omega
    rw [Lib.itoa_nonneg]
    go_enter L.f249, Body.n249_ntmps ρ
    go_wp2_with (go_at_fn (ρ.f 288); refine (appUint { L with } u hu64 sv l w hown (by omega) (htab sv w (Mov.grow hown.lt 0 #[]))).mono ?_; rintro e w2 ⟨v2, rfl, hown2, hmov2⟩)
    go_wp2
    first | go_ret | go_ret2
    exact ⟨v2, rfl, hown2, hmov2⟩

set_option maxRecDepth 100000 in
theorem appInt1 (L : LaysM.n176 P ρ) (i : Int) (h0 : -9223372036854775808 ≤ i) (h1 : i ≤ 9223372036854775807) (sv : Value) (l : List UInt8) (w : World) (hown : OwnB w (ρ.t 5) sv l) (hlim : l.length + 21 ≤ 140737488355328)
    (htab : ∀ v' w', Mov sv v' w w' → Lib.TabIs P w' "internal/strconv.uint64pow10" .u64 Lib.pow10Tab) :
    Calls P (ρ.f 176) #[sv, .int .i64 i, .int .i64 10] w fun e w' => ∃ v', e = .returned v' ∧ OwnB w' (ρ.t 5) v' (l ++ Lib.itoa i) ∧ Mov sv v' w w' := by
  have mixed := L.mixed
  have t5 := L.t5; have a5 := L.a5; have z5 := L.z5; have v5 := L.v5
  have t37 := L.t37; have u37 := run_underlying L.t37; have a37 := L.a37; have z37 := L.z37; have v37 := L.v37
  have t2 := L.t2; have a2 := L.a2; have z2 := L.z2; have v2 := L.v2
  have t3 := L.t3; have a3 := L.a3; have z3 := L.z3; have v3 := L.v3
  have e249 : ∀ args w, (callFunc (ρ.f 249) args).run P w = .ok (.enter (ρ.f 249) args) w := enters_of L.f249 (by kernel_rfl) rfl
  go_enter L.f176, Body.n176_ntmps ρ
  go_wp2_with (go_at_fn (ρ.f 249); refine (appInt0 { L with } i h0 h1 sv l w hown hlim htab).mono ?_; rintro e w2 ⟨v2, rfl, hown2, hmov2⟩)
  go_wp2
  go_ret
  exact ⟨v2, rfl, hown2, hmov2⟩

/-- strconv.AppendInt at base 10: the decimal numeral behind a row of bytes of the call's own. -/
theorem appInt_R (L : LaysM.n176 P ρ) (hB : Bodied P (ρ.f 176)) {g : Nat} (hg : P.globalNamed "internal/strconv.uint64pow10" = some g) (hm : (g, Lib.pow10Tab.map fun z => Value.int .u64 z) ∈ laidG)
    {i : Int} (h0 : -9223372036854775808 ≤ i) (h1 : i ≤ 9223372036854775807) {l : List UInt8} (hlim : l.length + 21 ≤ 140737488355328) {el : Nat} (hel : el = ρ.t 5) :
    FunR P (ρ.f 176) [.als 0 0 l.length, .lit (.int .i64 i), .lit (.int .i64 10)] [(0, ⟨true, el, 1, l.map byteC, true⟩)] 1
      (fun v objs => v = .als 1 0 (l ++ Lib.itoa i).length ∧ objs = [(1, ⟨true, el, 1, (l ++ Lib.itoa i).map byteC, true⟩)]) := by
  subst hel
  refine ⟨hB, fun E X0 xs hE hx => ?_⟩
  have hf0 : find [(0, (⟨true, ρ.t 5, 1, l.map byteC, true⟩ : Obj))] 0 = some ⟨true, ρ.t 5, 1, l.map byteC, true⟩ := by simp [find_cons]
  obtain ⟨_, hZ, hok, hrow⟩ := hE.objs 0 _ hf0
  have hrel := rel0 hE
  simp only [FVs] at hx
  obtain ⟨y, ms, rfl, hy, y2, ms2, rfl, hy2, y3, ms3, rfl, hy3, rfl⟩ := hx
  simp only [FV] at hy hy2 hy3
  subst hy2 hy3
  obtain ⟨hD, A0, n0, c0, A, c, hH, rfl, hnc, hA, _⟩ := hy
  obtain ⟨rfl, rfl⟩ := hA rfl
  have hX := cells_bytes l hrow
  have hn0 : n0 = l.length := by
    have h := hok
    simp only [ObjOK] at h
    rw [hH] at h
    rcases h with ⟨hd, hr, _⟩ | ⟨b, cap, cur, hd, _⟩ | ⟨b, es, clk, hd, _⟩
    · simp only [Value.slice.injEq] at hd
      have : l = [] := by simpa using hr
      rw [this, hd.2.1]; rfl
    · simp only [Value.slice.injEq, List.length_map] at hd
      exact hd.2.1
    · cases hd
  subst hn0
  have hown : OwnB E.w (ρ.t 5) (.slice A l.length c) l := ⟨by rw [← hX, ← hH]; exact hok, _, _, _, rfl⟩
  have htab : ∀ v' w', Mov (.slice A l.length c) v' E.w w' → Lib.TabIs P w' "internal/strconv.uint64pow10" .u64 Lib.pow10Tab := fun v' w' hmv => by
    obtain ⟨hS, ⟨tt, fz, e⟩, _⟩ := hE.glob.1 _ hm
    have hst := hE.stay g hS
    have hne : blockOf (.slice A l.length c) ≠ some g := by rw [← hH]; exact hst.2 0 _ hf0
    have e2 := hmv.block g hst.1 hne
    simp only [Lib.TabIs, World.var?, hg, Option.bind_some, e2, e]
  refine (appInt1 L i h0 h1 _ l E.w hown hlim htab).mono ?_
  rintro e w' ⟨v', rfl, hown', hmv⟩
  obtain ⟨i0, hi, hz0, hz1, hz2⟩ := info_parts L.i5
  obtain ⟨E1, X1, hw1, hr1, hval⟩ := hrel.appended (hr0 := some 0) (e := ρ.t 5) (i := i0) (v := .slice A l.length c) (v' := v') (w' := w') (xs := bytesV l) (news := bytesV (Lib.itoa i)) (o1 := ⟨true, ρ.t 5, 1, l.map byteC, true⟩) (rows2 := (Lib.itoa i).map byteC) (c1 := true) (c2 := true)
    (by rw [hz1, ← hX]; exact hrow) (fun b hb => ⟨0, _, rfl, hf0, by rw [hH]; exact hb⟩) (by rw [hz1]; exact FVr_bytes _ _)
    (by rw [hz1]; have := hown'.1; rw [bytesV_app, List.map_append] at this; exact this)
    hmv.os hmv.tape hmv.output hmv.size hmv.block hmv.lies hown'.2
  simp only [Bool.and_self, hz1, List.length_map, ← List.map_append, ← List.length_append] at hr1 hval
  have hdr : St.drop1 ⟨[(0, .tup [])], [(0, (⟨true, ρ.t 5, 1, l.map byteC, true⟩ : Obj))], 1, 1, 1⟩ (some 0) = [] := by simp [St.drop1, del_cons, del_nil]
  rw [hdr] at hr1
  have hr2 : Rel (ctxOf E [(0, ⟨true, ρ.t 5, 1, l.map byteC, true⟩)] 1) E1 X1 ⟨[(0, .als 1 0 (l ++ Lib.itoa i).length)], [(1, ⟨true, ρ.t 5, 1, (l ++ Lib.itoa i).map byteC, true⟩)], 2, 1, 1⟩ { tmps := #[v'], defers := [] } :=
    { hr1 with
      slots := fun s u hu => by
        rw [find_cons] at hu
        split at hu
        · rename_i e
          subst e
          simp only [Option.some.injEq] at hu
          subst hu
          exact hval
        · simp [find] at hu
      size := rfl
      defers := rfl }
  refine ⟨v', .als 1 0 (l ++ Lib.itoa i).length, _, E1, X1, 2, rfl, hw1, ⟨rfl, rfl⟩, fun r hr => ?_, hr2⟩
  have := hr2.fresh r hr
  simp only at this
  by_cases h : r = 0
  · exact .inl (by omega)
  · exact .inr ⟨⟨true, ρ.t 5, 1, (l ++ Lib.itoa i).map byteC, true⟩, by simp [find_cons, show (1 : Nat) = r by omega]⟩
end
end Go.AM
namespace Go.AM
set_option linter.unusedVariables false
section
variable {P : Program} {s : List (Nat × AV)} {b : List (Nat × Obj)} {n t e : Nat}
/-- The row of a variable that holds it goes on under a new number. -/
theorem Wk.mv {T : Type} {f : T → List AV} {l : List T} {r ty el c m : Nat} (q : Nat) (b' : List (Nat × Obj)) (hq : find b q = some ⟨false, ty, 1, [[.als r 0 m]], false⟩ := by exact rfl) (ho : find b r = some ⟨true, el, c, l.map f, true⟩ := by exact rfl) (hqr : q ≠ r := by decide) (hb' : del (del b r) q = b' := by exact rfl) :
    Wk ⟨s, b, n, t, e⟩ ⟨s, (q, ⟨false, ty, 1, [[.als n 0 m]], false⟩) :: (n, ⟨true, el, c, l.map f, true⟩) :: b', n + 1, t, e⟩ := by
  subst hb'
  intro C E X a hr
  obtain ⟨hD, hZ, hok, hrow⟩ := hr.objs r _ ho
  obtain ⟨hDq, hZq, hokq, hrowq⟩ := hr.objs q _ hq
  have hN : ¬ E.D n := fun h => Nat.lt_irrefl _ (hr.fresh n h)
  have hne : ∀ j, E.D j → j ≠ n := fun j h e' => hN (e' ▸ h)
  let E' : Env := { w := E.w, H := updN E.H n (E.H r), Z := updN E.Z n (E.Z r), D := fun j => E.D j ∨ j = n, S := E.S }
  have hle : E.le E' := ⟨fun k hk => ⟨hk, rfl⟩, fun j hj => ⟨.inl hj, by simp [E', updN, hne j hj], by simp [E', updN, hne j hj]⟩⟩
  have hHn : E'.H n = E.H r := by simp [E', updN]
  have hZn : E'.Z n = E.Z r := by simp [E', updN]
  have hH : ∀ j, j ≠ n → E'.H j = E.H j := fun j h => by simp [E', updN, h]
  have hcase : ∀ j ob, find ((q, (⟨false, ty, 1, [[.als n 0 m]], false⟩ : Obj)) :: (n, (⟨true, el, c, l.map f, true⟩ : Obj)) :: del (del b r) q) j = some ob →
      (j = q ∧ ob = ⟨false, ty, 1, [[.als n 0 m]], false⟩) ∨ (j = n ∧ ob = ⟨true, el, c, l.map f, true⟩) ∨ (find b j = some ob ∧ j ≠ q ∧ j ≠ r ∧ j ≠ n) := by
    intro j ob hf
    rw [find_cons] at hf
    by_cases e1 : q = j
    · simp only [e1, if_true, Option.some.injEq] at hf
      exact .inl ⟨e1.symm, hf.symm⟩
    · simp only [e1, if_false] at hf
      rw [find_cons] at hf
      by_cases e2 : n = j
      · simp only [e2, if_true, Option.some.injEq] at hf
        exact .inr (.inl ⟨e2.symm, hf.symm⟩)
      · simp only [e2, if_false, find_del] at hf
        by_cases e3 : r = j
        · simp [e1, e3] at hf
        · simp only [e1, e3, if_false] at hf
          exact .inr (.inr ⟨hf, fun h => e1 h.symm, fun h => e3 h.symm, fun h => e2 h.symm⟩)
  -- where a root's block was
  have hphi : ∀ j ob, find ((q, (⟨false, ty, 1, [[.als n 0 m]], false⟩ : Obj)) :: (n, (⟨true, el, c, l.map f, true⟩ : Obj)) :: del (del b r) q) j = some ob → ∃ o', find b (if j = n then r else j) = some o' ∧ E'.H j = E.H (if j = n then r else j) ∧ (j = n ∨ j ≠ r) := by
    intro j ob hf
    rcases hcase j ob hf with ⟨rfl, rfl⟩ | ⟨rfl, rfl⟩ | ⟨h1, h2, h3, h4⟩
    · rw [if_neg (hne _ hDq)]
      exact ⟨_, hq, hH _ (hne _ hDq), .inr hqr⟩
    · rw [if_pos rfl]
      exact ⟨_, ho, hHn, .inl rfl⟩
    · rw [if_neg h4]
      exact ⟨_, h1, hH _ h4, .inr h3⟩
  refine ⟨E', updN X n (X r), rfl, ?_⟩
  refine ⟨fun j v hv => FV.le _ hle _ (hr.slots j v hv), hr.size, hr.defers, ?_, ?_, ?_, ?_, hr.kept, ?_, ?_, fun j hj => .inl (hr.envD j hj), hr.base, hr.grow, hr.envk, hr.glob⟩
  · intro j ob hf
    rcases hcase j ob hf with ⟨rfl, rfl⟩ | ⟨rfl, rfl⟩ | ⟨h1, h2, h3, h4⟩
    · have hqn := hne _ hDq
      refine ⟨.inl hDq, by simp only [E', updN, if_neg hqn]; exact hZq, by rw [hH _ hqn]; simp only [updN, if_neg hqn]; exact hokq, ?_⟩
      simp only [updN, if_neg hqn]
      have hrq : FVr E 1 [[.als r 0 m]] (X j) := hrowq
      show FVr E' 1 [[.als n 0 m]] (X j)
      simp only [FVr, FVc, FV] at hrq ⊢
      rw [hHn, hZn]
      obtain ⟨ys, zs, hX, hys, ⟨y, ys', hyy, hone, ⟨_, hrest⟩, hnil⟩, hzs⟩ := hrq
      exact ⟨ys, zs, hX, hys, ⟨y, ys', hyy, hone, ⟨.inr rfl, hrest⟩, hnil⟩, hzs⟩
    · refine ⟨.inr rfl, by rw [hZn]; exact hZ, by rw [hHn]; simp only [updN, if_true]; exact hok, ?_⟩
      simp only [updN, if_true]
      exact FVr.le _ _ (hle.by _) _ hrow
    · obtain ⟨g1, g2, g3, g4⟩ := hr.objs j ob h1
      refine ⟨.inl g1, by simp only [E', updN, if_neg h4]; exact g2, by rw [hH _ h4]; simp only [updN, if_neg h4]; exact g3, ?_⟩
      simp only [updN, if_neg h4]
      exact FVr.le _ _ (hle.by _) _ g4
  · intro r1 r2 o1 o2 bk hf1 hf2 hb1 hb2
    obtain ⟨p1, k1, k2, k3⟩ := hphi r1 o1 hf1
    obtain ⟨p2, j1, j2, j3⟩ := hphi r2 o2 hf2
    rw [k2] at hb1
    rw [j2] at hb2
    have := hr.apart _ _ _ _ bk k1 j1 hb1 hb2
    by_cases e1 : r1 = n <;> by_cases e2 : r2 = n
    · rw [e1, e2]
    · rw [if_pos e1, if_neg e2] at this
      rcases j3 with h | h
      · exact absurd h e2
      · exact absurd this.symm h
    · rw [if_neg e1, if_pos e2] at this
      rcases k3 with h | h
      · exact absurd h e1
      · exact absurd this h
    · rw [if_neg e1, if_neg e2] at this
      exact this
  · intro bk hbk
    refine ⟨(hr.stay bk hbk).1, fun j ob hf => ?_⟩
    obtain ⟨p1, k1, k2, _⟩ := hphi j ob hf
    rw [k2]
    exact (hr.stay bk hbk).2 _ _ k1
  · rintro j (hj | rfl)
    · exact Nat.lt_succ_of_lt (hr.fresh j hj)
    · exact Nat.lt_succ_self _
  · intro j ob bk hf hbk
    obtain ⟨p1, k1, k2, _⟩ := hphi j ob hf
    rw [k2] at hbk
    exact hr.mine _ _ bk k1 hbk
  · intro j hj
    have hjn := hne j (hr.envD j hj)
    have := hr.env j hj
    simpa [E', updN, hjn] using this
end
end Go.AM
