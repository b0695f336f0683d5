/-
  The abstract machine: (*strings.Builder).grow at a builder without a buffer, walked with the kit's tactics, as a contract on roots.
  Conditions: none; generic over the program.
-/
import Derived.Test.YtnbjmckhongidaaGreatDoorAmLib
import Derived.Test.YtnbjmckhongidaaGreatDoorAmBld
import Derived.Shelf.Strings.Builder2Cap
namespace Go.AM
open Go.Proofs Go.Lib Go.Sort Go.Shelf Go.RowKit
set_option linter.unusedVariables false
set_option linter.unusedSimpArgs false
set_option linter.unusedSectionVars false
variable {P : Program} {ρ : Ren}
theorem set_alloc (w : World) (b : Nat) (v : Value) (o : Go.Obj) (h : b < w.heap.size) : ((w.setCell ⟨b, 1, none⟩ v).alloc o).heap = ((w.alloc o).setCell ⟨b, 1, none⟩ v).heap := by
  apply Array.ext_getElem?
  intro k
  simp only [World.setCell, World.alloc, Array.getElem?_modify, Array.getElem?_push, Array.size_modify]
  by_cases hk : b = k
  · subst hk
    rw [if_neg (by omega), if_pos rfl, if_pos rfl, if_neg (by omega)]
  · rw [if_neg hk, if_neg hk]
set_option maxHeartbeats 2000000 in
set_option maxRecDepth 1000000 in
/-- What grow leaves in memory, to the cell. -/
theorem grow_exact (L : Lays.n241 P ρ) (X : Builder.Extra P ρ) (b n : Nat) (w : World) (hbk : w.heap[b]? = some (.cells #[.pointer (some ⟨b, 0, none⟩), .slice none 0 0] (ρ.t 72) (0, 0))) (hn : n ≤ 281474976710656) :
    Calls P (ρ.f 241) #[.pointer (some ⟨b, 0, none⟩), .int .i64 n] w fun e w' => e = .returned (.tuple #[]) ∧ ∃ cs : Array Value, n ≤ cs.size ∧ cs.size ≤ maxLen ∧
      w'.heap = ((w.alloc (.cells cs (ρ.t 5))).setCell ⟨b, 1, none⟩ (.slice (some ⟨w.heap.size, 0, none⟩) 0 cs.size)).heap ∧ w'.os = w.os ∧ w'.tape = w.tape ∧ w'.output = w.output ∧ w.drawn ≤ w'.drawn := by
  obtain ⟨cs, hrun, hle, hmax⟩ := Lib.run_makeNoZero (P := P) w.drew #[(ρ.t 3)] (ρ.t 37) (ρ.t 5) L.t37 n hn
  have hmx := hmax (by unfold maxLen; omega)
  have hw : IntKind.i64.wrap (IntKind.i64.wrap 0 + (n : Int)) = n := by
    rw [IntKind.wrap_i64, IntKind.wrap_i64]
    omega
  have hcall : (callFunc (ρ.f 277) #[.int .i64 (IntKind.i64.wrap (IntKind.i64.wrap 0 + (n : Int)))]).run P w.drew = .ok (.value (.slice (some ⟨w.drew.heap.size, 0, none⟩) n cs.size)) (w.drew.drew.drew.alloc (.cells cs (ρ.t 5))) := by
    rw [hw, run_callFunc_extern L.f277 (by kernel_rfl) (by kernel_rfl) (by kernel_rfl) (e := Extern.BytealgMakeNoZero.makeNoZero #[(ρ.t 3)] #[(ρ.t 37)]) (by kernel_rfl), hrun]
    rfl
  have c1 : w.drew.cell? ⟨b, 1, none⟩ = some (.slice none 0 0) := by
    have : w.drew.heap[b]? = _ := hbk
    rw [Lib.cell_of_heap this]; rfl
  have hlt : b < w.heap.size := by
    rcases Nat.lt_or_ge b w.heap.size with h' | h'
    · exact h'
    · simp [Array.getElem?_eq_none h'] at hbk
  have c2 : (w.alloc (.cells cs (ρ.t 5))).cell? ⟨b, 1, none⟩ = some (.slice none 0 0) := by
    have : (w.alloc (.cells cs (ρ.t 5))).heap[b]? = _ := (Lib.alloc_old w _ b hlt).trans hbk
    rw [Lib.cell_of_heap this]; rfl
  have f2 : (w.alloc (.cells cs (ρ.t 5))).frozen? ⟨b, 1, none⟩ = false := Lib.frozen_of_heap ((Lib.alloc_old w _ b hlt).trans hbk) 1
  have hcopy : ∀ W : World, (Builtin.copy_ #[(ρ.t 37), (ρ.t 37)] (ρ.t 3) #[.slice (some ⟨w.heap.size, 0, none⟩) 0 cs.size, .slice none 0 0]).run P W = .ok (goInt 0) W :=
    fun W => run_copy_none W (ρ.t 37) (ρ.t 37) (ρ.t 3) (ρ.t 5) _ _ 0 cs.size 0 0 L.t37 X.sizeByte rfl
  clear hw
  have mixed := L.mixed
  have t72 := L.t72; have a72 := L.a72; have z72 := L.z72; have v72 := L.v72; have u72 := run_underlying L.t72
  have t70 := L.t70; have a70 := L.a70; have z70 := L.z70; have v70 := L.v70; have u70 := run_underlying L.t70
  have t37 := L.t37; have a37 := L.a37; have z37 := L.z37; have v37 := L.v37; have u37 := run_underlying L.t37
  have t3 := L.t3; have a3 := L.a3; have z3 := L.z3; have v3 := L.v3; have u3 := run_underlying L.t3
  have t5 := X.t5; have a5 := X.a5; have z5 := X.z5; have v5 := X.v5; have u5 := run_underlying X.t5
  go_enter L.f241, Body.n241_ntmps ρ
  go_wp2
  go_region_o
  all_goals (go_wp2; go_end0; exact ⟨rfl, cs, hle, hmx, by first | rfl | exact set_alloc w b _ _ hlt, rfl, rfl, rfl, by simp [World.drew, World.alloc, World.setCell]; try omega⟩)

end Go.AM
namespace Go.AM
open Go.Proofs Go.Lib Go.Sort Go.Shelf Go.RowKit
set_option linter.unusedVariables false
set_option linter.unusedSimpArgs false
set_option linter.unusedSectionVars false
variable {P : Program} {ρ : Ren}
/-- The same as a contract on roots. -/
theorem grow_R (L : Lays.n241 P ρ) (X : Builder.Extra P ρ) (hB : Bodied P (ρ.f 241)) {n : Int} (h0 : 0 ≤ n) (hn : n ≤ 281474976710656) :
    FunR P (ρ.f 241) [.adr 0 0 0, .lit (.int .i64 n)] [(0, ⟨false, ρ.t 72, 2, [[.adr 0 0 0, .lit (.slice none 0 0)]], false⟩)] 1 (Ret (.tup []) [(0, ⟨false, ρ.t 72, 2, [[.adr 0 0 0, .als 1 0 0]], false⟩), (1, ⟨true, ρ.t 5, 1, [], true⟩)]) := by
  obtain ⟨n, rfl⟩ := Int.eq_ofNat_of_zero_le h0
  refine ⟨hB, fun E X0 xs hE hx => ?_⟩
  have hf0 : find [(0, (⟨false, ρ.t 72, 2, [[.adr 0 0 0, .lit (.slice none 0 0)]], false⟩ : Obj))] 0 = some ⟨false, ρ.t 72, 2, [[.adr 0 0 0, .lit (.slice none 0 0)]], false⟩ := by simp [find_cons]
  obtain ⟨_, hZ, hok, hrow⟩ := hE.objs 0 _ hf0
  have hrel := rel0 hE
  simp only [FVs, FV] at hx
  obtain ⟨y0, ys, rfl, ⟨hD, a0, hb0, hs0, rfl⟩, y1, ys', rfl, rfl, rfl⟩ := hx
  simp only [ObjOK] at hok
  rcases hok with ⟨b, hd, _, hheap⟩ | ⟨b, m, clk, seen, hd, _⟩
  rotate_left
  · rw [hd] at hb0; cases hb0
  rw [hd] at hb0
  simp only [baseOf, Option.some.injEq] at hb0
  subst hb0
  have hrow' : FVr E 2 [[.adr 0 0 0, .lit (.slice none 0 0)]] (X0 0) := hrow
  simp only [FVr, FVc, FV] at hrow'
  obtain ⟨z, z', hz, _, ⟨u, us, rfl, _, ⟨_, a1, hb1, _, rfl⟩, u', us', rfl, _, rfl, rfl⟩, rfl⟩ := hrow'
  rw [hd] at hb1
  simp only [baseOf, Option.some.injEq] at hb1
  subst hb1
  have hadd : (⟨b, 0, none⟩ : Addr).add (0 * E.Z 0 + 0) = ⟨b, 0, none⟩ := by rw [Nat.zero_mul]; exact Addr.add_zero' _
  rw [hadd] at hz ⊢
  rw [hz] at hheap
  have hbk : E.w.heap[b]? = some (.cells #[.pointer (some ⟨b, 0, none⟩), .slice none 0 0] (ρ.t 72) (0, 0)) := by simpa using hheap
  have hblt : b < E.w.heap.size := (Array.getElem?_eq_some_iff.1 hbk).1
  refine (grow_exact L X b n E.w hbk (by omega)).mono ?_
  rintro e w' ⟨rfl, cs, h1, h2, h3, h4, h5, h6, h7⟩
  obtain ⟨i, hi, hi1⟩ : ∃ i : TypeInfo, P.info? (ρ.t 5) = some i ∧ i.size = 1 := by
    have := X.sizeByte
    cases hq : P.info? (ρ.t 5) with
    | none => rw [hq] at this; cases this
    | some i => rw [hq] at this; exact ⟨i, rfl, by simpa using this⟩
  -- the new row
  obtain ⟨E1, X1, hw1, hr1, hval⟩ := hrel.appended (hr0 := none) (e := ρ.t 5) (i := i) (v := .slice none 0 0) (v' := .slice (some ⟨E.w.heap.size, 0, none⟩) 0 cs.size) (w' := E.w.alloc (.cells cs (ρ.t 5))) (xs := []) (news := []) (o1 := ⟨true, ρ.t 5, i.size, [], true⟩) (rows2 := []) (c1 := true) (c2 := true)
    (by simp [FVr]) (fun b hb => by simp [blockOf, baseOf] at hb) (by simp [FVr])
    (by
      simp only [ObjOK]
      exact .inr (.inl ⟨E.w.heap.size, cs.size, cs, rfl, heap_alloc_new E.w _, Nat.zero_le _, h2, by rw [hi1, Nat.mul_one], by simp⟩))
    rfl (Tp.refl _) rfl (by simp) (fun k hk _ => Go.heap_alloc_old E.w _ hk) (fun k hk => by
      simp [blockOf, baseOf] at hk
      subst hk
      exact ⟨.inr (Nat.le_refl _), by simp⟩) ⟨_, _, _, rfl⟩
  simp only [List.append_nil, Bool.and_self, hi1, List.length_nil, Nat.add_zero] at hr1 hval
  obtain ⟨hH1, hZ1⟩ := hr1.env 0 (show 0 < 1 from Nat.one_pos)
  have hH1' : E1.H 0 = .pointer (some ⟨b, 0, none⟩) := by rw [hH1]; exact hd
  have hw1b : E1.w.heap[b]? = some (.cells #[.pointer (some ⟨b, 0, none⟩), .slice none 0 0] (ρ.t 72) (0, 0)) := by rw [hw1]; exact (Go.heap_alloc_old E.w _ hblt).trans hbk
  have hset : ∀ k, w'.heap[k]? = if b = k then some (.cells #[.pointer (some ⟨b, 0, none⟩), .slice (some ⟨E.w.heap.size, 0, none⟩) 0 cs.size] (ρ.t 72) (0, 0)) else E1.w.heap[k]? := fun k => by
    rw [h3, ← hw1]
    simp only [World.setCell, Array.getElem?_modify]
    by_cases hk : b = k
    · subst hk
      rw [if_pos rfl, if_pos rfl, hw1b]
      rfl
    · rw [if_neg hk, if_neg hk]
  obtain ⟨g1, _⟩ := hr1.update (r := 0) (o := ⟨false, ρ.t 72, 2, [[.adr 0 0 0, .lit (.slice none 0 0)]], false⟩) (o' := ⟨false, ρ.t 72, 2, [[.adr 0 0 0, .als 1 0 0]], false⟩) (b := b) (w' := w') (xs' := [.pointer (some ⟨b, 0, none⟩), .slice (some ⟨E.w.heap.size, 0, none⟩) 0 cs.size])
    (by simp [find_cons, St.drop1]) (by rw [hH1']; rfl) (by rw [hw1]; exact h4) (by rw [hw1]; exact ⟨h5, h7⟩) (by rw [hw1]; exact h6) (by rw [h3, hw1]; simp [World.setCell]) (fun k hk => by rw [hset, if_neg (fun e => hk e.symm)]) rfl
    (by
      simp only [ObjOK]
      exact .inl ⟨b, hH1', rfl, by rw [hset, if_pos rfl]⟩)
    (by
      show FVr { E1 with w := w' } 2 [[.adr 0 0 0, .als 1 0 0]] _
      simp only [FVr, FVc]
      refine ⟨_, [], (List.append_nil _).symm, rfl, ⟨_, _, rfl, rfl, ?_, _, _, rfl, rfl, ?_, rfl⟩, rfl⟩
      · simp only [FV]
        exact ⟨hr1.envD 0 (show 0 < 1 from Nat.one_pos), ⟨b, 0, none⟩, by show baseOf (E1.H 0) = _; rw [hH1']; rfl, rfl, by rw [Nat.zero_mul]; exact congrArg (fun a => Value.pointer (some a)) (Addr.add_zero' _).symm⟩
      · simpa only [FV] using hval)
  have e1 : ((0, (⟨false, ρ.t 72, 2, [[.adr 0 0 0, .als 1 0 0]], false⟩ : Obj)) :: del [(1, (⟨true, ρ.t 5, 1, [], true⟩ : Obj)), (0, ⟨false, ρ.t 72, 2, [[.adr 0 0 0, .lit (.slice none 0 0)]], false⟩)] 0) = [(0, ⟨false, ρ.t 72, 2, [[.adr 0 0 0, .als 1 0 0]], false⟩), (1, ⟨true, ρ.t 5, 1, [], true⟩)] := by
    simp [del_cons, del_nil]
  have g2 : Rel (ctxOf E [(0, ⟨false, ρ.t 72, 2, [[.adr 0 0 0, .lit (.slice none 0 0)]], false⟩)] 1) { E1 with w := w' } (updN X1 0 [.pointer (some ⟨b, 0, none⟩), .slice (some ⟨E.w.heap.size, 0, none⟩) 0 cs.size]) ⟨[(0, .tup [])], [(0, ⟨false, ρ.t 72, 2, [[.adr 0 0 0, .als 1 0 0]], false⟩), (1, ⟨true, ρ.t 5, 1, [], true⟩)], 2, 1, 1⟩ { tmps := #[.tuple #[]], defers := [] } := by
    rw [← e1]; exact g1
  refine ⟨_, .tup [], _, { E1 with w := w' }, (updN X1 0 [.pointer (some ⟨b, 0, none⟩), .slice (some ⟨E.w.heap.size, 0, none⟩) 0 cs.size]), 2, rfl, rfl, ⟨rfl, rfl⟩, fun r hr => ?_, g2⟩
  have := g2.fresh r hr
  simp only at this
  by_cases h : r = 0
  · exact .inl (by omega)
  · exact .inr ⟨⟨true, ρ.t 5, 1, [], true⟩, by simp [find_cons, show (0 : Nat) ≠ r by omega, show (1 : Nat) = r by omega]⟩
end Go.AM
