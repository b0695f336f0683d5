/-
  The abstract machine, continued: copy, at elements of one cell: from shared rows, or from a row's own part, into a part of a row of one's own.
  Conditions: none; generic over the program.
-/
import Derived.Test.YtaggnajjmopobaaAmDel
import Derived.Test.YtaggnajjmopobaaAmLate2
import Derived.Laws.CopyRow
namespace Go.AM
open Go.Proofs
set_option linter.unusedVariables false
set_option linter.unusedSimpArgs false
set_option linter.unusedSectionVars false
section
variable {P : Program} {s : List (Nat × AV)} {b : List (Nat × Obj)} {n t e r : Nat} {ops : Array Oper} {rest : List Oper} {Q : St → Prop} {d ty : Nat} {pos : String} {aft : Array Edge} {g : Option (Nat × Bool)} {x y : Operand}
theorem add_off (gb i : Nat) : (⟨gb, 0, none⟩ : Addr).add i = ⟨gb, i, none⟩ := by unfold Addr.add; split <;> simp_all
/-- From a row's own part. -/
theorem S.cpd {T : Type} {f : T → List AV} {l : List T} {st el i j m1 m2 : Nat} {zs : List AV} (b' : List (Nat × Obj)) (hel : elemOfSlice P st = some el) (hze : zeroCellsAV P el = some zs) (hcl : P.cellsOf el = 1)
    (hx : opv s x = some (.als r i m1) := by exact rfl) (hy : opv s y = some (.als r j m2) := by exact rfl) (ho : find b r = some ⟨true, el, 1, l.map f, true⟩ := by exact rfl) (him : i + m1 ≤ l.length := by omega) (hjm : j + m2 ≤ l.length := by omega) (h1 : 0 < m1 := by omega) (h2 : 0 < m2 := by omega)
    (hb' : del b r = b' := by exact rfl) (hg : guardGo (dstsOf ops) ⟨s, b, n, t, e⟩ g = some true := by exact rfl) (hd : Nat.blt d t = true := by exact rfl)
    (h : SeqL P ops rest ⟨(d, .lit (.int .i64 ((min m2 m1 : Nat) : Int))) :: s, (r, ⟨true, el, 1, (l.take i ++ (l.drop j).take (min m2 m1) ++ l.drop (i + min m2 m1)).map f, true⟩) :: b', n, t, e⟩ Q) :
    SeqL P ops (⟨some d, .call { callee := .builtin .copy, args := #[x, y], argTypes := #[st, st] }, ty, pos, aft, g⟩ :: rest) ⟨s, b, n, t, e⟩ Q := by
  subst hb'
  refine SeqL.of_run hg fun C E X a hr => ?_
  obtain ⟨i0, z, hi, hzz, rfl, _, _⟩ := zeroCellsAV_spec hze
  have hsz := cellsOf_info hi
  rw [hcl] at hsz
  have hund := elemOfSlice_eq hel
  have hxv := hr.ev x
  rw [opv_ev hx] at hxv
  have hyv := hr.ev y
  rw [opv_ev hy] at hyv
  simp only [FV] at hxv hyv
  obtain ⟨hD, A0, n0, c0, A, cc, hH, hxe, hnc, _, hA⟩ := hxv
  obtain ⟨_, B0, k0, d0, B, cc', hH', hye, hnc', _, hB⟩ := hyv
  rw [hH] at hH'
  simp only [Value.slice.injEq] at hH'
  obtain ⟨rfl, rfl, rfl⟩ := hH'
  obtain ⟨gb, cap, cur, hd1, hZ, hgb, hcap, hmax, hcs, htk, hrow, hwr⟩ := hr.rowAt ho (by simp; omega) hH
  rw [hH] at hd1
  simp only [Value.slice.injEq, List.length_map] at hd1
  obtain ⟨rfl, rfl, rfl⟩ := hd1
  simp only [List.length_map] at hcap htk
  obtain ⟨a1, ea, hsp1, rfl⟩ := hA h1
  obtain ⟨a2, eb, hsp2, rfl⟩ := hB h2
  simp only [Option.some.injEq] at ea eb
  subst ea
  have eb' := eb.symm
  subst eb'
  have hmm : min m2 m1 ≤ m2 := Nat.min_le_left _ _
  have hmm1 : min m2 m1 ≤ m1 := Nat.min_le_right _ _
  have hrows2 : FVr E.clear 1 (((l.map f).drop j).take (min m2 m1)) (((X r).drop (j * 1)).take (min m2 m1 * 1)) := (hrow.drop j).take _
  have hl2 : (((l.map f).drop j).take (min m2 m1)).length = min m2 m1 := by simp only [List.length_take, List.length_drop, List.length_map]; omega
  obtain ⟨X', hrel⟩ := hwr i _ _ (by rw [hl2, List.length_map]; omega) hrows2
  have hnl := hrows2.length
  rw [hl2, Nat.mul_one] at hnl
  try simp only [Nat.mul_one] at hnl
  have hh : holds E.w ⟨gb, 0, none⟩ (X r) := ((hr.objs r _ ho).2.2.1.holds (a0 := ⟨gb, 0, none⟩) (by rw [hH]; rfl)).2
  have hrun : (Builtin.copy_ #[st, st] ty #[.slice (some ((⟨gb, 0, none⟩ : Addr).add (i * E.Z r))) m1 cc, .slice (some ((⟨gb, 0, none⟩ : Addr).add (j * E.Z r))) m2 cc']).run P E.w = .ok (goInt ((min m2 m1 : Nat) : Int)) (E.w.setRow gb (cur.toList.take (i * 1) ++ ((X r).drop (j * 1)).take (min m2 m1 * 1) ++ cur.toList.drop (i * 1 + (((X r).drop (j * 1)).take (min m2 m1 * 1)).length)).toArray) := by
    rw [hZ]
    simp only [Nat.mul_one]
    have h3 := run_copy_row (P := P) E.w st st ty el gb i m1 cc ((⟨gb, 0, none⟩ : Addr).add j) m2 cc' cur el (((X r).drop j).take (min m2 m1)) hund (by rw [hi, Option.map_some, hsz]) hgb hnl (by
      have := (hh.drop hsp2 j).take (min m2 m1)
      exact this) (by rw [hnl, hcs, Nat.mul_one]; omega) (by simpa using hrows2.one)
    rw [add_off, add_off] at *
    rw [h3, hnl]
  have hput := hrel.put (some d) (v := .lit (.int .i64 ((min m2 m1 : Nat) : Int))) (y := goInt ((min m2 m1 : Nat) : Int)) (fun d' e' => by cases e'; exact Nat.le_of_ble_eq_true hd) (by simp only [FV]; rfl)
  refine ⟨_, _, X', _, ?_, hput, ?_⟩
  · unfold execOp
    simp only [resolve, invoke, builtin, Sem.run_bind, Sem.run_pure, Result.andThen_ok, List.map_toArray, List.map_cons, List.map_nil, hxe, hye, hrun]
  · rw [hl2]
    simp only [St.put]
    rw [← List.map_drop, ← List.map_take, ← List.map_take, ← List.map_drop, ← List.map_append, ← List.map_append]
    exact h
/-- The same, as a writer. -/
theorem W.cpd {T : Type} {f : T → List AV} {l : List T} {st el i j m1 m2 : Nat} {zs : List AV} {σ : St} (hel : elemOfSlice P st = some el) (hze : zeroCellsAV P el = some zs) (hcl : P.cellsOf el = 1)
    (hx : σ.ev x = .als r i m1) (hy : σ.ev y = .als r j m2) (ho : find σ.objs r = some ⟨true, el, 1, l.map f, true⟩) (him : i + m1 ≤ l.length) (hjm : j + m2 ≤ l.length) (h1 : 0 < m1) (h2 : 0 < m2) (hd : d < σ.nt) :
    Writer P σ ⟨some d, .call { callee := .builtin .copy, args := #[x, y], argTypes := #[st, st] }, ty, pos, aft, none⟩ (σ.wr [(d, .lit (.int .i64 ((min m2 m1 : Nat) : Int)))] r ⟨true, el, 1, (l.take i ++ (l.drop j).take (min m2 m1) ++ l.drop (i + min m2 m1)).map f, true⟩) := by
  intro C E X a hr K' Q' hk
  obtain ⟨i0, z, hi, hzz, rfl, _, _⟩ := zeroCellsAV_spec hze
  have hsz := cellsOf_info hi
  rw [hcl] at hsz
  have hund := elemOfSlice_eq hel
  have hxv := hr.ev x
  rw [hx] at hxv
  have hyv := hr.ev y
  rw [hy] at hyv
  simp only [FV] at hxv hyv
  obtain ⟨hD, A0, n0, c0, A, cc, hH, hxe, hnc, _, hA⟩ := hxv
  obtain ⟨_, B0, k0, d0, B, cc', hH', hye, hnc', _, hB⟩ := hyv
  rw [hH] at hH'
  simp only [Value.slice.injEq] at hH'
  obtain ⟨rfl, rfl, rfl⟩ := hH'
  obtain ⟨gb, cap, cur, hd1, hZ, hgb, hcap, hmax, hcs, htk, hrow, hwr⟩ := hr.rowAt ho (by simp; omega) hH
  rw [hH] at hd1
  simp only [Value.slice.injEq, List.length_map] at hd1
  obtain ⟨rfl, rfl, rfl⟩ := hd1
  simp only [List.length_map] at hcap htk
  obtain ⟨a1, ea, hsp1, rfl⟩ := hA h1
  obtain ⟨a2, eb, hsp2, rfl⟩ := hB h2
  simp only [Option.some.injEq] at ea eb
  subst ea
  have eb' := eb.symm
  subst eb'
  have hmm : min m2 m1 ≤ m2 := Nat.min_le_left _ _
  have hmm1 : min m2 m1 ≤ m1 := Nat.min_le_right _ _
  have hrows2 : FVr E.clear 1 (((l.map f).drop j).take (min m2 m1)) (((X r).drop (j * 1)).take (min m2 m1 * 1)) := (hrow.drop j).take _
  have hl2 : (((l.map f).drop j).take (min m2 m1)).length = min m2 m1 := by simp only [List.length_take, List.length_drop, List.length_map]; omega
  obtain ⟨X', hrel⟩ := hwr i _ _ (by rw [hl2, List.length_map]; omega) hrows2
  have hnl := hrows2.length
  rw [hl2, Nat.mul_one] at hnl
  try simp only [Nat.mul_one] at hnl
  have hh : holds E.w ⟨gb, 0, none⟩ (X r) := ((hr.objs r _ ho).2.2.1.holds (a0 := ⟨gb, 0, none⟩) (by rw [hH]; rfl)).2
  have hrun : (Builtin.copy_ #[st, st] ty #[.slice (some ((⟨gb, 0, none⟩ : Addr).add (i * E.Z r))) m1 cc, .slice (some ((⟨gb, 0, none⟩ : Addr).add (j * E.Z r))) m2 cc']).run P E.w = .ok (goInt ((min m2 m1 : Nat) : Int)) (E.w.setRow gb (cur.toList.take (i * 1) ++ ((X r).drop (j * 1)).take (min m2 m1 * 1) ++ cur.toList.drop (i * 1 + (((X r).drop (j * 1)).take (min m2 m1 * 1)).length)).toArray) := by
    rw [hZ]
    simp only [Nat.mul_one]
    have h3 := run_copy_row (P := P) E.w st st ty el gb i m1 cc ((⟨gb, 0, none⟩ : Addr).add j) m2 cc' cur el (((X r).drop j).take (min m2 m1)) hund (by rw [hi, Option.map_some, hsz]) hgb hnl (by
      have := (hh.drop hsp2 j).take (min m2 m1)
      exact this) (by rw [hnl, hcs, Nat.mul_one]; omega) (by simpa using hrows2.one)
    rw [add_off, add_off] at *
    rw [h3, hnl]
  have hput := hrel.put (some d) (v := .lit (.int .i64 ((min m2 m1 : Nat) : Int))) (y := goInt ((min m2 m1 : Nat) : Int)) (fun d' e' => by cases e'; exact hd) (by simp only [FV]; rfl)
  have hex : (execOp a.eval ⟨some d, .call { callee := .builtin .copy, args := #[x, y], argTypes := #[st, st] }, ty, pos, aft, none⟩).run P E.w = .ok (.value (goInt ((min m2 m1 : Nat) : Int))) (E.w.setRow gb (cur.toList.take (i * 1) ++ ((X r).drop (j * 1)).take (min m2 m1 * 1) ++ cur.toList.drop (i * 1 + (((X r).drop (j * 1)).take (min m2 m1 * 1)).length)).toArray) := by
    unfold execOp
    simp only [resolve, invoke, builtin, Sem.run_bind, Sem.run_pure, Result.andThen_ok, List.map_toArray, List.map_cons, List.map_nil, hxe, hye, hrun]
  refine wp_value hex (hk { E with w := E.w.setRow gb (cur.toList.take (i * 1) ++ ((X r).drop (j * 1)).take (min m2 m1 * 1) ++ cur.toList.drop (i * 1 + (((X r).drop (j * 1)).take (min m2 m1 * 1)).length)).toArray } X' _ ?_)
  refine hput.sub (fun s v hv => ?_) (fun q ob hq => ?_) (Nat.le_refl _) rfl rfl
  · exact hv
  · rw [hl2]
    rw [← List.map_drop, ← List.map_take, ← List.map_take, ← List.map_drop, ← List.map_append, ← List.map_append]
    simp only [St.wr, St.put, find_cons] at hq ⊢
    split at hq
    · rename_i e; rw [if_pos e]; exact hq
    · rename_i e; rw [if_neg e, find_del, if_neg e]; exact hq
/-- From shared rows. -/
theorem S.cps {T : Type} {f : T → List AV} {l l2 : List T} {st el i m1 : Nat} {zs : List AV} (b' : List (Nat × Obj)) (hel : elemOfSlice P st = some el) (hze : zeroCellsAV P el = some zs) (hcl : P.cellsOf el = 1)
    (hx : opv s x = some (.als r i m1) := by exact rfl) (hy : opv s y = some (.sh 1 (l2.map f)) := by exact rfl) (ho : find b r = some ⟨true, el, 1, l.map f, true⟩ := by exact rfl) (him : i + m1 ≤ l.length := by first | omega | (simp only [List.length_replicate]; omega)) (h1 : 0 < m1 := by first | omega | (simp only [List.length_replicate]; omega)) (h2 : 0 < l2.length := by first | omega | (simp only [List.length_replicate]; omega))
    (hb' : del b r = b' := by exact rfl) (hg : guardGo (dstsOf ops) ⟨s, b, n, t, e⟩ g = some true := by exact rfl) (hd : Nat.blt d t = true := by exact rfl)
    (h : SeqL P ops rest ⟨(d, .lit (.int .i64 ((min l2.length m1 : Nat) : Int))) :: s, (r, ⟨true, el, 1, (l.take i ++ l2.take (min l2.length m1) ++ l.drop (i + min l2.length m1)).map f, true⟩) :: b', n, t, e⟩ Q) :
    SeqL P ops (⟨some d, .call { callee := .builtin .copy, args := #[x, y], argTypes := #[st, st] }, ty, pos, aft, g⟩ :: rest) ⟨s, b, n, t, e⟩ Q := by
  subst hb'
  refine SeqL.of_run hg fun C E X a hr => ?_
  obtain ⟨i0, z, hi, hzz, rfl, _, _⟩ := zeroCellsAV_spec hze
  have hsz := cellsOf_info hi
  rw [hcl] at hsz
  have hund := elemOfSlice_eq hel
  have hxv := hr.ev x
  rw [opv_ev hx] at hxv
  have hyv := hr.ev y
  rw [opv_ev hy] at hyv
  simp only [FV] at hxv hyv
  obtain ⟨hD, A0, n0, c0, A, cc, hH, hxe, hnc, _, hA⟩ := hxv
  obtain ⟨B, cc', ys, hye, hnc', hfr, hB⟩ := hyv
  obtain ⟨gb, cap, cur, hd1, hZ, hgb, hcap, hmax, hcs, htk, hrow, hwr⟩ := hr.rowAt ho (by simp; omega) hH
  rw [hH] at hd1
  simp only [Value.slice.injEq, List.length_map] at hd1
  obtain ⟨rfl, rfl, rfl⟩ := hd1
  simp only [List.length_map] at hcap htk
  try simp only [List.length_map] at hye
  try simp only [List.length_map] at hnc'
  obtain ⟨a1, ea, hsp1, rfl⟩ := hA h1
  obtain ⟨a2, rfl, hsp2, hS2, hh⟩ := hB (by intro h0; simp at h0; subst h0; simp at h2)
  simp only [Option.some.injEq] at ea
  subst ea
  have hmm : min l2.length m1 ≤ l2.length := Nat.min_le_left _ _
  have hmm1 : min l2.length m1 ≤ m1 := Nat.min_le_right _ _
  have hrows2 : FVr E.clear 1 ((l2.map f).take (min l2.length m1)) (ys.take (min l2.length m1 * 1)) := hfr.take _
  have hl2 : ((l2.map f).take (min l2.length m1)).length = min l2.length m1 := by simp only [List.length_take, List.length_map]; omega
  obtain ⟨X', hrel⟩ := hwr i _ _ (by rw [hl2, List.length_map]; omega) hrows2
  have hnl := hrows2.length
  rw [hl2, Nat.mul_one] at hnl
  try simp only [Nat.mul_one] at hnl
  have hrun : (Builtin.copy_ #[st, st] ty #[.slice (some ((⟨gb, 0, none⟩ : Addr).add (i * E.Z r))) m1 cc, .slice (some a2) l2.length cc']).run P E.w = .ok (goInt ((min l2.length m1 : Nat) : Int)) (E.w.setRow gb (cur.toList.take (i * 1) ++ ys.take (min l2.length m1 * 1) ++ cur.toList.drop (i * 1 + (ys.take (min l2.length m1 * 1)).length)).toArray) := by
    rw [hZ]
    simp only [Nat.mul_one]
    have h3 := run_copy_row (P := P) E.w st st ty el gb i m1 cc a2 l2.length cc' cur el (ys.take (min l2.length m1)) hund (by rw [hi, Option.map_some, hsz]) hgb hnl (fun j v hv => (hh.take _) j v hv) (by rw [hnl, hcs, Nat.mul_one]; omega) (by simpa using hrows2.one)
    rw [add_off]
    rw [h3, hnl]
  have hput := hrel.put (some d) (v := .lit (.int .i64 ((min l2.length m1 : Nat) : Int))) (y := goInt ((min l2.length m1 : Nat) : Int)) (fun d' e' => by cases e'; exact Nat.le_of_ble_eq_true hd) (by simp only [FV]; rfl)
  refine ⟨_, _, X', _, ?_, hput, ?_⟩
  · unfold execOp
    simp only [resolve, invoke, builtin, Sem.run_bind, Sem.run_pure, Result.andThen_ok, List.map_toArray, List.map_cons, List.map_nil, hxe, hye, hrun]
  · rw [hl2]
    simp only [St.put]
    rw [← List.map_take, ← List.map_take, ← List.map_drop, ← List.map_append, ← List.map_append]
    exact h
end
end Go.AM
