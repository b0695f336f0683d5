/-
  Readings of the arguments of laws.
  Conditions: none.
-/
import Derived.Test.YtkbpignlggahaaaGreatDoorAmFactl
import Derived.Test.YtkbpignlggahaaaGreatDoorAmLaw
import Derived.Test.YtkbpignlggahaaaGreatDoorAmStr
import Derived.Test.YtkbpignlggahaaaGreatDoorBase
import Derived.Test.YtkbpignlggahaaaGreatDoorStp
import Derived.Test.YtkbpignlggahaaaGreatDoorLp8
namespace Go.Proofs.YtkbpignlggahaaaGreatDoor
open Go Go.AM
set_option linter.unusedSimpArgs false
set_option linter.unusedVariables false
set_option maxRecDepth 100000
open Go.ChangeShapes Go.WideShapes Go.RowKit
theorem open_string {row : List AV} (h : WT Tryz.prog 9 row) : ∃ s : List UInt8, row = [.lit (str s)] ∧ s.length ≤ 140737488355328 := by
  obtain ⟨s, rfl, hs⟩ := h.string_inv am_un9; refine ⟨s.data.toList, by rw [str, ← bytes_eta], ?_⟩; have e : s.data.toList.length = s.size := Array.length_toList; simp only [reachBytes] at hs; omega
theorem open_ints {row : List AV} (h : WT Tryz.prog 66 row) : ∃ l : List Int, row = [.sh 1 (l.map intC)] ∧ l.length ≤ 140737488355328 := by
  obtain ⟨rows, rfl, h1, h2⟩ := h.slice_inv am_el66
  obtain ⟨l, rfl, _⟩ := rows_map (f := intC) (q := fun _ => True) (rows := rows) (fun r hr => by
    obtain ⟨a, rfl, _⟩ := (h2 r hr).int_inv am_un3
    exact ⟨a, rfl, trivial⟩)
  refine ⟨l, by rw [am_cl3], ?_⟩; rw [am_by3, List.length_map] at h1; simp only [reachBytes] at h1; omega
theorem open_bars {row : List AV} (h : WT Tryz.prog 27 row) : ∃ l : List Bar, row = [.sh 5 (l.map Bar.c)] ∧ l.length ≤ 140737488355328 ∧ schedW l := by
  obtain ⟨rows, rfl, h1, h2⟩ := h.slice_inv am_el27
  obtain ⟨l, rfl, hq⟩ := rows_map (f := Bar.c) (q := Bar.w) (rows := rows) (fun r hr => by
    obtain ⟨r1, q1, rfl, k1, g1⟩ := ((h2 r hr).struct_inv am_ft72).cons_inv; obtain ⟨r2, q2, rfl, k2, g2⟩ := g1.cons_inv; obtain ⟨r3, q3, rfl, k3, g3⟩ := g2.cons_inv; obtain ⟨r4, q4, rfl, k4, g4⟩ := g3.cons_inv; obtain ⟨r5, q5, rfl, k5, g5⟩ := g4.cons_inv; obtain rfl := g5.nil_inv; obtain ⟨s, rfl, hs⟩ := open_string k1; obtain ⟨a, rfl, _⟩ := k2.int_inv am_un3; obtain ⟨b, rfl, _⟩ := k3.int_inv am_un3; obtain ⟨c, rfl, _⟩ := k4.int_inv am_un3; obtain ⟨d, rfl, hd⟩ := open_ints k5
    exact ⟨⟨s, a, b, c, d⟩, rfl, hs, hd⟩)
  refine ⟨l, by rw [am_cl72], ?_, hq⟩; rw [am_by72, List.length_map] at h1; simp only [reachBytes] at h1; omega
theorem open_steps {row : List AV} (h : WT Tryz.prog 56 row) : ∃ l : List (Int × Int), row = [.sh 2 (l.map pairC)] ∧ l.length ≤ 140737488355328 := by
  obtain ⟨rows, rfl, h1, h2⟩ := h.slice_inv am_el56
  obtain ⟨l, rfl, _⟩ := rows_map (f := pairC) (q := fun _ => True) (rows := rows) (fun r hr => by
    obtain ⟨r1, r2, rfl, k1, k2⟩ := ((h2 r hr).struct_inv am_ft62).cons_inv; obtain ⟨r3, r4, rfl, k3, k4⟩ := k2.cons_inv; obtain rfl := k4.nil_inv; obtain ⟨a, rfl, _⟩ := k1.int_inv am_un3; obtain ⟨b, rfl, _⟩ := k3.int_inv am_un3
    exact ⟨(a, b), rfl, trivial⟩)
  refine ⟨l, by rw [am_cl62], ?_⟩; rw [am_by62, List.length_map] at h1; simp only [reachBytes] at h1; omega
theorem open_joints {row : List AV} (h : WT Tryz.prog 29 row) : ∃ l : List (Int × Int), row = [.sh 2 (l.map pairC)] ∧ l.length ≤ 140737488355328 := by
  obtain ⟨rows, rfl, h1, h2⟩ := h.slice_inv am_el29
  obtain ⟨l, rfl, _⟩ := rows_map (f := pairC) (q := fun _ => True) (rows := rows) (fun r hr => by
    obtain ⟨r1, r2, rfl, k1, k2⟩ := ((h2 r hr).struct_inv am_ft94).cons_inv; obtain ⟨r3, r4, rfl, k3, k4⟩ := k2.cons_inv; obtain rfl := k4.nil_inv; obtain ⟨a, rfl, _⟩ := k1.int_inv am_un3; obtain ⟨b, rfl, _⟩ := k3.int_inv am_un3
    exact ⟨(a, b), rfl, trivial⟩)
  refine ⟨l, by rw [am_cl94], ?_⟩; rw [am_by94, List.length_map] at h1; simp only [reachBytes] at h1; omega
end Go.Proofs.YtkbpignlggahaaaGreatDoor
namespace Go.Proofs.YtkbpignlggahaaaGreatDoor
open Go Go.AM
set_option linter.unusedSimpArgs false
set_option linter.unusedVariables false
set_option maxRecDepth 100000
open Go.ChangeShapes Go.WideShapes Go.RowKit
theorem open_box {row : List AV} (h : WT Tryz.prog 100 row) : ∃ b : Bx, row = b.c := by
  obtain ⟨r1, q1, rfl, k1, g1⟩ := (h.struct_inv am_ft100).cons_inv; obtain ⟨r2, q2, rfl, k2, g2⟩ := g1.cons_inv; obtain rfl := g2.nil_inv; obtain ⟨a1, b1, rfl, j1, i1⟩ := (k1.struct_inv am_ft80).cons_inv; obtain ⟨a2, b2, rfl, j2, i2⟩ := i1.cons_inv; obtain ⟨a3, b3, rfl, j3, i3⟩ := i2.cons_inv; obtain rfl := i3.nil_inv; obtain ⟨c1, d1, rfl, l1, m1⟩ := (k2.struct_inv am_ft80).cons_inv; obtain ⟨c2, d2, rfl, l2, m2⟩ := m1.cons_inv; obtain ⟨c3, d3, rfl, l3, m3⟩ := m2.cons_inv; obtain rfl := m3.nil_inv; obtain ⟨x1, rfl, _⟩ := j1.int_inv am_un3; obtain ⟨x2, rfl, _⟩ := j2.int_inv am_un3; obtain ⟨x3, rfl, _⟩ := j3.int_inv am_un3; obtain ⟨y1, rfl, _⟩ := l1.int_inv am_un3; obtain ⟨y2, rfl, _⟩ := l2.int_inv am_un3; obtain ⟨y3, rfl, _⟩ := l3.int_inv am_un3; exact ⟨⟨x1, x2, x3, y1, y2, y3⟩, rfl⟩
theorem open_dem {row : List AV} (h : WT Tryz.prog 102 row) : ∃ d : Dem, row = d.c ∧ d.w := by
  obtain ⟨r1, q1, rfl, k1, g1⟩ := (h.struct_inv am_ft102).cons_inv; obtain ⟨r2, q2, rfl, k2, g2⟩ := g1.cons_inv; obtain ⟨r3, q3, rfl, k3, g3⟩ := g2.cons_inv; obtain rfl := g3.nil_inv; obtain ⟨s, rfl, hs⟩ := open_string k1; obtain ⟨⟨x1, x2, x3, y1, y2, y3⟩, rfl⟩ := open_box k2; obtain ⟨t, rfl, ht⟩ := open_steps k3; exact ⟨⟨s, ⟨x1, x2, x3, y1, y2, y3⟩, t⟩, rfl, hs, ht⟩
theorem open_dems {row : List AV} (h : WT Tryz.prog 30 row) : ∃ l : List Dem, row = [.sh 8 (l.map Dem.c)] ∧ l.length ≤ 140737488355328 ∧ demW l := by
  obtain ⟨rows, rfl, h1, h2⟩ := h.slice_inv am_el30; obtain ⟨l, rfl, hq⟩ := rows_map (f := Dem.c) (q := Dem.w) (rows := rows) (fun r hr => open_dem (h2 r hr)); refine ⟨l, by rw [am_cl102], ?_, hq⟩; rw [am_by102, List.length_map] at h1; simp only [reachBytes] at h1; omega
end Go.Proofs.YtkbpignlggahaaaGreatDoor
namespace Go.Proofs.YtkbpignlggahaaaGreatDoor
open Go Go.AM
set_option linter.unusedSimpArgs false
set_option linter.unusedVariables false
set_option maxRecDepth 100000
set_option maxHeartbeats 400000
open Go.ChangeShapes Go.WideShapes Go.RowKit
theorem open_boxs {row : List AV} (h : WT Tryz.prog 22 row) : ∃ l : List Bx, row = [.sh 6 (l.map Bx.c)] ∧ l.length ≤ 140737488355328 := by
  obtain ⟨rows, rfl, h1, h2⟩ := h.slice_inv am_el22
  obtain ⟨l, rfl, _⟩ := rows_map (f := Bx.c) (q := fun _ => True) (rows := rows) (fun r hr => by
    obtain ⟨b, rfl⟩ := open_box (h2 r hr)
    exact ⟨b, rfl, trivial⟩)
  refine ⟨l, by rw [am_cl100], ?_⟩; rw [am_by100, List.length_map] at h1; simp only [reachBytes] at h1; omega
theorem open_run {row : List AV} (h : WT Tryz.prog 82 row) : ∃ r : Rn, row = r.c ∧ r.mark.length ≤ 140737488355328 := by
  obtain ⟨r1, q1, rfl, k1, g1⟩ := (h.struct_inv am_ft82).cons_inv; obtain ⟨r2, q2, rfl, k2, g2⟩ := g1.cons_inv; obtain ⟨r3, q3, rfl, k3, g3⟩ := g2.cons_inv; obtain ⟨r4, q4, rfl, k4, g4⟩ := g3.cons_inv; obtain ⟨r5, q5, rfl, k5, g5⟩ := g4.cons_inv; obtain rfl := g5.nil_inv; obtain ⟨r6, q6, rfl, k6, g6⟩ := (k2.struct_inv am_ft78).cons_inv; obtain ⟨r7, q7, rfl, k7, g7⟩ := g6.cons_inv; obtain rfl := g7.nil_inv; obtain ⟨r8, q8, rfl, k8, g8⟩ := (k3.struct_inv am_ft80).cons_inv; obtain ⟨r9, q9, rfl, k9, g9⟩ := g8.cons_inv; obtain ⟨r10, q10, rfl, k10, g10⟩ := g9.cons_inv; obtain rfl := g10.nil_inv; obtain ⟨r11, q11, rfl, k11, g11⟩ := (k4.struct_inv am_ft80).cons_inv; obtain ⟨r12, q12, rfl, k12, g12⟩ := g11.cons_inv; obtain ⟨r13, q13, rfl, k13, g13⟩ := g12.cons_inv; obtain rfl := g13.nil_inv; obtain ⟨s, rfl, hs⟩ := open_string k1; obtain ⟨a0, rfl, _⟩ := k6.int_inv am_un3; obtain ⟨a1, rfl, _⟩ := k7.int_inv am_un3; obtain ⟨b0, rfl, _⟩ := k8.int_inv am_un3; obtain ⟨b1, rfl, _⟩ := k9.int_inv am_un3; obtain ⟨b2, rfl, _⟩ := k10.int_inv am_un3; obtain ⟨c0, rfl, _⟩ := k11.int_inv am_un3; obtain ⟨c1, rfl, _⟩ := k12.int_inv am_un3; obtain ⟨c2, rfl, _⟩ := k13.int_inv am_un3; obtain ⟨d0, rfl, _⟩ := k5.int_inv am_un3; exact ⟨⟨s, a0, a1, b0, b1, b2, c0, c1, c2, d0⟩, rfl, hs⟩
theorem open_runs {row : List AV} (h : WT Tryz.prog 28 row) : ∃ l : List Rn, row = [.sh 10 (l.map Rn.c)] ∧ l.length ≤ 140737488355328 ∧ runW l := by
  obtain ⟨rows, rfl, h1, h2⟩ := h.slice_inv am_el28; obtain ⟨l, rfl, hq⟩ := rows_map (f := Rn.c) (q := fun r => r.mark.length ≤ 140737488355328) (rows := rows) (fun r hr => open_run (h2 r hr)); refine ⟨l, by rw [am_cl82], ?_, hq⟩; rw [am_by82, List.length_map] at h1; simp only [reachBytes] at h1; omega
theorem open_member {row : List AV} (h : WT Tryz.prog 26 row) : ∃ x : Mem, row = x.c ∧ x.w := by
  obtain ⟨r14, q14, rfl, k14, g14⟩ := (h.struct_inv am_ft26).cons_inv; obtain ⟨r15, q15, rfl, k15, g15⟩ := g14.cons_inv; obtain ⟨r16, q16, rfl, k16, g16⟩ := g15.cons_inv; obtain ⟨r17, q17, rfl, k17, g17⟩ := g16.cons_inv; obtain ⟨r18, q18, rfl, k18, g18⟩ := g17.cons_inv; obtain rfl := g18.nil_inv; obtain ⟨r19, q19, rfl, k19, g19⟩ := (k15.struct_inv am_ft24).cons_inv; obtain ⟨r20, q20, rfl, k20, g20⟩ := g19.cons_inv; obtain rfl := g20.nil_inv; obtain ⟨s, rfl, hs⟩ := open_string k14; obtain ⟨b, rfl, hb⟩ := open_boxs k19; obtain ⟨c, rfl, hc⟩ := open_boxs k20; obtain ⟨a0, rfl, _⟩ := k16.int_inv am_un3; obtain ⟨a1, rfl, _⟩ := k17.int_inv am_un3; obtain ⟨a2, rfl, _⟩ := k18.int_inv am_un3; exact ⟨⟨s, b, c, a0, a1, a2⟩, rfl, hs, hb, hc⟩
theorem open_rule {row : List AV} (h : WT Tryz.prog 32 row) : ∃ x : Rul, row = x.c := by
  obtain ⟨r21, q21, rfl, k21, g21⟩ := (h.struct_inv am_ft32).cons_inv; obtain ⟨r22, q22, rfl, k22, g22⟩ := g21.cons_inv; obtain ⟨r23, q23, rfl, k23, g23⟩ := g22.cons_inv; obtain ⟨r24, q24, rfl, k24, g24⟩ := g23.cons_inv; obtain ⟨r25, q25, rfl, k25, g25⟩ := g24.cons_inv; obtain ⟨r26, q26, rfl, k26, g26⟩ := g25.cons_inv; obtain ⟨r27, q27, rfl, k27, g27⟩ := g26.cons_inv; obtain ⟨r28, q28, rfl, k28, g28⟩ := g27.cons_inv; obtain ⟨r29, q29, rfl, k29, g29⟩ := g28.cons_inv; obtain rfl := g29.nil_inv; obtain ⟨a0, rfl, _⟩ := k21.int_inv am_un3; obtain ⟨a1, rfl, _⟩ := k22.int_inv am_un3; obtain ⟨a2, rfl, _⟩ := k23.int_inv am_un3; obtain ⟨a3, rfl, _⟩ := k24.int_inv am_un3; obtain ⟨a4, rfl, _⟩ := k25.int_inv am_un3; obtain ⟨a5, rfl, _⟩ := k26.int_inv am_un3; obtain ⟨a6, rfl, _⟩ := k27.int_inv am_un3; obtain ⟨a7, rfl, _⟩ := k28.int_inv am_un3; obtain ⟨a8, rfl, _⟩ := k29.int_inv am_un3; exact ⟨⟨a0, a1, a2, a3, a4, a5, a6, a7, a8⟩, rfl⟩
theorem open_det {row : List AV} (h : WT Tryz.prog 34 row) : ∃ x : Det, row = x.c ∧ x.w := by
  obtain ⟨r30, q30, rfl, k30, g30⟩ := (h.struct_inv am_ft34).cons_inv; obtain ⟨r31, q31, rfl, k31, g31⟩ := g30.cons_inv; obtain ⟨r32, q32, rfl, k32, g32⟩ := g31.cons_inv; obtain ⟨r33, q33, rfl, k33, g33⟩ := g32.cons_inv; obtain ⟨r34, q34, rfl, k34, g34⟩ := g33.cons_inv; obtain ⟨r35, q35, rfl, k35, g35⟩ := g34.cons_inv; obtain rfl := g35.nil_inv; obtain ⟨x1, rfl, h1⟩ := open_member k30; obtain ⟨x2, rfl, h2, h2w⟩ := open_bars k31; obtain ⟨x3, rfl, h3, h3w⟩ := open_runs k32; obtain ⟨x4, rfl, h4⟩ := open_joints k33; obtain ⟨x5, rfl, h5, h5w⟩ := open_dems k34; obtain ⟨x6, rfl⟩ := open_rule k35; exact ⟨⟨x1, x2, x3, x4, x5, x6⟩, rfl, h1, ⟨h2, h2w⟩, ⟨h3, h3w⟩, h4, h5, h5w⟩
end Go.Proofs.YtkbpignlggahaaaGreatDoor
