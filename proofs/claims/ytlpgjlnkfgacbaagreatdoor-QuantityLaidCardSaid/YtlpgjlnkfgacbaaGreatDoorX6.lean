/-
  Part 6 of the proof: functions walked on the abstract machine.
  Conditions: none.
-/
import Derived.Test.YtlpgjlnkfgacbaaGreatDoorChecked
import Derived.KernelRfl
import Derived.Test.YtlpgjlnkfgacbaaGreatDoorX5
set_option linter.unusedSimpArgs false
namespace Go.Proofs.YtlpgjlnkfgacbaaGreatDoor
open Go.AM
theorem Ej : (Tryz.prog.info? 3).isSome = true := by kernel_rfl
theorem Al : B9 Tryz.prog 3 = some false := by kernel_rfl
theorem Ah : Tryz.prog.cellsOf 3 = 1 := by kernel_rfl
theorem am_by3 : Tryz.prog.bytesOf 3 = 8 := by kernel_rfl
theorem Ed : Bt Tryz.prog 3 = some [.lit (.int .i64 0)] := by kernel_rfl
theorem am_in4 : (Tryz.prog.info? 4).isSome = true := by kernel_rfl
theorem am_ag4 : B9 Tryz.prog 4 = some false := by kernel_rfl
theorem am_cl4 : Tryz.prog.cellsOf 4 = 1 := by kernel_rfl
theorem am_ag5 : B9 Tryz.prog 5 = some false := by kernel_rfl
theorem am_cl5 : Tryz.prog.cellsOf 5 = 1 := by kernel_rfl
theorem am_ze5 : Bt Tryz.prog 5 = some [.lit (.int .u8 0)] := by kernel_rfl
theorem CL : B9 Tryz.prog 9 = some false := by kernel_rfl
theorem Da : Tryz.prog.cellsOf 9 = 1 := by kernel_rfl
theorem EW : AX Tryz.prog 9 = none := by kernel_rfl
theorem CI : B9 Tryz.prog 22 = some false := by kernel_rfl
theorem CF : Tryz.prog.cellsOf 22 = 1 := by kernel_rfl
theorem Bs : AX Tryz.prog 22 = some 100 := by kernel_rfl
theorem am_ze22 : Bt Tryz.prog 22 = some [.lit (.slice none 0 0)] := by kernel_rfl
theorem FS : B9 Tryz.prog 24 = some true := by kernel_rfl
theorem E7 : Tryz.prog.cellsOf 24 = 2 := by kernel_rfl
theorem DP : Br Tryz.prog 24 0 = some (0, 22) := by kernel_rfl
theorem E6 : Br Tryz.prog 24 1 = some (1, 22) := by kernel_rfl
theorem am_ag26 : B9 Tryz.prog 26 = some true := by kernel_rfl
theorem am_cl26 : Tryz.prog.cellsOf 26 = 6 := by kernel_rfl
theorem am_fi26_0 : Br Tryz.prog 26 0 = some (0, 9) := by kernel_rfl
theorem am_fi26_1 : Br Tryz.prog 26 1 = some (1, 24) := by kernel_rfl
theorem am_fi26_2 : Br Tryz.prog 26 2 = some (3, 3) := by kernel_rfl
theorem am_fi26_3 : Br Tryz.prog 26 3 = some (4, 3) := by kernel_rfl
theorem am_fi26_4 : Br Tryz.prog 26 4 = some (5, 3) := by kernel_rfl
theorem Fx : B9 Tryz.prog 27 = some false := by kernel_rfl
theorem Fu : Tryz.prog.cellsOf 27 = 1 := by kernel_rfl
theorem BO : AX Tryz.prog 27 = some 72 := by kernel_rfl
theorem FD : B9 Tryz.prog 28 = some false := by kernel_rfl
theorem FG : Tryz.prog.cellsOf 28 = 1 := by kernel_rfl
theorem Bo : AX Tryz.prog 28 = some 82 := by kernel_rfl
theorem FI : B9 Tryz.prog 29 = some false := by kernel_rfl
theorem FF : Tryz.prog.cellsOf 29 = 1 := by kernel_rfl
theorem EZ : AX Tryz.prog 29 = some 94 := by kernel_rfl
theorem am_ag30 : B9 Tryz.prog 30 = some false := by kernel_rfl
theorem am_cl30 : Tryz.prog.cellsOf 30 = 1 := by kernel_rfl
theorem CQ : AX Tryz.prog 30 = some 102 := by kernel_rfl
theorem am_ag32 : B9 Tryz.prog 32 = some true := by kernel_rfl
theorem am_cl32 : Tryz.prog.cellsOf 32 = 9 := by kernel_rfl
theorem am_fi32_0 : Br Tryz.prog 32 0 = some (0, 3) := by kernel_rfl
theorem am_fi32_1 : Br Tryz.prog 32 1 = some (1, 3) := by kernel_rfl
theorem am_fi32_2 : Br Tryz.prog 32 2 = some (2, 3) := by kernel_rfl
theorem am_fi32_3 : Br Tryz.prog 32 3 = some (3, 3) := by kernel_rfl
theorem am_fi32_4 : Br Tryz.prog 32 4 = some (4, 3) := by kernel_rfl
theorem am_fi32_5 : Br Tryz.prog 32 5 = some (5, 3) := by kernel_rfl
theorem am_fi32_6 : Br Tryz.prog 32 6 = some (6, 3) := by kernel_rfl
theorem am_fi32_7 : Br Tryz.prog 32 7 = some (7, 3) := by kernel_rfl
theorem am_fi32_8 : Br Tryz.prog 32 8 = some (8, 3) := by kernel_rfl
theorem Dh : B9 Tryz.prog 34 = some true := by kernel_rfl
theorem Dl : Tryz.prog.cellsOf 34 = 19 := by kernel_rfl
theorem am_fi34_0 : Br Tryz.prog 34 0 = some (0, 26) := by kernel_rfl
theorem Eh : Br Tryz.prog 34 1 = some (6, 27) := by kernel_rfl
theorem E9 : Br Tryz.prog 34 2 = some (7, 28) := by kernel_rfl
theorem EA : Br Tryz.prog 34 3 = some (8, 29) := by kernel_rfl
theorem am_fi34_4 : Br Tryz.prog 34 4 = some (9, 30) := by kernel_rfl
theorem am_fi34_5 : Br Tryz.prog 34 5 = some (10, 32) := by kernel_rfl
theorem Fw : AX Tryz.prog 37 = some 54 := by kernel_rfl
theorem E2 : (Tryz.prog.info? 46).isSome = true := by kernel_rfl
theorem EB : B9 Tryz.prog 46 = some true := by kernel_rfl
theorem C0 : Tryz.prog.cellsOf 46 = 2 := by kernel_rfl
theorem DC : Bt Tryz.prog 46 = some [.lit (.int .i64 0), .lit (.int .i64 0)] := by kernel_rfl
theorem am_pl46 : Eb Tryz.prog 46 = some [(0, 1), (1, 1)] := by kernel_rfl
theorem am_ag54 : B9 Tryz.prog 54 = some true := by kernel_rfl
theorem FZ : Tryz.prog.cellsOf 54 = 2 := by kernel_rfl
theorem am_by54 : Tryz.prog.bytesOf 54 = 24 := by kernel_rfl
theorem FY : Bt Tryz.prog 54 = some [.lit (.int .i64 0), .lit (.string ByteArray.empty)] := by kernel_rfl
theorem am_pl54 : Eb Tryz.prog 54 = some [(0, 1), (1, 1)] := by kernel_rfl
theorem am_ag56 : B9 Tryz.prog 56 = some false := by kernel_rfl
theorem am_cl56 : Tryz.prog.cellsOf 56 = 1 := by kernel_rfl
theorem CG : AX Tryz.prog 56 = some 62 := by kernel_rfl
theorem am_in62 : (Tryz.prog.info? 62).isSome = true := by kernel_rfl
theorem am_ag62 : B9 Tryz.prog 62 = some true := by kernel_rfl
theorem Dw : Tryz.prog.cellsOf 62 = 2 := by kernel_rfl
theorem am_by62 : Tryz.prog.bytesOf 62 = 16 := by kernel_rfl
theorem am_ze62 : Bt Tryz.prog 62 = some [.lit (.int .i64 0), .lit (.int .i64 0)] := by kernel_rfl
theorem GD : Br Tryz.prog 62 0 = some (0, 3) := by kernel_rfl
theorem am_fi62_1 : Br Tryz.prog 62 1 = some (1, 3) := by kernel_rfl
theorem am_pl62 : Eb Tryz.prog 62 = some [(0, 1), (1, 1)] := by kernel_rfl
theorem FT : B9 Tryz.prog 66 = some false := by kernel_rfl
theorem FW : Tryz.prog.cellsOf 66 = 1 := by kernel_rfl
theorem AG : AX Tryz.prog 66 = some 3 := by kernel_rfl
theorem am_in72 : (Tryz.prog.info? 72).isSome = true := by kernel_rfl
theorem Cm : B9 Tryz.prog 72 = some true := by kernel_rfl
theorem Bv : Tryz.prog.cellsOf 72 = 5 := by kernel_rfl
theorem am_by72 : Tryz.prog.bytesOf 72 = 64 := by kernel_rfl
theorem am_ze72 : Bt Tryz.prog 72 = some [.lit (.string ByteArray.empty), .lit (.int .i64 0), .lit (.int .i64 0), .lit (.int .i64 0), .lit (.slice none 0 0)] := by kernel_rfl
theorem F9 : Br Tryz.prog 72 0 = some (0, 9) := by kernel_rfl
theorem DT : Br Tryz.prog 72 1 = some (1, 3) := by kernel_rfl
theorem am_fi72_2 : Br Tryz.prog 72 2 = some (2, 3) := by kernel_rfl
theorem am_fi72_3 : Br Tryz.prog 72 3 = some (3, 3) := by kernel_rfl
theorem EQ : Br Tryz.prog 72 4 = some (4, 66) := by kernel_rfl
theorem am_pl72 : Eb Tryz.prog 72 = some [(0, 1), (1, 1), (2, 1), (3, 1), (4, 1)] := by kernel_rfl
theorem am_ag78 : B9 Tryz.prog 78 = some true := by kernel_rfl
theorem EP : Tryz.prog.cellsOf 78 = 2 := by kernel_rfl
theorem GC : Br Tryz.prog 78 0 = some (0, 3) := by kernel_rfl
theorem GB : Br Tryz.prog 78 1 = some (1, 3) := by kernel_rfl
theorem BG : (Tryz.prog.info? 80).isSome = true := by kernel_rfl
theorem AF : B9 Tryz.prog 80 = some true := by kernel_rfl
theorem Am : Tryz.prog.cellsOf 80 = 3 := by kernel_rfl
theorem am_by80 : Tryz.prog.bytesOf 80 = 24 := by kernel_rfl
theorem AJ : Bt Tryz.prog 80 = some [.lit (.int .i64 0), .lit (.int .i64 0), .lit (.int .i64 0)] := by kernel_rfl
theorem AU : Br Tryz.prog 80 0 = some (0, 3) := by kernel_rfl
theorem Bi : Br Tryz.prog 80 1 = some (1, 3) := by kernel_rfl
theorem Bk : Br Tryz.prog 80 2 = some (2, 3) := by kernel_rfl
theorem BH : Eb Tryz.prog 80 = some [(0, 1), (1, 1), (2, 1)] := by kernel_rfl
theorem am_in82 : (Tryz.prog.info? 82).isSome = true := by kernel_rfl
theorem FX : B9 Tryz.prog 82 = some true := by kernel_rfl
theorem B5 : Tryz.prog.cellsOf 82 = 10 := by kernel_rfl
theorem am_by82 : Tryz.prog.bytesOf 82 = 88 := by kernel_rfl
theorem am_ze82 : Bt Tryz.prog 82 = some [.lit (.string ByteArray.empty), .lit (.int .i64 0), .lit (.int .i64 0), .lit (.int .i64 0), .lit (.int .i64 0), .lit (.int .i64 0), .lit (.int .i64 0), .lit (.int .i64 0), .lit (.int .i64 0), .lit (.int .i64 0)] := by kernel_rfl
theorem Fq : Br Tryz.prog 82 0 = some (0, 9) := by kernel_rfl
theorem am_fi82_1 : Br Tryz.prog 82 1 = some (1, 78) := by kernel_rfl
theorem FB : Br Tryz.prog 82 2 = some (3, 80) := by kernel_rfl
theorem Ge : Br Tryz.prog 82 3 = some (6, 80) := by kernel_rfl
theorem B4 : Br Tryz.prog 82 4 = some (9, 3) := by kernel_rfl
theorem am_in94 : (Tryz.prog.info? 94).isSome = true := by kernel_rfl
theorem am_ag94 : B9 Tryz.prog 94 = some true := by kernel_rfl
theorem G5 : Tryz.prog.cellsOf 94 = 2 := by kernel_rfl
theorem am_by94 : Tryz.prog.bytesOf 94 = 16 := by kernel_rfl
theorem am_ze94 : Bt Tryz.prog 94 = some [.lit (.int .i64 0), .lit (.int .i64 0)] := by kernel_rfl
theorem FA : Br Tryz.prog 94 0 = some (0, 3) := by kernel_rfl
theorem FC : Br Tryz.prog 94 1 = some (1, 3) := by kernel_rfl
theorem CK : (Tryz.prog.info? 100).isSome = true := by kernel_rfl
theorem Bq : B9 Tryz.prog 100 = some true := by kernel_rfl
theorem AB : Tryz.prog.cellsOf 100 = 6 := by kernel_rfl
theorem am_by100 : Tryz.prog.bytesOf 100 = 48 := by kernel_rfl
theorem BS : Bt Tryz.prog 100 = some [.lit (.int .i64 0), .lit (.int .i64 0), .lit (.int .i64 0), .lit (.int .i64 0), .lit (.int .i64 0), .lit (.int .i64 0)] := by kernel_rfl
theorem AR : Br Tryz.prog 100 0 = some (0, 80) := by kernel_rfl
theorem AQ : Br Tryz.prog 100 1 = some (3, 80) := by kernel_rfl
theorem am_pl100 : Eb Tryz.prog 100 = some [(0, 3), (3, 3)] := by kernel_rfl
theorem am_in102 : (Tryz.prog.info? 102).isSome = true := by kernel_rfl
theorem am_ag102 : B9 Tryz.prog 102 = some true := by kernel_rfl
theorem DR : Tryz.prog.cellsOf 102 = 8 := by kernel_rfl
theorem am_by102 : Tryz.prog.bytesOf 102 = 88 := by kernel_rfl
theorem am_ze102 : Bt Tryz.prog 102 = some [.lit (.string ByteArray.empty), .lit (.int .i64 0), .lit (.int .i64 0), .lit (.int .i64 0), .lit (.int .i64 0), .lit (.int .i64 0), .lit (.int .i64 0), .lit (.slice none 0 0)] := by kernel_rfl
theorem Gd : Br Tryz.prog 102 0 = some (0, 9) := by kernel_rfl
theorem am_fi102_1 : Br Tryz.prog 102 1 = some (1, 100) := by kernel_rfl
theorem am_fi102_2 : Br Tryz.prog 102 2 = some (7, 56) := by kernel_rfl
theorem am_el103 : AX Tryz.prog 103 = some 183 := by kernel_rfl
theorem am_in112 : (Tryz.prog.info? 112).isSome = true := by kernel_rfl
theorem BN : B9 Tryz.prog 112 = some false := by kernel_rfl
theorem BW : Tryz.prog.cellsOf 112 = 1 := by kernel_rfl
theorem am_ze112 : Bt Tryz.prog 112 = some [.lit (.int .u64 0)] := by kernel_rfl
theorem Bf : (Tryz.prog.info? 122).isSome = true := by kernel_rfl
theorem Bp : B9 Tryz.prog 122 = some true := by kernel_rfl
theorem AA : Tryz.prog.cellsOf 122 = 2 := by kernel_rfl
theorem Cy : Bt Tryz.prog 122 = some [.lit (.int .u64 0), .lit (.int .u64 0)] := by kernel_rfl
theorem DH : Br Tryz.prog 122 0 = some (0, 112) := by kernel_rfl
theorem Cr : Br Tryz.prog 122 1 = some (1, 112) := by kernel_rfl
theorem D8 : Eb Tryz.prog 122 = some [(0, 1), (1, 1)] := by kernel_rfl
theorem Gp : mapTy Tryz.prog 135 = some (.int .i64, some (.bool false)) := by kernel_rfl
theorem EH : (Tryz.prog.info? 138).isSome = true := by kernel_rfl
theorem am_ag138 : B9 Tryz.prog 138 = some true := by kernel_rfl
theorem Dc : Tryz.prog.cellsOf 138 = 2 := by kernel_rfl
theorem Dv : Bt Tryz.prog 138 = some [.lit (.int .i64 0), .lit (.int .i64 0)] := by kernel_rfl
theorem am_fi138_0 : Br Tryz.prog 138 0 = some (0, 3) := by kernel_rfl
theorem am_fi138_1 : Br Tryz.prog 138 1 = some (1, 3) := by kernel_rfl
theorem GI : Eb Tryz.prog 138 = some [(0, 1), (1, 1)] := by kernel_rfl
theorem Bb : AX Tryz.prog 146 = some 80 := by kernel_rfl
theorem am_el174 : AX Tryz.prog 174 = some 5 := by kernel_rfl
theorem am_in183 : (Tryz.prog.info? 183).isSome = true := by kernel_rfl
theorem am_ag183 : B9 Tryz.prog 183 = some true := by kernel_rfl
theorem Fa : Tryz.prog.cellsOf 183 = 9 := by kernel_rfl
theorem am_by183 : Tryz.prog.bytesOf 183 = 80 := by kernel_rfl
theorem am_ze183 : Bt Tryz.prog 183 = some [.lit (.int .i64 0), .lit (.int .i64 0), .lit (.int .i64 0), .lit (.int .i64 0), .lit (.int .i64 0), .lit (.int .i64 0), .lit (.bool false), .lit (.int .i64 0), .lit (.string ByteArray.empty)] := by kernel_rfl
theorem GL : Br Tryz.prog 183 0 = some (0, 100) := by kernel_rfl
theorem am_fi183_1 : Br Tryz.prog 183 1 = some (6, 4) := by kernel_rfl
theorem am_pl183 : Eb Tryz.prog 183 = some [(0, 6), (6, 1), (7, 1), (8, 1)] := by kernel_rfl
theorem EK : AX Tryz.prog 193 = some 196 := by kernel_rfl
theorem am_in196 : (Tryz.prog.info? 196).isSome = true := by kernel_rfl
theorem am_ag196 : B9 Tryz.prog 196 = some true := by kernel_rfl
theorem DL : Tryz.prog.cellsOf 196 = 2 := by kernel_rfl
theorem BZ : Bt Tryz.prog 196 = some [.lit (.int .i64 0), .lit (.int .u8 0)] := by kernel_rfl
theorem am_fi196_0 : Br Tryz.prog 196 0 = some (0, 3) := by kernel_rfl
theorem am_fi196_1 : Br Tryz.prog 196 1 = some (1, 5) := by kernel_rfl
theorem CA : Eb Tryz.prog 196 = some [(0, 1), (1, 1)] := by kernel_rfl
theorem am_el227 : AX Tryz.prog 227 = some 22 := by kernel_rfl
theorem Cs : (Tryz.prog.info? 237).isSome = true := by kernel_rfl
theorem Bu : B9 Tryz.prog 237 = some true := by kernel_rfl
theorem AH : Tryz.prog.cellsOf 237 = 3 := by kernel_rfl
theorem Cp : AX Tryz.prog 237 = none := by kernel_rfl
theorem Ce : Bt Tryz.prog 237 = some [.lit (.int .i64 0), .lit (.int .i64 0), .lit (.int .i64 0)] := by kernel_rfl
theorem BL : arrOf Tryz.prog 237 = some (3, 3) := by kernel_rfl
theorem am_pn237 : Eb Tryz.prog 237 = none := by kernel_rfl
theorem Fg : (Tryz.prog.info? 249).isSome = true := by kernel_rfl
theorem F1 : B9 Tryz.prog 249 = some true := by kernel_rfl
theorem CT : Tryz.prog.cellsOf 249 = 9 := by kernel_rfl
theorem GN : AX Tryz.prog 249 = none := by kernel_rfl
theorem EO : Bt Tryz.prog 249 = some [.lit (.int .i64 0), .lit (.int .i64 0), .lit (.int .i64 0), .lit (.int .i64 0), .lit (.int .i64 0), .lit (.int .i64 0), .lit (.int .i64 0), .lit (.int .i64 0), .lit (.int .i64 0)] := by kernel_rfl
theorem Dj : arrOf Tryz.prog 249 = some (3, 237) := by kernel_rfl
theorem F2 : Eb Tryz.prog 249 = none := by kernel_rfl
open Go Go.AM
theorem Cl : Tryz.prog.underlying 3 = some (.int .i64) := by kernel_rfl
theorem am_us3 : (Tryz.prog.underlying 3).isSome = true := by kernel_rfl
theorem am_un4 : Tryz.prog.underlying 4 = some .bool := by kernel_rfl
theorem am_un5 : Tryz.prog.underlying 5 = some (.int .u8) := by kernel_rfl
theorem Dr : Tryz.prog.underlying 9 = some .string := by kernel_rfl
theorem am_eq46 : EqT Tryz.prog 46 [(0, 3), (1, 3)] := ⟨⟨_, (by kernel_rfl : Tryz.prog.underlying 46 = some (.struct (Tryz.prog.fieldsOf 46))), by kernel_rfl, by kernel_rfl⟩, by kernel_rfl, by kernel_rfl⟩
theorem am_sq46 (a0 b0 : Int) (a1 b1 : Int) : eqG Tryz.prog [.lit (.int .i64 a0), .lit (.int .i64 a1)] [.lit (.int .i64 b0), .lit (.int .i64 b1)] [(0, 3), (1, 3)] = some (decide (a0 = b0) && (decide (a1 = b1) && true)) := by simp [eqG, scEq, Al, Cl]
theorem am_eq54 : EqT Tryz.prog 54 [(0, 3), (1, 9)] := ⟨⟨_, (by kernel_rfl : Tryz.prog.underlying 54 = some (.struct (Tryz.prog.fieldsOf 54))), by kernel_rfl, by kernel_rfl⟩, by kernel_rfl, by kernel_rfl⟩
theorem am_sq54 (a0 b0 : Int) (a1 b1 : ByteArray) : eqG Tryz.prog [.lit (.int .i64 a0), .lit (.string a1)] [.lit (.int .i64 b0), .lit (.string b1)] [(0, 3), (1, 9)] = some (decide (a0 = b0) && (decide (a1 = b1) && true)) := by simp [eqG, scEq, Al, Cl, CL, Dr]
theorem am_eq62 : EqT Tryz.prog 62 [(0, 3), (1, 3)] := ⟨⟨_, (by kernel_rfl : Tryz.prog.underlying 62 = some (.struct (Tryz.prog.fieldsOf 62))), by kernel_rfl, by kernel_rfl⟩, by kernel_rfl, by kernel_rfl⟩
theorem am_sq62 (a0 b0 : Int) (a1 b1 : Int) : eqG Tryz.prog [.lit (.int .i64 a0), .lit (.int .i64 a1)] [.lit (.int .i64 b0), .lit (.int .i64 b1)] [(0, 3), (1, 3)] = some (decide (a0 = b0) && (decide (a1 = b1) && true)) := by simp [eqG, scEq, Al, Cl]
theorem am_eq80 : EqT Tryz.prog 80 [(0, 3), (1, 3), (2, 3)] := ⟨⟨_, (by kernel_rfl : Tryz.prog.underlying 80 = some (.struct (Tryz.prog.fieldsOf 80))), by kernel_rfl, by kernel_rfl⟩, by kernel_rfl, by kernel_rfl⟩
theorem am_sq80 (a0 b0 : Int) (a1 b1 : Int) (a2 b2 : Int) : eqG Tryz.prog [.lit (.int .i64 a0), .lit (.int .i64 a1), .lit (.int .i64 a2)] [.lit (.int .i64 b0), .lit (.int .i64 b1), .lit (.int .i64 b2)] [(0, 3), (1, 3), (2, 3)] = some (decide (a0 = b0) && (decide (a1 = b1) && (decide (a2 = b2) && true))) := by simp [eqG, scEq, Al, Cl]
theorem am_eq100 : EqT Tryz.prog 100 [(0, 80), (3, 80)] := ⟨⟨_, (by kernel_rfl : Tryz.prog.underlying 100 = some (.struct (Tryz.prog.fieldsOf 100))), by kernel_rfl, by kernel_rfl⟩, by kernel_rfl, by kernel_rfl⟩
theorem am_un112 : Tryz.prog.underlying 112 = some (.int .u64) := by kernel_rfl
theorem am_us112 : (Tryz.prog.underlying 112).isSome = true := by kernel_rfl
theorem am_eq122 : EqT Tryz.prog 122 [(0, 112), (1, 112)] := ⟨⟨_, (by kernel_rfl : Tryz.prog.underlying 122 = some (.struct (Tryz.prog.fieldsOf 122))), by kernel_rfl, by kernel_rfl⟩, by kernel_rfl, by kernel_rfl⟩
theorem am_sq122 (a0 b0 : Int) (a1 b1 : Int) : eqG Tryz.prog [.lit (.int .u64 a0), .lit (.int .u64 a1)] [.lit (.int .u64 b0), .lit (.int .u64 b1)] [(0, 112), (1, 112)] = some (decide (a0 = b0) && (decide (a1 = b1) && true)) := by simp [eqG, scEq, BN, am_un112]
end Go.Proofs.YtlpgjlnkfgacbaaGreatDoor
