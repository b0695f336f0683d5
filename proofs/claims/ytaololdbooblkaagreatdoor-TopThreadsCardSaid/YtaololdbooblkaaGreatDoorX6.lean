/-
  Part 6 of the proof: functions walked on the abstract machine.
  Conditions: none.
-/
import Derived.Test.YtaololdbooblkaaGreatDoorChecked
import Derived.KernelRfl
import Derived.Test.YtaololdbooblkaaGreatDoorX5
set_option linter.unusedSimpArgs false
set_option linter.unusedVariables false
set_option linter.unusedSectionVars false
namespace Go.Proofs.YtaololdbooblkaaGreatDoor
open Go.AM
theorem am_in3:(Tryz.prog.info? 3).isSome=true:=by kernel_rfl
theorem am_ag3:Bi Tryz.prog 3=some false:=by kernel_rfl
theorem am_cl3:Tryz.prog.cellsOf 3=1:=by kernel_rfl
theorem am_by3:Tryz.prog.bytesOf 3=8:=by kernel_rfl
theorem am_ze3:AK Tryz.prog 3=some [.lit (.int .i64 0)]:=by kernel_rfl
theorem am_in4:(Tryz.prog.info? 4).isSome=true:=by kernel_rfl
theorem am_ag4:Bi Tryz.prog 4=some false:=by kernel_rfl
theorem am_cl4:Tryz.prog.cellsOf 4=1:=by kernel_rfl
theorem am_by4:Tryz.prog.bytesOf 4=1:=by kernel_rfl
theorem am_ze4:AK Tryz.prog 4=some [.lit (.bool false)]:=by kernel_rfl
theorem am_ag5:Bi Tryz.prog 5=some false:=by kernel_rfl
theorem am_cl5:Tryz.prog.cellsOf 5=1:=by kernel_rfl
theorem am_by5:Tryz.prog.bytesOf 5=1:=by kernel_rfl
theorem am_ze5:AK Tryz.prog 5=some [.lit (.int .u8 0)]:=by kernel_rfl
theorem am_in9:(Tryz.prog.info? 9).isSome=true:=by kernel_rfl
theorem am_ag9:Bi Tryz.prog 9=some false:=by kernel_rfl
theorem am_cl9:Tryz.prog.cellsOf 9=1:=by kernel_rfl
theorem am_by9:Tryz.prog.bytesOf 9=16:=by kernel_rfl
theorem am_el9:A9 Tryz.prog 9=none:=by kernel_rfl
theorem am_ze9:AK Tryz.prog 9=some [.lit (.string ByteArray.empty)]:=by kernel_rfl
theorem am_ag22:Bi Tryz.prog 22=some false:=by kernel_rfl
theorem am_cl22:Tryz.prog.cellsOf 22=1:=by kernel_rfl
theorem am_el22:A9 Tryz.prog 22=some 168:=by kernel_rfl
theorem am_ag23:Bi Tryz.prog 23=some false:=by kernel_rfl
theorem am_cl23:Tryz.prog.cellsOf 23=1:=by kernel_rfl
theorem am_el23:A9 Tryz.prog 23=some 194:=by kernel_rfl
theorem am_in24:(Tryz.prog.info? 24).isSome=true:=by kernel_rfl
theorem am_ag24:Bi Tryz.prog 24=some false:=by kernel_rfl
theorem am_cl24:Tryz.prog.cellsOf 24=1:=by kernel_rfl
theorem am_by24:Tryz.prog.bytesOf 24=24:=by kernel_rfl
theorem am_el24:A9 Tryz.prog 24=some 3:=by kernel_rfl
theorem am_ze24:AK Tryz.prog 24=some [.lit (.slice none 0 0)]:=by kernel_rfl
theorem am_in27:(Tryz.prog.info? 27).isSome=true:=by kernel_rfl
theorem am_ag27:Bi Tryz.prog 27=some false:=by kernel_rfl
theorem am_cl27:Tryz.prog.cellsOf 27=1:=by kernel_rfl
theorem am_ze27:AK Tryz.prog 27=some [.lit (.int .i64 0)]:=by kernel_rfl
theorem am_ag37:Bi Tryz.prog 37=some false:=by kernel_rfl
theorem am_cl37:Tryz.prog.cellsOf 37=1:=by kernel_rfl
theorem am_by37:Tryz.prog.bytesOf 37=24:=by kernel_rfl
theorem am_el37:A9 Tryz.prog 37=some 58:=by kernel_rfl
theorem am_ze37:AK Tryz.prog 37=some [.lit (.slice none 0 0)]:=by kernel_rfl
theorem am_cl39:Tryz.prog.cellsOf 39=2:=by kernel_rfl
theorem am_fi39_0:AX Tryz.prog 39 0=some (0,37):=by kernel_rfl
theorem am_fi39_1:AX Tryz.prog 39 1=some (1,37):=by kernel_rfl
theorem am_in41:(Tryz.prog.info? 41).isSome=true:=by kernel_rfl
theorem am_ag41:Bi Tryz.prog 41=some true:=by kernel_rfl
theorem am_cl41:Tryz.prog.cellsOf 41=6:=by kernel_rfl
theorem am_ze41:AK Tryz.prog 41=some [.lit (.string ByteArray.empty), .lit (.slice none 0 0), .lit (.slice none 0 0), .lit (.int .i64 0), .lit (.int .i64 0), .lit (.int .i64 0)]:=by kernel_rfl
theorem am_fi41_0:AX Tryz.prog 41 0=some (0,9):=by kernel_rfl
theorem am_fi41_1:AX Tryz.prog 41 1=some (1,39):=by kernel_rfl
theorem am_fi41_2:AX Tryz.prog 41 2=some (3,3):=by kernel_rfl
theorem am_fi41_3:AX Tryz.prog 41 3=some (4,3):=by kernel_rfl
theorem am_fi41_4:AX Tryz.prog 41 4=some (5,3):=by kernel_rfl
theorem am_ag42:Bi Tryz.prog 42=some false:=by kernel_rfl
theorem am_cl42:Tryz.prog.cellsOf 42=1:=by kernel_rfl
theorem am_el42:A9 Tryz.prog 42=some 153:=by kernel_rfl
theorem am_ag43:Bi Tryz.prog 43=some false:=by kernel_rfl
theorem am_cl43:Tryz.prog.cellsOf 43=1:=by kernel_rfl
theorem am_el43:A9 Tryz.prog 43=some 61:=by kernel_rfl
theorem am_ag45:Bi Tryz.prog 45=some true:=by kernel_rfl
theorem am_cl45:Tryz.prog.cellsOf 45=9:=by kernel_rfl
theorem am_fi45_0:AX Tryz.prog 45 0=some (0,3):=by kernel_rfl
theorem am_fi45_1:AX Tryz.prog 45 1=some (1,3):=by kernel_rfl
theorem am_fi45_2:AX Tryz.prog 45 2=some (2,3):=by kernel_rfl
theorem am_fi45_3:AX Tryz.prog 45 3=some (3,3):=by kernel_rfl
theorem am_fi45_4:AX Tryz.prog 45 4=some (4,3):=by kernel_rfl
theorem am_fi45_5:AX Tryz.prog 45 5=some (5,3):=by kernel_rfl
theorem am_fi45_6:AX Tryz.prog 45 6=some (6,3):=by kernel_rfl
theorem am_fi45_7:AX Tryz.prog 45 7=some (7,3):=by kernel_rfl
theorem am_fi45_8:AX Tryz.prog 45 8=some (8,3):=by kernel_rfl
theorem am_in47:(Tryz.prog.info? 47).isSome=true:=by kernel_rfl
theorem am_ag47:Bi Tryz.prog 47=some true:=by kernel_rfl
theorem am_cl47:Tryz.prog.cellsOf 47=19:=by kernel_rfl
theorem am_ze47:AK Tryz.prog 47=some [.lit (.string ByteArray.empty), .lit (.slice none 0 0), .lit (.slice none 0 0), .lit (.int .i64 0), .lit (.int .i64 0), .lit (.int .i64 0), .lit (.slice none 0 0), .lit (.slice none 0 0), .lit (.slice none 0 0), .lit (.slice none 0 0), .lit (.int .i64 0), .lit (.int .i64 0), .lit (.int .i64 0), .lit (.int .i64 0), .lit (.int .i64 0), .lit (.int .i64 0), .lit (.int .i64 0), .lit (.int .i64 0), .lit (.int .i64 0)]:=by kernel_rfl
theorem am_fi47_0:AX Tryz.prog 47 0=some (0,41):=by kernel_rfl
theorem am_fi47_1:AX Tryz.prog 47 1=some (6,22):=by kernel_rfl
theorem am_fi47_2:AX Tryz.prog 47 2=some (7,23):=by kernel_rfl
theorem am_fi47_3:AX Tryz.prog 47 3=some (8,42):=by kernel_rfl
theorem am_fi47_4:AX Tryz.prog 47 4=some (9,43):=by kernel_rfl
theorem am_fi47_5:AX Tryz.prog 47 5=some (10,45):=by kernel_rfl
theorem am_in56:(Tryz.prog.info? 56).isSome=true:=by kernel_rfl
theorem am_ag56:Bi Tryz.prog 56=some true:=by kernel_rfl
theorem am_cl56:Tryz.prog.cellsOf 56=3:=by kernel_rfl
theorem am_by56:Tryz.prog.bytesOf 56=24:=by kernel_rfl
theorem am_ze56:AK Tryz.prog 56=some [.lit (.int .i64 0), .lit (.int .i64 0), .lit (.int .i64 0)]:=by kernel_rfl
theorem am_fi56_0:AX Tryz.prog 56 0=some (0,3):=by kernel_rfl
theorem am_fi56_1:AX Tryz.prog 56 1=some (1,3):=by kernel_rfl
theorem am_fi56_2:AX Tryz.prog 56 2=some (2,3):=by kernel_rfl
theorem am_pl56:Ci Tryz.prog 56=some [(0,1),(1,1),(2,1)]:=by kernel_rfl
theorem am_in58:(Tryz.prog.info? 58).isSome=true:=by kernel_rfl
theorem am_ag58:Bi Tryz.prog 58=some true:=by kernel_rfl
theorem am_cl58:Tryz.prog.cellsOf 58=6:=by kernel_rfl
theorem am_by58:Tryz.prog.bytesOf 58=48:=by kernel_rfl
theorem am_ze58:AK Tryz.prog 58=some [.lit (.int .i64 0), .lit (.int .i64 0), .lit (.int .i64 0), .lit (.int .i64 0), .lit (.int .i64 0), .lit (.int .i64 0)]:=by kernel_rfl
theorem am_fi58_0:AX Tryz.prog 58 0=some (0,56):=by kernel_rfl
theorem am_fi58_1:AX Tryz.prog 58 1=some (3,56):=by kernel_rfl
theorem am_pl58:Ci Tryz.prog 58=some [(0,3),(3,3)]:=by kernel_rfl
theorem am_el59:A9 Tryz.prog 59=some 205:=by kernel_rfl
theorem am_in68:(Tryz.prog.info? 68).isSome=true:=by kernel_rfl
theorem am_ag68:Bi Tryz.prog 68=some true:=by kernel_rfl
theorem am_cl68:Tryz.prog.cellsOf 68=2:=by kernel_rfl
theorem am_ze68:AK Tryz.prog 68=some [.lit (.int .i64 0), .lit (.int .i64 0)]:=by kernel_rfl
theorem am_fi68_0:AX Tryz.prog 68 0=some (0,3):=by kernel_rfl
theorem am_fi68_1:AX Tryz.prog 68 1=some (1,3):=by kernel_rfl
theorem am_pl68:Ci Tryz.prog 68=some [(0,1),(1,1)]:=by kernel_rfl
theorem am_in75:(Tryz.prog.info? 75).isSome=true:=by kernel_rfl
theorem am_ag75:Bi Tryz.prog 75=some true:=by kernel_rfl
theorem am_cl75:Tryz.prog.cellsOf 75=2:=by kernel_rfl
theorem am_ze75:AK Tryz.prog 75=some [.lit (.int .i64 0), .lit (.int .i64 0)]:=by kernel_rfl
theorem am_fi75_0:AX Tryz.prog 75 0=some (0,3):=by kernel_rfl
theorem am_fi75_1:AX Tryz.prog 75 1=some (1,3):=by kernel_rfl
theorem am_pl75:Ci Tryz.prog 75=some [(0,1),(1,1)]:=by kernel_rfl
theorem am_in90:(Tryz.prog.info? 90).isSome=true:=by kernel_rfl
theorem am_ag90:Bi Tryz.prog 90=some false:=by kernel_rfl
theorem am_cl90:Tryz.prog.cellsOf 90=1:=by kernel_rfl
theorem am_el90:A9 Tryz.prog 90=some 9:=by kernel_rfl
theorem am_in107:(Tryz.prog.info? 107).isSome=true:=by kernel_rfl
theorem am_ag107:Bi Tryz.prog 107=some false:=by kernel_rfl
theorem am_cl107:Tryz.prog.cellsOf 107=1:=by kernel_rfl
theorem am_el107:A9 Tryz.prog 107=some 5:=by kernel_rfl
theorem am_ag110:Bi Tryz.prog 110=some false:=by kernel_rfl
theorem am_cl110:Tryz.prog.cellsOf 110=1:=by kernel_rfl
theorem am_el110:A9 Tryz.prog 110=some 59:=by kernel_rfl
theorem am_ag112:Bi Tryz.prog 112=some true:=by kernel_rfl
theorem am_cl112:Tryz.prog.cellsOf 112=4:=by kernel_rfl
theorem am_ze112:AK Tryz.prog 112=some [.lit (.slice none 0 0), .lit (.int .i64 0), .lit (.int .i64 0), .lit (.int .i64 0)]:=by kernel_rfl
theorem am_fi112_0:AX Tryz.prog 112 0=some (0,110):=by kernel_rfl
theorem am_fi112_1:AX Tryz.prog 112 1=some (1,3):=by kernel_rfl
theorem am_fi112_2:AX Tryz.prog 112 2=some (2,3):=by kernel_rfl
theorem am_fi112_3:AX Tryz.prog 112 3=some (3,3):=by kernel_rfl
theorem am_pl112:Ci Tryz.prog 112=some [(0,1),(1,1),(2,1),(3,1)]:=by kernel_rfl
theorem am_in125:(Tryz.prog.info? 125).isSome=true:=by kernel_rfl
theorem am_ag125:Bi Tryz.prog 125=some false:=by kernel_rfl
theorem am_cl125:Tryz.prog.cellsOf 125=1:=by kernel_rfl
theorem am_el125:A9 Tryz.prog 125=some 37:=by kernel_rfl
theorem am_ze127:AK Tryz.prog 127=some [.lit (.slice none 0 0), .lit (.slice none 0 0)]:=by kernel_rfl
theorem am_fi127_0:AX Tryz.prog 127 0=some (0,125):=by kernel_rfl
theorem am_fi127_1:AX Tryz.prog 127 1=some (1,24):=by kernel_rfl
theorem am_pl127:Ci Tryz.prog 127=some [(0,1),(1,1)]:=by kernel_rfl
theorem am_in129:(Tryz.prog.info? 129).isSome=true:=by kernel_rfl
theorem am_ag129:Bi Tryz.prog 129=some true:=by kernel_rfl
theorem am_cl129:Tryz.prog.cellsOf 129=8:=by kernel_rfl
theorem am_ze129:AK Tryz.prog 129=some [.lit (.int .i64 0), .lit (.int .i64 0), .lit (.int .i64 0), .lit (.int .i64 0), .lit (.int .i64 0), .lit (.int .i64 0), .lit (.int .i64 0), .lit (.int .i64 0)]:=by kernel_rfl
theorem am_pl129:Ci Tryz.prog 129=some [(0,1),(1,1),(2,3),(5,3)]:=by kernel_rfl
theorem am_ag132:Bi Tryz.prog 132=some false:=by kernel_rfl
theorem am_cl132:Tryz.prog.cellsOf 132=1:=by kernel_rfl
theorem am_el132:A9 Tryz.prog 132=some 274:=by kernel_rfl
theorem am_el136:A9 Tryz.prog 136=some 280:=by kernel_rfl
theorem am_in141:(Tryz.prog.info? 141).isSome=true:=by kernel_rfl
theorem am_ag141:Bi Tryz.prog 141=some true:=by kernel_rfl
theorem am_cl141:Tryz.prog.cellsOf 141=2:=by kernel_rfl
theorem am_ze141:AK Tryz.prog 141=some [.lit (.int .i64 0), .lit (.slice none 0 0)]:=by kernel_rfl
theorem am_fi141_0:AX Tryz.prog 141 0=some (0,3):=by kernel_rfl
theorem am_fi141_1:AX Tryz.prog 141 1=some (1,132):=by kernel_rfl
theorem am_pl141:Ci Tryz.prog 141=some [(0,1),(1,1)]:=by kernel_rfl
theorem am_ag144:Bi Tryz.prog 144=some false:=by kernel_rfl
theorem am_cl144:Tryz.prog.cellsOf 144=1:=by kernel_rfl
theorem am_in168:(Tryz.prog.info? 168).isSome=true:=by kernel_rfl
theorem am_ag168:Bi Tryz.prog 168=some true:=by kernel_rfl
theorem am_cl168:Tryz.prog.cellsOf 168=5:=by kernel_rfl
theorem am_by168:Tryz.prog.bytesOf 168=64:=by kernel_rfl
theorem am_ze168:AK Tryz.prog 168=some [.lit (.string ByteArray.empty), .lit (.int .i64 0), .lit (.int .i64 0), .lit (.int .i64 0), .lit (.slice none 0 0)]:=by kernel_rfl
theorem am_fi168_0:AX Tryz.prog 168 0=some (0,9):=by kernel_rfl
theorem am_fi168_1:AX Tryz.prog 168 1=some (1,3):=by kernel_rfl
theorem am_fi168_2:AX Tryz.prog 168 2=some (2,3):=by kernel_rfl
theorem am_fi168_3:AX Tryz.prog 168 3=some (3,3):=by kernel_rfl
theorem am_fi168_4:AX Tryz.prog 168 4=some (4,24):=by kernel_rfl
theorem am_pl168:Ci Tryz.prog 168=some [(0,1),(1,1),(2,1),(3,1),(4,1)]:=by kernel_rfl
theorem am_ag192:Bi Tryz.prog 192=some true:=by kernel_rfl
theorem am_cl192:Tryz.prog.cellsOf 192=2:=by kernel_rfl
theorem am_ze192:AK Tryz.prog 192=some [.lit (.int .i64 0), .lit (.int .i64 0)]:=by kernel_rfl
theorem am_fi192_0:AX Tryz.prog 192 0=some (0,3):=by kernel_rfl
theorem am_fi192_1:AX Tryz.prog 192 1=some (1,3):=by kernel_rfl
theorem am_pl192:Ci Tryz.prog 192=some [(0,1),(1,1)]:=by kernel_rfl
theorem am_in194:(Tryz.prog.info? 194).isSome=true:=by kernel_rfl
theorem am_ag194:Bi Tryz.prog 194=some true:=by kernel_rfl
theorem am_cl194:Tryz.prog.cellsOf 194=10:=by kernel_rfl
theorem am_by194:Tryz.prog.bytesOf 194=88:=by kernel_rfl
theorem am_ze194:AK Tryz.prog 194=some [.lit (.string ByteArray.empty), .lit (.int .i64 0), .lit (.int .i64 0), .lit (.int .i64 0), .lit (.int .i64 0), .lit (.int .i64 0), .lit (.int .i64 0), .lit (.int .i64 0), .lit (.int .i64 0), .lit (.int .i64 0)]:=by kernel_rfl
theorem am_fi194_0:AX Tryz.prog 194 0=some (0,9):=by kernel_rfl
theorem am_fi194_1:AX Tryz.prog 194 1=some (1,192):=by kernel_rfl
theorem am_fi194_2:AX Tryz.prog 194 2=some (3,56):=by kernel_rfl
theorem am_fi194_3:AX Tryz.prog 194 3=some (6,56):=by kernel_rfl
theorem am_fi194_4:AX Tryz.prog 194 4=some (9,3):=by kernel_rfl
theorem am_pl194:Ci Tryz.prog 194=some [(0,1),(1,2),(3,3),(6,3),(9,1)]:=by kernel_rfl
theorem am_in200:(Tryz.prog.info? 200).isSome=true:=by kernel_rfl
theorem am_ag200:Bi Tryz.prog 200=some false:=by kernel_rfl
theorem am_cl200:Tryz.prog.cellsOf 200=1:=by kernel_rfl
theorem am_ze202:AK Tryz.prog 202=some [.lit (.pointer none), .lit (.slice none 0 0)]:=by kernel_rfl
theorem am_fi202_0:AX Tryz.prog 202 0=some (0,200):=by kernel_rfl
theorem am_fi202_1:AX Tryz.prog 202 1=some (1,107):=by kernel_rfl
theorem am_in205:(Tryz.prog.info? 205).isSome=true:=by kernel_rfl
theorem am_ag205:Bi Tryz.prog 205=some true:=by kernel_rfl
theorem am_cl205:Tryz.prog.cellsOf 205=2:=by kernel_rfl
theorem am_by205:Tryz.prog.bytesOf 205=16:=by kernel_rfl
theorem am_ze205:AK Tryz.prog 205=some [.lit (.int .i64 0), .lit (.int .i64 0)]:=by kernel_rfl
theorem am_fi205_1:AX Tryz.prog 205 1=some (1,3):=by kernel_rfl
theorem am_pl205:Ci Tryz.prog 205=some [(0,1),(1,1)]:=by kernel_rfl
theorem am_ze244:AK Tryz.prog 244=some [.lit (.slice none 0 0)]:=by kernel_rfl
theorem am_fi244_0:AX Tryz.prog 244 0=some (0,90):=by kernel_rfl
theorem am_pl244:Ci Tryz.prog 244=some [(0,1)]:=by kernel_rfl
theorem am_in274:(Tryz.prog.info? 274).isSome=true:=by kernel_rfl
theorem am_ag274:Bi Tryz.prog 274=some true:=by kernel_rfl
theorem am_cl274:Tryz.prog.cellsOf 274=2:=by kernel_rfl
theorem am_by274:Tryz.prog.bytesOf 274=16:=by kernel_rfl
theorem am_el274:A9 Tryz.prog 274=none:=by kernel_rfl
theorem am_ze274:AK Tryz.prog 274=some [.lit (.int .i64 0), .lit (.int .i64 0)]:=by kernel_rfl
theorem am_ar274:E7 Tryz.prog 274=some (2,3):=by kernel_rfl
theorem am_pn274:Ci Tryz.prog 274=none:=by kernel_rfl
theorem am_el277:A9 Tryz.prog 277=some 4:=by kernel_rfl
theorem am_ag280:Bi Tryz.prog 280=some true:=by kernel_rfl
theorem am_cl280:Tryz.prog.cellsOf 280=2:=by kernel_rfl
theorem am_by280:Tryz.prog.bytesOf 280=32:=by kernel_rfl
theorem am_ze280:AK Tryz.prog 280=some [.lit (.slice none 0 0), .lit (.int .i64 0)]:=by kernel_rfl
theorem am_fi280_0:AX Tryz.prog 280 0=some (0,37):=by kernel_rfl
theorem am_fi280_1:AX Tryz.prog 280 1=some (1,3):=by kernel_rfl
theorem am_pl280:Ci Tryz.prog 280=some [(0,1),(1,1)]:=by kernel_rfl
theorem am_mt293:ES Tryz.prog 293=some (.string,some (.int .i64 0)):=by kernel_rfl
theorem am_ag318:Bi Tryz.prog 318=some false:=by kernel_rfl
theorem am_cl318:Tryz.prog.cellsOf 318=1:=by kernel_rfl
theorem am_el318:A9 Tryz.prog 318=some 330:=by kernel_rfl
theorem am_cl326:Tryz.prog.cellsOf 326=2:=by kernel_rfl
theorem am_ze326:AK Tryz.prog 326=some [.lit (.slice none 0 0), .lit (.int .i64 0)]:=by kernel_rfl
theorem am_fi326_0:AX Tryz.prog 326 0=some (0,318):=by kernel_rfl
theorem am_fi326_1:AX Tryz.prog 326 1=some (1,3):=by kernel_rfl
theorem am_pl326:Ci Tryz.prog 326=some [(0,1),(1,1)]:=by kernel_rfl
theorem am_ze328:AK Tryz.prog 328=some [.lit (.slice none 0 0), .lit (.int .i64 0), .lit (.string ByteArray.empty), .lit (.slice none 0 0), .lit (.slice none 0 0), .lit (.int .i64 0), .lit (.int .i64 0), .lit (.int .i64 0), .lit (.slice none 0 0), .lit (.slice none 0 0), .lit (.slice none 0 0), .lit (.slice none 0 0), .lit (.int .i64 0), .lit (.int .i64 0), .lit (.int .i64 0), .lit (.int .i64 0), .lit (.int .i64 0), .lit (.int .i64 0), .lit (.int .i64 0), .lit (.int .i64 0), .lit (.int .i64 0), .lit (.bool false)]:=by kernel_rfl
theorem am_fi328_0:AX Tryz.prog 328 0=some (0,326):=by kernel_rfl
theorem am_fi328_1:AX Tryz.prog 328 1=some (2,47):=by kernel_rfl
theorem am_fi328_2:AX Tryz.prog 328 2=some (21,4):=by kernel_rfl
theorem am_pl328:Ci Tryz.prog 328=some [(0,2),(2,19),(21,1)]:=by kernel_rfl
theorem am_in330:(Tryz.prog.info? 330).isSome=true:=by kernel_rfl
theorem am_ag330:Bi Tryz.prog 330=some true:=by kernel_rfl
theorem am_cl330:Tryz.prog.cellsOf 330=4:=by kernel_rfl
theorem am_by330:Tryz.prog.bytesOf 330=40:=by kernel_rfl
theorem am_ze330:AK Tryz.prog 330=some [.lit (.int .i64 0), .lit (.string ByteArray.empty), .lit (.int .i64 0), .lit (.int .i64 0)]:=by kernel_rfl
theorem am_fi330_0:AX Tryz.prog 330 0=some (0,3):=by kernel_rfl
theorem am_fi330_1:AX Tryz.prog 330 1=some (1,9):=by kernel_rfl
theorem am_pl330:Ci Tryz.prog 330=some [(0,1),(1,1),(2,2)]:=by kernel_rfl
theorem am_ag334:Bi Tryz.prog 334=some false:=by kernel_rfl
theorem am_cl334:Tryz.prog.cellsOf 334=1:=by kernel_rfl
theorem am_ze334:AK Tryz.prog 334=some [.lit (.pointer none)]:=by kernel_rfl
theorem am_in380:(Tryz.prog.info? 380).isSome=true:=by kernel_rfl
theorem am_ag380:Bi Tryz.prog 380=some false:=by kernel_rfl
theorem am_cl380:Tryz.prog.cellsOf 380=1:=by kernel_rfl
theorem am_el380:A9 Tryz.prog 380=some 56:=by kernel_rfl
theorem am_ze380:AK Tryz.prog 380=some [.lit (.slice none 0 0)]:=by kernel_rfl
theorem am_el416:A9 Tryz.prog 416=some 334:=by kernel_rfl
theorem am_el420:A9 Tryz.prog 420=some 423:=by kernel_rfl
theorem am_in423:(Tryz.prog.info? 423).isSome=true:=by kernel_rfl
theorem am_ag423:Bi Tryz.prog 423=some true:=by kernel_rfl
theorem am_cl423:Tryz.prog.cellsOf 423=2:=by kernel_rfl
theorem am_ze423:AK Tryz.prog 423=some [.lit (.int .i64 0), .lit (.int .u8 0)]:=by kernel_rfl
theorem am_fi423_0:AX Tryz.prog 423 0=some (0,3):=by kernel_rfl
theorem am_fi423_1:AX Tryz.prog 423 1=some (1,5):=by kernel_rfl
theorem am_pl423:Ci Tryz.prog 423=some [(0,1),(1,1)]:=by kernel_rfl
theorem am_el459:A9 Tryz.prog 459=some 24:=by kernel_rfl
theorem am_in460:(Tryz.prog.info? 460).isSome=true:=by kernel_rfl
theorem am_ag460:Bi Tryz.prog 460=some true:=by kernel_rfl
theorem am_cl460:Tryz.prog.cellsOf 460=3:=by kernel_rfl
theorem am_el460:A9 Tryz.prog 460=none:=by kernel_rfl
theorem am_ze460:AK Tryz.prog 460=some [.lit (.int .i64 0), .lit (.int .i64 0), .lit (.int .i64 0)]:=by kernel_rfl
theorem am_ar460:E7 Tryz.prog 460=some (3,3):=by kernel_rfl
theorem am_pn460:Ci Tryz.prog 460=none:=by kernel_rfl
theorem am_in537:(Tryz.prog.info? 537).isSome=true:=by kernel_rfl
theorem am_ag537:Bi Tryz.prog 537=some true:=by kernel_rfl
theorem am_cl537:Tryz.prog.cellsOf 537=9:=by kernel_rfl
theorem am_el537:A9 Tryz.prog 537=none:=by kernel_rfl
theorem am_ze537:AK Tryz.prog 537=some [.lit (.int .i64 0), .lit (.int .i64 0), .lit (.int .i64 0), .lit (.int .i64 0), .lit (.int .i64 0), .lit (.int .i64 0), .lit (.int .i64 0), .lit (.int .i64 0), .lit (.int .i64 0)]:=by kernel_rfl
theorem am_ar537:E7 Tryz.prog 537=some (3,460):=by kernel_rfl
theorem am_pn537:Ci Tryz.prog 537=none:=by kernel_rfl
open Go Go.AM
theorem am_un3:Tryz.prog.underlying 3=some (.int .i64):=by kernel_rfl
theorem am_us3:(Tryz.prog.underlying 3).isSome=true:=by kernel_rfl
theorem am_un4:Tryz.prog.underlying 4=some .bool:=by kernel_rfl
theorem am_un5:Tryz.prog.underlying 5=some (.int .u8):=by kernel_rfl
theorem am_us5:(Tryz.prog.underlying 5).isSome=true:=by kernel_rfl
theorem am_un9:Tryz.prog.underlying 9=some .string:=by kernel_rfl
theorem am_eq56:EqT Tryz.prog 56 [(0,3),(1,3),(2,3)]:=⟨⟨_,(by kernel_rfl:Tryz.prog.underlying 56=some (.struct (Tryz.prog.fieldsOf 56))),by kernel_rfl,by kernel_rfl⟩,by kernel_rfl,by kernel_rfl⟩
theorem Qj (a0 b0:Int) (a1 b1:Int) (a2 b2:Int):Qo Tryz.prog [.lit (.int .i64 a0), .lit (.int .i64 a1), .lit (.int .i64 a2)] [.lit (.int .i64 b0), .lit (.int .i64 b1), .lit (.int .i64 b2)] [(0,3),(1,3),(2,3)]=some (decide (a0=b0) && (decide (a1=b1) && (decide (a2=b2) && true))):=by simp [Qo,MF,am_ag3,am_un3]
theorem am_un301:Tryz.prog.underlying 301=some (.int .u64):=by kernel_rfl
theorem am_us301:(Tryz.prog.underlying 301).isSome=true:=by kernel_rfl
end Go.Proofs.YtaololdbooblkaaGreatDoor
namespace Go.AM
section
variable {P:Program} {s:List (Nat × AV)} {b:List (Nat × Obj)} {n t e:Nat} {rs:List ResultVar} {vs cs:List AV} {u v w x:AV} {r ri rj a q:Nat}
theorem res_n:C2 P ⟨s,b,n,t,e⟩ []=some []:=rfl
theorem Db (h:C2 P ⟨s,b,n,t,e⟩ rs=some vs) (h1:Al s q=some v:=by exact rfl):C2 P ⟨s,b,n,t,e⟩ (.tmp q :: rs)=some (v :: vs):=by
 simp only [C2,h,Option.map_some,St.get,h1,Option.getD_some]
theorem Bp {lt c:Nat} {o:Obj} {row:List AV} (cs:List AV) (ha:Bi P lt=some true) (hcl:P.cellsOf lt=c) (h:C2 P ⟨s,b,n,t,e⟩ rs=some vs) (h1:Al s a=some (.adr r ri rj):=by exact rfl) (ho:Al b r=some o:=by exact rfl) (hr:o.rows[ri]?= some row:=by exact rfl) (hb:Nat.ble c (row.drop rj).length=true:=by exact rfl) (hc:(row.drop rj).take c=cs:=by exact rfl):C2 P ⟨s,b,n,t,e⟩ (.cell a lt :: rs)=some (.agg cs :: vs):=by
 have e1:St.get ⟨s,b,n,t,e⟩ a= .adr r ri rj:=by simp only [St.get,h1,Option.getD_some]
 have e2:EI P ⟨s,b,n,t,e⟩ lt (.adr r ri rj)=some (.agg cs):=by
  subst hc;simp only [EI,ha,GI ho hr rfl,hcl,hb,cond_true]
 simp only [C2,e1,e2,h]
theorem Hy {lt:Nat} {o:Obj} {row:List AV} (ha:Bi P lt=some false) (h:C2 P ⟨s,b,n,t,e⟩ rs=some vs) (h1:Al s a=some (.adr r ri rj):=by exact rfl) (ho:Al b r=some o:=by exact rfl) (hr:o.rows[ri]?= some row:=by exact rfl) (hc:row[rj]?= some v:=by exact rfl):C2 P ⟨s,b,n,t,e⟩ (.cell a lt :: rs)=some (v :: vs):=by
 have e1:St.get ⟨s,b,n,t,e⟩ a= .adr r ri rj:=by simp only [St.get,h1,Option.getD_some]
 have e2:EI P ⟨s,b,n,t,e⟩ lt (.adr r ri rj)=some v:=by
  simp only [EI,ha,GI ho hr (G8 hc)]
 simp only [C2,e1,e2,h]
variable {Post:AV→List (Nat × Obj)→Prop}
theorem B1 (hr:C2 P ⟨s,b,n,t,e⟩ rs=some [v]) (h:Post v []) (hc:closedAV v=true:=by exact rfl):Fg P rs Post .ret ⟨s,b,n,t,e⟩:=H7 hr hc h
theorem D1 (hr:C2 P ⟨s,b,n,t,e⟩ rs=some [u,v]) (h:Post (.tup [u,v]) []) (hc:closedL [u,v]=true:=by exact rfl):Fg P rs Post .ret ⟨s,b,n,t,e⟩:=H7 hr (by simpa [packAV,closedAV] using hc) h
theorem Df (hr:C2 P ⟨s,b,n,t,e⟩ rs=some [u,v,w]) (h:Post (.tup [u,v,w]) []) (hc:closedL [u,v,w]=true:=by exact rfl):Fg P rs Post .ret ⟨s,b,n,t,e⟩:=H7 hr (by simpa [packAV,closedAV] using hc) h
variable {ops:Array Oper} {rest:List Oper} {Q:St→Prop} {d ty:Nat} {pos:String} {aft:Array Edge} {g:Option (Nat × Bool)} {y z:Operand} {k k':IntKind}
theorem S.mk {st el c by' m:Nat} {zs:List AV} (hel:A9 P st=some el) (hz:AK P el=some zs) (hcl:P.cellsOf el=c) (hby:P.bytesOf el=by') (h:SeqL P ops rest ⟨(d, .als n 0 m) :: s,(n,⟨true,el,c,List.replicate m zs,true⟩) :: b,n+1,t,e⟩ Q)
 (hx:AJ s y=some (.lit (.int k (m:Int))):=by exact rfl) (hy:AJ s z=some (.lit (.int k' (m:Int))):=by exact rfl) (hm:m≤1000000:=by omega) (hmb:m * by'≤100000000:=by omega) (hmc:m * c≤2 ^ 24:=by omega) (hzc:(Nat.beq zs.length c && !Nat.beq c 0)=true:=by exact rfl)
 (hg:AL (AU ops) ⟨s,b,n,t,e⟩ g=some true:=by exact rfl) (hd:Nat.blt d t=true:=by exact rfl) :
 SeqL P ops (⟨some d, .makeSlice st y z,ty,pos,aft,g⟩ :: rest) ⟨s,b,n,t,e⟩ Q:=by
 subst hcl;simp only [Bool.and_eq_true,Nat.beq_eq,Bool.not_eq_true'] at hzc
 have hl:Local P ⟨s,b,n,t,e⟩ ⟨some d, .makeSlice st y z,ty,pos,aft,g⟩ (.als n 0 m) [(n,⟨true,el,P.cellsOf el,List.replicate m zs,true⟩)] :=
  Local.makeSlice rfl hel hz hzc.1 (Dg hzc.2) hby (AB hx) (AB hy) hm hmb hmc
 have hw:Writer P ⟨s,b,n,t,e⟩ ⟨some d, .makeSlice st y z,ty,pos,aft,g⟩ ((⟨s,b,n,t,e⟩:St).ext (some d) (.als n 0 m) [(n,⟨true,el,P.cellsOf el,List.replicate m zs,true⟩)] (n+1)):=by
  refine Writer.of_local hl (fun d' e=>?_) (fun r o h=>?_) (Nat.le_succ _)
  ·simp only [Option.some.injEq] at e;subst e;exact Nat.le_of_ble_eq_true hd
  rw [A8] at h
  split at h
  ·show n≤r∧r < n+1;omega
  simp [Al] at h
 exact SeqL.write hg hw h
theorem Ih {T:Type} {f:T→List AV} (z0:T) {st el c by' m:Nat} {zs:List AV} (hel:A9 P st=some el) (hz:AK P el=some zs) (hcl:P.cellsOf el=c) (hby:P.bytesOf el=by') (h:SeqL P ops rest ⟨(d, .als n 0 (List.replicate m z0).length) :: s,(n,⟨true,el,c,(List.replicate m z0).map f,true⟩) :: b,n+1,t,e⟩ Q)
 (hx:AJ s y=some (.lit (.int k (m:Int))):=by exact rfl) (hy:AJ s z=some (.lit (.int k' (m:Int))):=by exact rfl) (hf:f z0=zs:=by exact rfl) (hm:m≤1000000:=by first | omega | decide) (hmb:m * by'≤100000000:=by first | omega | decide) (hmc:m * c≤2 ^ 24:=by first | omega | decide) (hzc:(Nat.beq zs.length c && !Nat.beq c 0)=true:=by exact rfl)
 (hg:AL (AU ops) ⟨s,b,n,t,e⟩ g=some true:=by exact rfl) (hd:Nat.blt d t=true:=by exact rfl) :
 SeqL P ops (⟨some d, .makeSlice st y z,ty,pos,aft,g⟩ :: rest) ⟨s,b,n,t,e⟩ Q:=by
 subst hf;refine S.mk hel hz hcl hby ?_ hx hy hm hmb hmc hzc hg hd
 rwa [List.map_replicate,List.length_replicate] at h
theorem Wl {P:Program} {st:TypeId} (A:Option Addr) (m c:Nat) (w:World) (x y:Operand):Sem.run P (eqGuard .eql st x y (.slice A m c) (.slice none 0 0)) w= .ok () w:=by simp [eqGuard]
theorem Wm {P:Program} {st el:TypeId} (hu:P.underlying st=some (.slice el)) (A:Option Addr) (m c:Nat) (w:World) :
 Sem.run P (binOp .eql st (.slice A m c) (.slice none 0 0)) w= .ok (.bool A.isNone) w:=by
 have h0:∀ q,(Op.equalIn (q+1) st (.slice A m c) (.slice none 0 0)).run P w= .ok A.isNone w:=by
  intro q
  cases A <;> simp [Op.equalIn,run_underlying hu]
 have h:=h0 9999;simp only [Nat.reduceAdd] at h;simp only [Sem.run_bind,Result.andThen_ok,binOp,Op.equal,Op.maxDepth,h,Sem.run_pure]
theorem Vh {x:Operand} {st el sz bt:Nat} {rows:List (List AV)} (hel:A9 P st=some el) (h:∀ c:Bool,(c=true→rows=[])→SeqL P ops rest ⟨(d, .lit (.bool c)) :: s,b,n,t,e⟩ Q)
 (hx:AJ s x=some (.sh sz rows):=by exact rfl) (hg:AL (AU ops) ⟨s,b,n,t,e⟩ g=some true:=by exact rfl) (hd:Nat.blt d t=true:=by exact rfl) :
 SeqL P ops (⟨some d, .binOp .eql st x (.const (.slice none 0 0)) bt,ty,pos,aft,g⟩ :: rest) ⟨s,b,n,t,e⟩ Q:=by
 intro C E X a hr Q' hq;have hg':AL (AU ops) ⟨s,b,n,t,e⟩ (⟨some d, .binOp .eql st x (.const (.slice none 0 0)) bt,ty,pos,aft,g⟩:Oper).guard=some true:=hg;simp only [CW,hr.guard hg',if_true];have hv:=hr.ev x;rw [AB hx] at hv;simp only [FV] at hv;obtain ⟨A,cc,xs,hA,hle,hfr,hne⟩:=hv
 have hrun:(execOp a.eval ⟨some d, .binOp .eql st x (.const (.slice none 0 0)) bt,ty,pos,aft,g⟩).run P E.w= .ok (.value (.bool A.isNone)) E.w:=by
  unfold execOp
  have h1:=Wl (P:=P) (st:=st) A rows.length cc E.w x (.const (.slice none 0 0));have h2:=Wm (BL hel) A rows.length cc E.w;have e2:a.eval (.const (.slice none 0 0))= .slice none 0 0:=rfl;simp only [hA,e2,Sem.run_bind,h1,h2,Result.andThen_ok,Sem.run_pure]
 refine Ie hrun ?_
 have hc:A.isNone=true→rows=[]:=by
  intro h0
  rcases rows with _ | ⟨r,rows⟩
  ·rfl
  obtain ⟨a0,ha0,_⟩:=hne (by simp);rw [ha0] at h0;cases h0
 exact h A.isNone hc C E X _ (hr.put (some d) (v:= .lit (.bool A.isNone)) (fun d' hd'=>by simp only [Option.some.injEq] at hd';subst hd';exact Nat.le_of_ble_eq_true hd) (by simp [FV])) Q' hq
theorem H4 {q r m:Nat} {slc:Bool} {el sz:Nat} {rows:List (List AV)} (h:Post (.als 0 0 m) [(0,⟨slc,el,sz,rows,true⟩)]) (h1:Al s q=some (.als r 0 m):=by exact rfl) (ho:Al b r=some ⟨slc,el,sz,rows,true⟩:=by exact rfl) :
 Fg P [.tmp q] Post .ret ⟨s,b,n,t,e⟩:=by
 refine ⟨[r],by simp,?_⟩;simp only [Jq,C2,St.get,h1,Option.getD_some,Option.map_some,packAV,BX,BG,ho,Option.bind_some,Cz,pos,if_true,Nat.beq_refl,cond_true];exact h
end
end Go.AM
namespace Go.AM
theorem OX {P:Program} {t:TypeId} {b:Bool} (h:Bi P t=some b):Br P (isAgg t)=some b:=by
 unfold Bi at h
 cases hu:P.underlying t with
 |none=>simp [hu] at h
 |some d =>
  simp only [hu,Option.map_some,Option.some.injEq] at h;subst h;simp only [isAgg,Bb,BJ hu,Option.bind_some]
  cases d <;> rfl
theorem NM {P:Program} {t:TypeId} {c:Nat} (h:P.cellsOf t=c) (hc:c≠0):Br P (sizeOf t)=some c:=by
 cases hi:P.info? t with
 |none=>simp [Program.cellsOf,hi] at h;omega
 |some i =>
  have:=B8 hi;have hp:Br P program=some P:=rfl;simp only [sizeOf,typeInfo,Bb,hp,Option.bind_some,hi,Bj];rw [← h,this]
section rules
variable {P:Program} {s:List (Nat × AV)} {b:List (Nat × Obj)} {n t e id:Nat} {x y:Operand} {k:IntKind} {i:Int}
theorem Hx {st el len:Nat} {cs:List AV} {xs:List Value} {v:Value} (har:E7 P st=some (len,el)) (hag:Bi P el=some false) (hcl:P.cellsOf el=1) (hx:AJ s x=some (.agg cs):=by exact rfl) (hy:AJ s y=some (.lit (.int k i)):=by exact rfl) (hxs:toVals cs=some xs:=by exact rfl)
 (h0:0≤i∧i < (len:Int):=by first | decide | omega) (hv:xs[i.toNat]?= some v:=by exact rfl):At P ⟨s,b,n,t,e⟩ id (.index st x y)=some (.lit v,[]):=by
 have hu:=KT har;have ha:Br P (asIntOf (.int k i))=some (k,i):=rfl
 have:S9 P st (.agg xs.toArray) (.int k i)=some v:=by
  simp only [S9,Instr.index,Bb,ha,Option.bind_some,BJ hu,h0,and_self,if_true,NM hcl (by decide),part,OX hag,Nat.mul_one,List.getElem?_toArray,hv,Bool.false_eq_true,if_false,Bj]
 simp only [At,AB hx,AB hy,toVal,hxs,Option.map_some,this,C0]
theorem Wk.forget {b:List (Nat × Obj)} (ds:List Nat):Wk ⟨s,b,n,t,e⟩ ⟨I9 ds s,b,n,t,e⟩ :=
 Wk.sub (fun j v hv=>by
  simp only [Fi] at hv
  split at hv
  ·cases hv
  ·exact hv) (fun _ _ h=>h) (Nat.le_refl _) rfl rfl
theorem V0 {b:List (Nat × Obj)} {rs:List ResultVar} {Post:AV→List (Nat × Obj)→Prop} {vs:List AV} {v:AV} {objs:List (Nat × Obj)} (ks:List Nat) (hr:C2 P ⟨s,b,n,t,e⟩ rs=some vs) (h:Post v objs) (hv:BX (pos ks 0) (packAV vs)=some v:=by exact rfl) (ho:BG ⟨s,b,n,t,e⟩ (pos ks 0) 0 ks=some objs:=by exact rfl) (hnd:ks.Nodup:=by decide) :
 Fg P rs Post .ret ⟨s,b,n,t,e⟩:=⟨ks,hnd,by simp only [Jq,hr,hv,ho];exact h⟩
theorem XR {b:List (Nat × Obj)} {ops:Array Oper} {rest:List Oper} {Q:St→Prop} {d ty:Nat} {pos':String} {aft:Array Edge} {g:Option (Nat × Bool)} {as_:Array Operand} {ts:Array TypeId} {f:FuncId} {first caps:List AV} {vs:List AV} {o:Obj} {v v':AV} (hc:calleeOf (St.ev ⟨s,b,n,t,e⟩ x)=some (f,first,caps):=by exact rfl) (hv:C7 ⟨s,b,n,t,e⟩ (first ++ (as_.toList.map (St.ev ⟨s,b,n,t,e⟩) ++ caps))=some vs:=by exact rfl) (hF:Fun P f vs (AI v [(0,o)])) (hl:Fl n v=some v':=by exact rfl)
 (hm:closedL (first ++ (as_.toList.map (St.ev ⟨s,b,n,t,e⟩) ++ caps))=true:=by exact rfl) (ho:o.cl=true:=by exact rfl)
 (hg:AL (AU ops) ⟨s,b,n,t,e⟩ g=some true:=by exact rfl) (hd:Nat.blt d t=true:=by exact rfl) (h:SeqL P ops rest ⟨(d,v') :: s,(n,o) :: b,n+1,t,e⟩ Q) :
 SeqL P ops (⟨some d, .call { callee:= .value x,args:=as_,argTypes:=ts },ty,pos',aft,g⟩ :: rest) ⟨s,b,n,t,e⟩ Q:=by
 refine SeqL.call hg rfl hc hv hF (.inl hm) (fun d' h'=>by cases h';exact Nat.le_of_ble_eq_true hd) ?_;rintro u l ⟨rfl,rfl⟩;refine ⟨v',[(n,o)],n+1,hl,?_,fun r ob h=>S7 h,Nat.le_succ _,h⟩;simp only [Di,Cz,ho,Nat.zero_add]
end rules
end Go.AM
namespace Go.AM
section rules
variable {P:Program} {s:List (Nat × AV)} {b:List (Nat × Obj)} {n t e id ty d:Nat} {x y:Operand}
end rules
end Go.AM
