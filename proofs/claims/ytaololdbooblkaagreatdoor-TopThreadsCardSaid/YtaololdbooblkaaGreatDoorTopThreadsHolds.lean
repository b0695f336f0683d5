/-
  The statement TopThreads: for every input the law returns true and its arguments read as before.
  Conditions: none.
-/
import Derived.Test.YtaololdbooblkaaGreatDoorX31
import Derived.Test.YtaololdbooblkaaGreatDoorTie
import Derived.Test.YtaololdbooblkaaGreatDoorCards
import Derived.SevenTiedAt
import Derived.LaidMore
import Derived.Lay
namespace Go.Proofs.YtaololdbooblkaaGreatDoor
open Go Go.AM
set_option linter.unusedSimpArgs false
set_option linter.unusedVariables false
set_option maxRecDepth 100000
open Go.ChangeShapes Go.WideShapes Go.RowKit
theorem topThreads_hL (W:World) (h:laidMetH Tryz.prog Rows.topThreadsRow.laid W):LaidOK W (fun b=>b < W.heap.size) :=
 Ri rfl (Um h (name:= "internal/strconv.uint64pow10") (k:= .u64) (zs:=Go.Lib.pow10Tab) (g:=1) (t:=498) (e:=407) (n:=20) (by kernel_rfl) (by kernel_rfl) (by kernel_rfl) (by kernel_rfl) (by kernel_rfl) (by kernel_rfl) (by kernel_rfl))
theorem topThreads_lifted (os:Os) (started:os.Started) (H:Type) (enc:TypeId × Value→H) :
 ReturnsInHanded {} Tryz.checked os 3 .any (fun w args=>(Rows.topThreadsSpec.pre enc Tryz.prog Tryz.f3 [] false w args∧laidMetH Tryz.prog Rows.topThreadsRow.laid w)∧sizedMet enc Tryz.prog Tryz.f3 (OpenSpec.ofChange Rows.topThreadsSpec) false w args) (Rows.topThreadsSpec.post enc Tryz.prog Tryz.f3 false true false false):=by
 refine LB (C:=Tryz.checked) (s:=Rows.topThreadsSpec) (ts:=[22,23,24,24]) (tb:=4) (laid:=Rows.topThreadsRow.laid) am_own started (by kernel_rfl) Tryz.func3
  (ChangeSpec.witness_shaped (enc:=enc) (C:=Tryz.checked) (os:=os) (X:=fun w _=>laidMetH Tryz.prog Rows.topThreadsRow.laid w) false (World.laidAll Tryz.prog os Rows.topThreadsRow.laid) #[.slice none 0 0, .slice none 0 0, .slice none 0 0, .slice none 0 0] 8 (World.laidAll_os _ _ _) (World.shaped_of_ZipB (by kernel_rfl) (by kernel_rfl)) (by kernel_rfl) (by kernel_rfl) (by kernel_rfl) (by rw [MakeChecks.laidMetH_plain _ _ _ (by kernel_rfl)];exact laidMet_laidAll _ (by kernel_rfl) (by kernel_rfl)))
  am_laid rfl rfl (by kernel_rfl) rfl (by kernel_rfl) (by kernel_rfl) ?_ ?_ topThreads_hL
 ·intro ds h
  match ds,h with
  |[d0,d1,d2,d3],_=>rfl
 ·intro avs h0;have h:WTA Tryz.prog [22,23,24,24] avs:=h0;clear h0
  show Fun Tryz.prog 3 avs _
  obtain ⟨r0,l0,rfl,k0,h⟩:=h.cons_inv;obtain ⟨r1,l1,rfl,k1,h⟩:=h.cons_inv;obtain ⟨r2,l2,rfl,k2,h⟩:=h.cons_inv;obtain ⟨r3,l3,rfl,k3,h⟩:=h.cons_inv;obtain rfl:=h.nil_inv;obtain ⟨v0,rfl,hl0,hw0⟩:=SZ k0;obtain ⟨v1,rfl,hl1,hw1⟩:=Ta k1;obtain ⟨v2,rfl,hl2⟩:=JX k2;obtain ⟨v3,rfl,hl3⟩:=JX k3;rw [Im am_ag22,Im am_ag23,Im am_ag24,Im am_ag24];exact Wu v0 v1 v2 v3 hl0 hw0 hl1 hw1 hl2 hl3
theorem topThreads_holds:Rows.TopThreadsSaid :=
 OpenClaim.holds_of_wide 3 Tryz.f3 rfl rfl rfl rfl rfl rfl rfl ⟨rfl,rfl,rfl,rfl,rfl⟩ rfl rfl rfl rfl rfl (by kernel_rfl) Tryz.func3 (topThreads_closed)
  (of_decide_eq_true (by kernel_rfl)) (by unfold Func.isWrapper;first | (rw [if_pos (by decide +kernel)];kernel_rfl) | (rw [if_neg (by decide +kernel)];exact ⟨rfl,rfl⟩))
  (fun os started H enc _=>topThreads_lifted os started H enc)
theorem topThreadsCard_holds:Rows.TopThreadsCardSaid :=
 Claim7.holds_tied_plain_at .later [] [.data, .data, .data, .data, .sentinel, .sentinel, .pinned] true (true, "8d2e836cd85ae474d6f3205636518d0362701c3c25e5ab30ace773b9020b3473") true
  topThreads_holds (fun _ h=>by cases h) (by kernel_rfl) (fun _ h=>by cases h) topThreads_row_tie rfl ⟨rfl,rfl⟩ (by kernel_rfl) rfl
  (fun f fn hf hfn=>by
    obtain rfl:f=3:=Option.some.inj ((show Tryz.prog.funcNamed "stirrup/stirruptop.TopThreads"=some 3 by kernel_rfl).symm.trans hf) |>.symm
    obtain rfl:fn=Tryz.f3:=(Option.some.inj (Tryz.func3.symm.trans hfn)).symm
    exact ⟨by kernel_rfl,fun j t ht=>by
     rw [show Tryz.f3.params= #[22,23,24,24] by kernel_rfl] at ht
     have hm:t ∈ [22,23,24,24]:=by simpa using Array.mem_of_getElem? ht
     have hall:([22,23,24,24].all fun u=> !Tryz.prog.wantsStandIn u)=true:=by kernel_rfl
     exact (show Tryz.prog.wantsStandIn t=false by simpa using List.all_eq_true.1 hall t hm)⟩)
  (PM goes_all _)
#print axioms topThreadsCard_holds
end Go.Proofs.YtaololdbooblkaaGreatDoor
