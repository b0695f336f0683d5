/-
  Part 24 of the proof: functions walked on the abstract machine.
  Conditions: none.
-/
import Derived.Test.YtaololdbooblkaaGreatDoorX23
set_option linter.unusedSimpArgs false
set_option linter.unusedVariables false
set_option maxRecDepth 100000
set_option maxHeartbeats 1000000
namespace Go.Proofs.YtaololdbooblkaaGreatDoor
open Go Go.AM
def six:List Int:=[1,2,3, -1, -2, -3]
def DJ (b:Bx) (a:Int):Bx :=
 if a=1 then { b with lx:= -1048576 } else if a=2 then { b with ly:= -1048576 } else if a=3 then { b with lz:= -1048576 }
 else if a= -1 then { b with hx:=1048576 } else if a= -2 then { b with hy:=1048576 } else { b with hz:=1048576 }
theorem Ty {a:Int} (h:a ∈ six):a=1∨a=2∨a=3∨a= -1∨a= -2∨a= -3:=by
 simpa only [six,List.mem_cons,List.not_mem_nil,or_false] using h
theorem Wx {b:Bx} {a:Int} (h:Cg b):Cg (DJ b a):=by
 obtain ⟨x1,y1,z1,x2,y2,z2⟩:=b
 unfold DJ Cg at *
 dsimp only at h
 repeat' split
 all_goals (dsimp only;omega)
abbrev Rod:=List Bx × Int
def rodC:Rod→List AV
 |(l,s)=>[.sh 6 (l.map Bx.c),iL s]
def Iv (r:Rod):Prop:=(∀ b ∈ r.1,Cg b)∧r.1.length≤6∧6≤r.2∧r.2≤40
def ET (d e:Int):Int:=(d+e) * (d+e)
theorem Qu {d e:Int} (hd:6≤d∧d≤40) (he:6≤e∧e≤40):0≤ET d e∧ET d e≤6400:=by
 have h1:=CR (a:=d+e) (b:=d+e) (A:=80) (B:=80) (by omega) (by omega);have h2:=Int.mul_nonneg (show 0≤d+e by omega) (show 0≤d+e by omega)
 unfold ET
 omega
def HF (i k:Rod) (a:Int):Prop:=∃ w ∈ i.1,∃ l ∈ k.1,4 * Ex (DJ w a) l < ET i.2 k.2
instance (i k a):Decidable (HF i k a):=by unfold HF;infer_instance
def NR (bars:List Bar) (runs:List Rn) (i:Nat):Bar:=Cy bars (((DU runs)[i]?).getD [])
def BS (bars:List Bar) (runs:List Rn) (i:Nat):Rod:=(BP (((CZ bars runs)[i]?).getD []),(NR bars runs i).size)
def Gt (bars:List Bar) (runs:List Rn):List Rod:=(List.range (AR runs).toNat).map (BS bars runs)
theorem Ld {bars:List Bar} {runs:List Rn} (h:BV bars runs) {mk:List UInt8} (hm:mk ∈ DU runs):0≤CE bars mk:=by
 obtain ⟨r,hr,hp⟩:=List.mem_flatMap.1 hm;rw [(List.mem_replicate.1 hp).2];exact (h.2.2.1 r hr).1
theorem Eg {bars:List Bar} {runs:List Rn} (h:BV bars runs) {i:Nat} (hi:(i:Int) < AR runs):Iv (BS bars runs i)∧1≤(BS bars runs i).1.length:=by
 have hn1:∀ r ∈ runs,1≤r.n:=fun r hr=>(h.2.2.1 r hr).2.2.1.1;have h1:=F4 (bars:=bars) hn1;have h2:=marksL_len hn1;obtain ⟨p,hp⟩:∃ p,(CZ bars runs)[i]?= some p:=⟨_,List.getElem?_eq_getElem (by omega)⟩;obtain ⟨mk,hm⟩:∃ p,(DU runs)[i]?= some p:=⟨_,List.getElem?_eq_getElem (by omega)⟩;have hpm:=List.mem_of_getElem? hp;have hl:=OV hpm;have hl2:=OW h hpm;have hs:=Q5 (h.1.2.1 _ (G1 (Ld h (List.mem_of_getElem? hm)))).2.1
 unfold BS Iv NR
 rw [hp,hm];dsimp only [Option.getD_some];rw [SL];exact ⟨⟨Up (Qz h hpm),by omega,hs⟩,by omega⟩
theorem Iw {bars:List Bar} {runs:List Rn}:(Gt bars runs).length=(AR runs).toNat:=by simp [Gt]
theorem Jr {bars:List Bar} {runs:List Rn} {i:Nat} (hi:(i:Int) < AR runs):(Gt bars runs)[i]?= some (BS bars runs i):=by
 have:i < (AR runs).toNat:=by omega
 simp [Gt,this]
def Ep (bars:List Bar) (runs:List Rn) (i k a:Int):Prop:=HF (BS bars runs i.toNat) (BS bars runs k.toNat) a
instance (bars runs i k a):Decidable (Ep bars runs i k a):=by unfold Ep;infer_instance
def EQ (bars:List Bar) (runs:List Rn) (i a:Int) (l:List Int):List Int:=l.filter fun k=>decide (Ep bars runs i k a)
theorem In (bars:List Bar) (runs:List Rn) (i a:Int) (l:List Int) (s:Int):EQ bars runs i a (l ++ [s])=if Ep bars runs i s a then EQ bars runs i a l ++ [s] else EQ bars runs i a l:=by
 unfold EQ
 rw [List.filter_append,List.filter_cons]
 by_cases h:Ep bars runs i s a <;> simp [h]
theorem TX (bars:List Bar) (runs:List Rn) (i a:Int) (l:List Int):(EQ bars runs i a l).length≤l.length:=List.length_filter_le _ _
def Em (bars:List Bar) (runs:List Rn) (i:Int) (l:List Int) (q:List Int):List Int:=q.filter fun a=>decide ((EQ bars runs i a l).length=0)
theorem H3 (bars:List Bar) (runs:List Rn) (i:Int) (l q:List Int) (s:Int):Em bars runs i l (q ++ [s])=if (EQ bars runs i s l).length=0 then Em bars runs i l q ++ [s] else Em bars runs i l q:=by
 unfold Em
 rw [List.filter_append,List.filter_cons]
 by_cases h:(EQ bars runs i s l).length=0 <;> simp [h]
theorem N4 (bars:List Bar) (runs:List Rn) (i:Int) (l q:List Int):(Em bars runs i l q).length≤q.length:=List.length_filter_le _ _
def G6 (n i:Int) (l:List Int):Prop:=(∀ k ∈ l,0≤k∧k < n∧k≠i)∧l.Nodup
def EX (n:Nat) (l:List Int):List Bool:=(List.range n).map fun (j:Nat)=>decide ((j:Int) ∈ l)
theorem UU {n:Nat} {l:List Int} {k:Int} (h0:0≤k) (h:k < n):(EX n l)[k.toNat]?= some (decide (k ∈ l)):=by
 obtain ⟨m,rfl⟩:∃ m:Nat,k=m:=⟨k.toNat,by omega⟩
 have:m < n:=by omega
 simp [EX,this]
theorem Tv (n:Nat) (l:List Int):(EX n l).length=n:=by simp [EX]
theorem N0 {n:Nat} {l:List Int} {k:Int} (h0:0≤k) (h:k < n):(EX n l).set k.toNat true=EX n (l ++ [k]):=by
 obtain ⟨m,rfl⟩:∃ m:Nat,k=m:=⟨k.toNat,by omega⟩;rw [Int.toNat_natCast]
 apply List.ext_getElem?
 intro j;rw [List.getElem?_set]
 unfold EX
 rw [List.length_map,List.length_range]
 by_cases e:m=j
 ·subst e
  have:m < n:=by omega
  simp [this]
 rw [if_neg e]
 by_cases hj:j < n
 ·simp only [List.getElem?_map,List.getElem?_range hj,Option.map_some,Option.some.injEq,decide_eq_decide,List.mem_append,List.mem_singleton];exact ⟨.inl,fun h=>h.elim id fun h=>absurd (by omega) e⟩
 rw [List.getElem?_eq_none (by simp;omega),List.getElem?_eq_none (by simp;omega)]
theorem Tw (n:Nat):List.replicate n false=EX n []:=by
 apply List.ext_getElem?
 intro j
 unfold EX
 rw [List.getElem?_replicate]
 by_cases hj:j < n
 ·simp [hj]
 simp [hj]
def Om (b:Bool):List AV:=[bL b]
theorem axes_fun:Fun Tryz.prog 159 [] (AI (.sh 1 (six.map AD)) []):=by
 refine Fun.of (nt:=2) (rs:=[.tmp 0]) Tryz.func159 rfl rfl rfl rfl rfl (Ab fun _ z=>Y Ad (Ac z (Ab fun _ z=>Aq (Bf [[_],[_],[_],[_],[_],[_]] true am_el24 am_ze3 am_cl3) (Y Ad (Ac z (Av (Wk.frzl (f:=AD) [_,_,_,_,_,_] 0 []) (Ai (Ap ?_))))))));rfl
theorem L9 (n:Int):Fun Tryz.prog 169 [iL n] (AI (bL (decide (n ∈ six))) []):=by
 refine Fun.of (nt:=6) (rs:=[.tmp 2]) Tryz.func169 rfl rfl rfl rfl rfl (Ab fun _ z=>Y Ad (Ac z (Ab fun _ z=>Ay (hF:=axes_fun) (h:=Y Aa (Ay (hF:=HJ six n (by decide)) (h:=Y Ad (Ac z (Ai (Ap ?_)))))))));rfl
theorem Pw (a b c d e f x:Int) (k:Nat) (hk:max x (-x) - 1=(k:Int)) (hx: -3≤x∧x≤3∧x≠0):FunR Tryz.prog 471 [.adr 0 0 0, .sadr [iL x] 0] [(0,⟨false,58,6,[[iL a,iL b,iL c,iL d,iL e,iL f]],true⟩)] 1 (AI (.adr 0 0 (0+k)) [(0,⟨false,58,6,[[iL a,iL b,iL c,iL d,iL e,iL f]],true⟩)]):=by
 have hk3:k=0∨k=1∨k=2:=by omega
 have hrow:([[.adr 0 0 0],[.adr 0 0 1],[.adr 0 0 2]]:List (List AV))[k]?= some [.adr 0 0 (0+k)]:=by rcases hk3 with rfl | rfl | rfl <;> rfl
 refine FunR.of (nt:=21) (rs:=[.tmp 3]) Tryz.func471 rfl rfl rfl rfl rfl (Ab fun _ z=>Y Ad (Ac z (BW (tbs [(0,0),(1,1),(2,3),(0,0),(4,8),(5,24),(0,0),(7,64),(8,192),(9,511),(0,0),(0,0),(12,2048),(13,7168),(14,15360),(15,32767),(16,65535),(17,131071)]) 17 fun _ z=>Ak Aa (Ak AP (Ak (An 0 am_fi56_0 am_cl3) (Ak Aa (Ak AP (Ak (An 1 am_fi56_1 am_cl3) (Ak Aa (Ak AP (Ak (An 2 am_fi56_2 am_cl3) (FQ [_] (Bf [[_],[_],[_]] false am_el416 am_ze334 am_cl334) (h:=Ak (AO am_ag3) (Ak (AO am_ag3) (Ak F5 (Ak DE (Ak BK (QH (BT am_el416 am_cl334) (QH (Ao (row:=[.adr 0 0 (0+k)]) am_ag334 (hr:=(by rw [show (max x (0 - x) - 1).toNat=k by omega];exact hrow))) (B3 [_,_] (h:=Y Ad (Ac z (Ai (D9 [0] (B5 (h:=BZ)) leads1 (⟨?_,?_⟩)))))))))))))))))))))))));all_goals rfl
theorem Px (a b c d e f x:Int) (k:Nat) (hk:max x (-x) - 1=(k:Int)) (hx: -3≤x∧x≤3∧x≠0):FunR Tryz.prog 471 [.adr 0 0 3, .sadr [iL x] 0] [(0,⟨false,58,6,[[iL a,iL b,iL c,iL d,iL e,iL f]],true⟩)] 1 (AI (.adr 0 0 (3+k)) [(0,⟨false,58,6,[[iL a,iL b,iL c,iL d,iL e,iL f]],true⟩)]):=by
 have hk3:k=0∨k=1∨k=2:=by omega
 have hrow:([[.adr 0 0 3],[.adr 0 0 4],[.adr 0 0 5]]:List (List AV))[k]?= some [.adr 0 0 (3+k)]:=by rcases hk3 with rfl | rfl | rfl <;> rfl
 refine FunR.of (nt:=21) (rs:=[.tmp 3]) Tryz.func471 rfl rfl rfl rfl rfl (Ab fun _ z=>Y Ad (Ac z (BW (tbs [(0,0),(1,1),(2,3),(0,0),(4,8),(5,24),(0,0),(7,64),(8,192),(9,511),(0,0),(0,0),(12,2048),(13,7168),(14,15360),(15,32767),(16,65535),(17,131071)]) 17 fun _ z=>Ak Aa (Ak AP (Ak (An 3 am_fi56_0 am_cl3) (Ak Aa (Ak AP (Ak (An 4 am_fi56_1 am_cl3) (Ak Aa (Ak AP (Ak (An 5 am_fi56_2 am_cl3) (FQ [_] (Bf [[_],[_],[_]] false am_el416 am_ze334 am_cl334) (h:=Ak (AO am_ag3) (Ak (AO am_ag3) (Ak F5 (Ak DE (Ak BK (QH (BT am_el416 am_cl334) (QH (Ao (row:=[.adr 0 0 (3+k)]) am_ag334 (hr:=(by rw [show (max x (0 - x) - 1).toNat=k by omega];exact hrow))) (B3 [_,_] (h:=Y Ad (Ac z (Ai (D9 [0] (B5 (h:=BZ)) leads1 (⟨?_,?_⟩)))))))))))))))))))))))));all_goals rfl
theorem XD (b:Bx):Fun Tryz.prog 439 [.agg b.c,iL (1)] (AI (.agg (DJ b (1)).c) []):=by
 obtain ⟨x1,y1,z1,x2,y2,z2⟩:=b;refine Fun.of (nt:=18) (rs:=[.cell 4 58]) Tryz.func439 rfl rfl rfl rfl rfl (Ab fun _ z=>Aq (Bo _ true) (Aq (Bo _ true) (Aq (AT am_ze58) (Ac z (Av (Wk.frzv 3 [_,_]) (Ab fun _ z=>Y EE (Y Ad (Ac z (Aj (Ab fun _ z=>Y (AO am_ag3) (Y Be (Ac z (Az (fun c1=>?_) (fun c1=>?_))))))))))))))
 ·refine Ah fun _ z=>Y Aa (Y (An 0 am_fi58_0 am_cl56) (Cs [0] _ [_,_] (hob:=(Ag)) (hF:=Pw x1 y1 z1 x2 y2 z2 (1) 0 (by decide) (by decide)) (hn':=HE (by decide)) (h:=Y AP (Ar _ true [_] am_in3 am_cl3 (h:=Ac z ?_)))));show Ev _ _ _ _;refine Ab fun _ z=>Y (A6 _ am_ag58 am_cl58) (Ar _ true [_] am_in58 am_cl58 (h:=Ac z (Ai (B1 (Bp [_,_,_,_,_,_] am_ag58 am_cl58 res_n) (⟨?_,rfl⟩)))));rfl
 omega
theorem XE (b:Bx):Fun Tryz.prog 439 [.agg b.c,iL (2)] (AI (.agg (DJ b (2)).c) []):=by
 obtain ⟨x1,y1,z1,x2,y2,z2⟩:=b;refine Fun.of (nt:=18) (rs:=[.cell 4 58]) Tryz.func439 rfl rfl rfl rfl rfl (Ab fun _ z=>Aq (Bo _ true) (Aq (Bo _ true) (Aq (AT am_ze58) (Ac z (Av (Wk.frzv 3 [_,_]) (Ab fun _ z=>Y EE (Y Ad (Ac z (Aj (Ab fun _ z=>Y (AO am_ag3) (Y Be (Ac z (Az (fun c1=>?_) (fun c1=>?_))))))))))))))
 ·refine Ah fun _ z=>Y Aa (Y (An 0 am_fi58_0 am_cl56) (Cs [0] _ [_,_] (hob:=(Ag)) (hF:=Pw x1 y1 z1 x2 y2 z2 (2) 1 (by decide) (by decide)) (hn':=HE (by decide)) (h:=Y AP (Ar _ true [_] am_in3 am_cl3 (h:=Ac z ?_)))));show Ev _ _ _ _;refine Ab fun _ z=>Y (A6 _ am_ag58 am_cl58) (Ar _ true [_] am_in58 am_cl58 (h:=Ac z (Ai (B1 (Bp [_,_,_,_,_,_] am_ag58 am_cl58 res_n) (⟨?_,rfl⟩)))));rfl
 omega
theorem XF (b:Bx):Fun Tryz.prog 439 [.agg b.c,iL (3)] (AI (.agg (DJ b (3)).c) []):=by
 obtain ⟨x1,y1,z1,x2,y2,z2⟩:=b;refine Fun.of (nt:=18) (rs:=[.cell 4 58]) Tryz.func439 rfl rfl rfl rfl rfl (Ab fun _ z=>Aq (Bo _ true) (Aq (Bo _ true) (Aq (AT am_ze58) (Ac z (Av (Wk.frzv 3 [_,_]) (Ab fun _ z=>Y EE (Y Ad (Ac z (Aj (Ab fun _ z=>Y (AO am_ag3) (Y Be (Ac z (Az (fun c1=>?_) (fun c1=>?_))))))))))))))
 ·refine Ah fun _ z=>Y Aa (Y (An 0 am_fi58_0 am_cl56) (Cs [0] _ [_,_] (hob:=(Ag)) (hF:=Pw x1 y1 z1 x2 y2 z2 (3) 2 (by decide) (by decide)) (hn':=HE (by decide)) (h:=Y AP (Ar _ true [_] am_in3 am_cl3 (h:=Ac z ?_)))));show Ev _ _ _ _;refine Ab fun _ z=>Y (A6 _ am_ag58 am_cl58) (Ar _ true [_] am_in58 am_cl58 (h:=Ac z (Ai (B1 (Bp [_,_,_,_,_,_] am_ag58 am_cl58 res_n) (⟨?_,rfl⟩)))));rfl
 omega
theorem XA (b:Bx):Fun Tryz.prog 439 [.agg b.c,iL (-1)] (AI (.agg (DJ b (-1)).c) []):=by
 obtain ⟨x1,y1,z1,x2,y2,z2⟩:=b;refine Fun.of (nt:=18) (rs:=[.cell 4 58]) Tryz.func439 rfl rfl rfl rfl rfl (Ab fun _ z=>Aq (Bo _ true) (Aq (Bo _ true) (Aq (AT am_ze58) (Ac z (Av (Wk.frzv 3 [_,_]) (Ab fun _ z=>Y EE (Y Ad (Ac z (Aj (Ab fun _ z=>Y (AO am_ag3) (Y Be (Ac z (Az (fun c1=>?_) (fun c1=>?_))))))))))))))
 ·omega
 refine Ah fun _ z=>Y Aa (Y (An 3 am_fi58_1 am_cl56) (Cs [0] _ [_,_] (hob:=(Ag)) (hF:=Px x1 y1 z1 x2 y2 z2 (-1) 0 (by decide) (by decide)) (hn':=HE (by decide)) (h:=Y AP (Ar _ true [_] am_in3 am_cl3 (h:=Ac z ?_)))));show Ev _ _ _ _;refine Ab fun _ z=>Y (A6 _ am_ag58 am_cl58) (Ar _ true [_] am_in58 am_cl58 (h:=Ac z (Ai (B1 (Bp [_,_,_,_,_,_] am_ag58 am_cl58 res_n) (⟨?_,rfl⟩)))));rfl
theorem XB (b:Bx):Fun Tryz.prog 439 [.agg b.c,iL (-2)] (AI (.agg (DJ b (-2)).c) []):=by
 obtain ⟨x1,y1,z1,x2,y2,z2⟩:=b;refine Fun.of (nt:=18) (rs:=[.cell 4 58]) Tryz.func439 rfl rfl rfl rfl rfl (Ab fun _ z=>Aq (Bo _ true) (Aq (Bo _ true) (Aq (AT am_ze58) (Ac z (Av (Wk.frzv 3 [_,_]) (Ab fun _ z=>Y EE (Y Ad (Ac z (Aj (Ab fun _ z=>Y (AO am_ag3) (Y Be (Ac z (Az (fun c1=>?_) (fun c1=>?_))))))))))))))
 ·omega
 refine Ah fun _ z=>Y Aa (Y (An 3 am_fi58_1 am_cl56) (Cs [0] _ [_,_] (hob:=(Ag)) (hF:=Px x1 y1 z1 x2 y2 z2 (-2) 1 (by decide) (by decide)) (hn':=HE (by decide)) (h:=Y AP (Ar _ true [_] am_in3 am_cl3 (h:=Ac z ?_)))));show Ev _ _ _ _;refine Ab fun _ z=>Y (A6 _ am_ag58 am_cl58) (Ar _ true [_] am_in58 am_cl58 (h:=Ac z (Ai (B1 (Bp [_,_,_,_,_,_] am_ag58 am_cl58 res_n) (⟨?_,rfl⟩)))));rfl
theorem XC (b:Bx):Fun Tryz.prog 439 [.agg b.c,iL (-3)] (AI (.agg (DJ b (-3)).c) []):=by
 obtain ⟨x1,y1,z1,x2,y2,z2⟩:=b;refine Fun.of (nt:=18) (rs:=[.cell 4 58]) Tryz.func439 rfl rfl rfl rfl rfl (Ab fun _ z=>Aq (Bo _ true) (Aq (Bo _ true) (Aq (AT am_ze58) (Ac z (Av (Wk.frzv 3 [_,_]) (Ab fun _ z=>Y EE (Y Ad (Ac z (Aj (Ab fun _ z=>Y (AO am_ag3) (Y Be (Ac z (Az (fun c1=>?_) (fun c1=>?_))))))))))))))
 ·omega
 refine Ah fun _ z=>Y Aa (Y (An 3 am_fi58_1 am_cl56) (Cs [0] _ [_,_] (hob:=(Ag)) (hF:=Px x1 y1 z1 x2 y2 z2 (-3) 2 (by decide) (by decide)) (hn':=HE (by decide)) (h:=Y AP (Ar _ true [_] am_in3 am_cl3 (h:=Ac z ?_)))));show Ev _ _ _ _;refine Ab fun _ z=>Y (A6 _ am_ag58 am_cl58) (Ar _ true [_] am_in58 am_cl58 (h:=Ac z (Ai (B1 (Bp [_,_,_,_,_,_] am_ag58 am_cl58 res_n) (⟨?_,rfl⟩)))));rfl
theorem Wy (b:Bx) (a:Int) (h:a ∈ six):Fun Tryz.prog 439 [.agg b.c,iL a] (AI (.agg (DJ b a).c) []):=by
 rcases Ty h with rfl | rfl | rfl | rfl | rfl | rfl
 ·exact XD b
 ·exact XE b
 ·exact XF b
 ·exact XA b
 ·exact XB b
 exact XC b
theorem T3 (l:List Bx) (a:Int) (h:a ∈ six) (hlen:l.length≤1000):Fun Tryz.prog 379 [.sh 6 (l.map Bx.c),iL a] (AI (.sh 6 ((l.map fun b=>DJ b a).map Bx.c)) []):=by
 refine Fun.of (nt:=22) (rs:=[.tmp 4]) Tryz.func379 rfl rfl rfl rfl rfl (Ab fun _ z=>Y Ad (Ac z (Ab fun _ z=>Y Ad (Ac z (Aj (Ab fun _ z=>Y Aa (Y (A5 am_el37) (Y Aa (Ac z (Ev.block (Av (Wk.nown Bx.c 5 58 6) (AC (ι:={p:List (Bx) × List (Bx) // p.1 ++ p.2=l∧True}) [0] [1,8,9] (fun ⟨(pre,suf),_⟩=>[(10,iL (pre.length:Int)),(5, .als 0 0 (pre.map (fun b=>DJ b a)).length)]) (fun ⟨(pre,suf),_⟩=>[(0,⟨true,58,6,(pre.map (fun b=>DJ b a)).map Bx.c,true⟩)]) (fun ⟨(pre,suf),_⟩=>suf.length) ⟨([],l),rfl,trivial⟩ (.c (.c (.c .n))) (Ag) (Ae (h:=(Ae))) ?_))))))))))));rintro ⟨⟨pre,suf⟩,hp,hinv⟩ R0 hR0;dsimp only [cA,nA,lC,lN]
 simp only at hp hinv
 have hpl:=BO hp
 rcases suf with _ | ⟨s,suf⟩
 ·rw [List.append_nil] at hp;simp only [lN] at hpl;refine Ab fun _ z=>Y As (Ac z (AG (fun c1=>?_) (fun c1=>?_)))
  ·omega
  refine AA (hR0 _ _ (Ab fun _ z=>Y Aa (Y Ad (Ac z (Av (Wk.frz 4 []) (Ai (Ap ?_)))))))
  (rw [← hp];done)
 simp only [lC] at hpl;have hidx:=BM hp;refine Ab fun _ z=>Y As (Ac z (AG (fun c2=>?_) (fun c2=>?_)))
 ·refine Aj (Ev.block (Ab fun _ z=>Y (AQ am_el37 am_cl58 (hl:=(by exact Ba hidx (by omega)))) (Y (Bv _ am_ag58 am_cl58) (Aq (AT am_ze58) (Ar _ true [_] am_in58 am_cl58 (h:=Ac z (Ah fun _ z=>Y Aa (Y (A6 _ am_ag58 am_cl58) (Y Aa (Ay (hF:=Wy s a h) (h:=Aq (Bf [[_,_,_,_,_,_]] true am_el37 am_ze58 am_cl58) (AW [_,_] am_el37 am_ze58 am_cl58 am_by58 (hh:=A3) (hr:=(A7 [DJ s a])) (h:=Y Ad (Ac z ?_))))))))))))));show Ev _ _ _ _;refine Ah fun _ z=>Y Ax (Y Aa (Ac z (hR0 _ _ (A4 [3] [1,8,9] ⟨(pre ++ [s],suf),Bu hp,trivial⟩ B9 (Ag (he:=(by simp))) (Ae (he:=(by congr 2;simp)) (h:=(Ae (he:=(by simp))))) (.c (.c (.c .n)))))));skip
 omega
theorem YH {q:P3} {p:Prop} [Decidable p] (h:p):AV.tup [.agg [iL q.1,iL q.2.1,iL q.2.2],bL true]= .tup [.agg [iL q.1,iL q.2.1,iL q.2.2],bL (decide p)]:=by rw [decide_eq_true h]
theorem YF {q:P3} {p:Prop} [Decidable p] (h:¬ p):AV.tup [.agg [iL q.1,iL q.2.1,iL q.2.2],bL false]= .tup [.agg [iL q.1,iL q.2.1,iL q.2.2],bL (decide p)]:=by rw [decide_eq_false h]
theorem XH {q:P3} {p:Prop} [Decidable p] (h:p):∃ r:P3,True∧AV.tup [.agg [iL q.1,iL q.2.1,iL q.2.2],bL true]= .tup [.agg [iL r.1,iL r.2.1,iL r.2.2],bL (decide p)]∧([]:List (Nat × AM.Obj))=[]:=⟨q,trivial,YH h,rfl⟩
theorem XG {q:P3} {p:Prop} [Decidable p] (h:¬ p):∃ r:P3,True∧AV.tup [.agg [iL q.1,iL q.2.1,iL q.2.2],bL false]= .tup [.agg [iL r.1,iL r.2.1,iL r.2.2],bL (decide p)]∧([]:List (Nat × AM.Obj))=[]:=⟨q,trivial,YF h,rfl⟩
def YO (a b:Bx) (Q:Int):Prop:=Ex a b=Q
def Er (bars:List Bar) (runs:List Rn) (by_:List Int) (i K:Nat):List (Int × Int):=((List.range K).filter fun (k:Nat)=>decide (i≠k∧Ep bars runs (i:Int) (k:Int) ((by_[i]?).getD 0))).map fun (k:Nat)=>((i:Int),(k:Int))
def HM (bars:List Bar) (runs:List Rn) (by_:List Int) (n i:Nat):List (Int × Int):=(List.range i).flatMap fun i=>Er bars runs by_ i n
def Aw (bars:List Bar) (runs:List Rn) (by_:List Int):List (Int × Int):=HM bars runs by_ (AR runs).toNat (AR runs).toNat
theorem O0 {bars:List Bar} {runs:List Rn} {by_:List Int} {i K:Nat}:(Er bars runs by_ i K).length≤K:=by
 unfold Er
 rw [List.length_map];exact Nat.le_trans (List.length_filter_le _ _) (by simp)
theorem Sy {bars:List Bar} {runs:List Rn} {by_:List Int} {i K:Nat} {a:Int} (ha:by_[i]?= some a) (h:(i:Int)≠K) (h2:Ep bars runs i K a):Er bars runs by_ i (K+1)=Er bars runs by_ i K ++ [((i:Int),(K:Int))]:=by
 have h3:i≠K:=by omega
 unfold Er
 rw [ha,List.range_succ,List.filter_append,List.map_append]
 simp [h3,h2]
theorem Ql {bars:List Bar} {runs:List Rn} {by_:List Int} {i K:Nat} (h:¬ (i:Int)≠K):Er bars runs by_ i (K+1)=Er bars runs by_ i K:=by
 have h3:i=K:=by omega
 unfold Er
 rw [List.range_succ,List.filter_append,List.map_append]
 simp [h3]
theorem Qm {bars:List Bar} {runs:List Rn} {by_:List Int} {i K:Nat} {a:Int} (ha:by_[i]?= some a) (h2:¬ Ep bars runs i K a):Er bars runs by_ i (K+1)=Er bars runs by_ i K:=by
 unfold Er
 rw [ha,List.range_succ,List.filter_append,List.map_append]
 simp [h2]
theorem JH {bars:List Bar} {runs:List Rn} {by_:List Int} {n i:Nat}:HM bars runs by_ n (i+1)=HM bars runs by_ n i ++ Er bars runs by_ i n:=by simp [HM,List.range_succ]
theorem KV {bars:List Bar} {runs:List Rn} {by_:List Int} {n:Nat}:∀ i,(HM bars runs by_ n i).length≤i * n
 |0=>by simp [HM]
 |i+1=>by
  have h1:=KV (bars:=bars) (runs:=runs) (by_:=by_) (n:=n) i;have h2:=O0 (bars:=bars) (runs:=runs) (by_:=by_) (i:=i) (K:=n);rw [JH,List.length_append,Nat.succ_mul];omega
def Kn (a:Int):Bool:=decide (¬ a ∈ six)
def Eh (runs:List Rn) (by_:List Int):Int:=if (by_.length:Int)=AR runs then (if ∃ a ∈ by_,Kn a=true then 11 else 0) else 3
def L5 (bars:List Bar) (runs:List Rn) (by_:List Int):List (Int × Int):=if Eh runs by_=0 then Aw bars runs by_ else []
theorem WX {bars:List Bar} {runs:List Rn} {by_:List Int} (h:¬ (by_.length:Int)=AR runs):Eh runs by_=3∧L5 bars runs by_=[]:=by
 have e:Eh runs by_=3:=if_neg h;exact ⟨e,if_neg (by omega)⟩
theorem Vn {bars:List Bar} {runs:List Rn} {by_:List Int} (h:(by_.length:Int)=AR runs) (h2:∃ a ∈ by_,Kn a=true):Eh runs by_=11∧L5 bars runs by_=[]:=by
 have e:Eh runs by_=11:=(if_pos h).trans (if_pos h2);exact ⟨e,if_neg (by omega)⟩
theorem WW {bars:List Bar} {runs:List Rn} {by_:List Int} (h:(by_.length:Int)=AR runs) (h2:¬ ∃ a ∈ by_,Kn a=true):Eh runs by_=0∧L5 bars runs by_=Aw bars runs by_:=by
 have e:Eh runs by_=0:=(if_pos h).trans (if_neg h2);exact ⟨e,if_pos e⟩
theorem Qf (i k:Rod) (a:Int) (ha:a ∈ six) (hi:Iv i) (hk:Iv k):Fun Tryz.prog 279 [.agg (rodC i), .agg (rodC k),iL a] (fun v l=>∃ q:P3,True∧v= .tup [.agg [iL q.1,iL q.2.1,iL q.2.2],bL (decide (HF i k a))]∧l=[]):=by
 obtain ⟨li,si⟩:=i;obtain ⟨lk,sk⟩:=k;obtain ⟨hi1,hi2,hi3⟩:=hi;obtain ⟨hk1,hk2,hk3⟩:=hk
 dsimp only at hi1 hi2 hi3 hk1 hk2 hk3
 have hnb:=Qu hi3 hk3
 unfold ET at hnb
 refine Fun.of (nt:=70) (rs:=[.cell 6 56, .tmp 7]) Tryz.func279 rfl rfl rfl rfl rfl (Ab fun _ z=>Aq (Bo _ true) (Aq (Bo _ true) (Aq (AT am_ze56) (Y Ad (Ac z (TJ (Av (Wk.frzv 3 [_,_]) (Av (Wk.frzv 4 [_]) (Ab fun _ z=>Y (BH 1 am_fi280_1 am_cl3) (Y (AO am_ag3) (Y (BH 1 am_fi280_1 am_cl3) (Y (AO am_ag3) (Y Ax (Y (BH 1 am_fi280_1 am_cl3) (Y (AO am_ag3) (Y (BH 1 am_fi280_1 am_cl3) (Y (AO am_ag3) (Y Ax (Y BC (Y Ad (Ac z (Aj (NZ (Aj (Ab fun _ z=>Y (BH 0 am_fi280_0 am_cl37) (Y (AO am_ag37) (Y Aa (Ay (hF:=T3 li a ha (by omega)) (h:=Y (A5 am_el37) (Y Aa (Ac z (Ev.block (AC (ι:={p:List (Bx) × List (Bx) // p.1 ++ p.2=(li.map fun b=>DJ b a)∧∀ w ∈ p.1,∀ l ∈ lk,¬ 4 * Ex w l < ET si sk}) [2] [4,6,8,32,33] (fun ⟨(pre,suf),_⟩=>[(34,iL (pre.length:Int))]) (fun ⟨(pre,suf),_⟩=>[(0,⟨false,56,3,[[iL (0),iL (0),iL (0)]],true⟩)]) (fun ⟨(pre,suf),_⟩=>suf.length) ⟨([],(li.map fun b=>DJ b a)),rfl,fun w hw=>by simp at hw⟩ (.c (.c (.c (.c (.c .n))))) (Ag) (Ae) ?_)))))))))))))))))))))))))))))))));rintro ⟨⟨pre,suf⟩,hp,hinv⟩ R0 hR0;dsimp only [cA,nA,lC,lN]
 simp only at hp hinv
 have hpl:=BO hp
 rcases suf with _ | ⟨s,suf⟩
 ·rw [List.append_nil] at hp;simp only [lN] at hpl;refine Ab fun _ z=>Y As (Ac z (AG (fun c1=>?_) (fun c1=>?_)))
  ·omega
  refine AA (hR0 _ _ (Ab fun _ z=>Y (Bg _ am_ze56 am_pl56) (Ar _ true [] am_in56 am_cl56 (h:=Y Ad (Ac z (Ai (D1 (Bp [_,_,_] am_ag56 am_cl56 (Db res_n)) ?_)))))));skip;refine XG (q:=(0,0,0)) (p:=HF (li,si) (lk,sk) a) ?_;rintro ⟨w0,hw0,l0,hl0,h⟩;exact hinv (DJ w0 a) (by rw [hp];exact List.mem_map.2 ⟨w0,hw0,rfl⟩) l0 hl0 h
 simp only [lC] at hpl;have hlm:(li.map fun b=>DJ b a).length=li.length:=List.length_map ..;have hidx:=BM hp
 have hsm:s ∈ li.map fun b=>DJ b a:=by rw [← hp];simp
 have hso:Cg s:=by obtain ⟨w0,hw0,rfl⟩:=List.mem_map.1 hsm;exact Wx (hi1 w0 hw0)
 refine Ab fun _ z=>Y As (Ac z (AG (fun c2=>?_) (fun c2=>?_)))
 ·refine Aj (Ev.block (Ab fun _ z=>Y (AQ am_el37 am_cl58 (hl:=(by exact Ba hidx (by omega)))) (Y (Bv _ am_ag58 am_cl58) (Aq (AT am_ze58) (Ar _ true [_] am_in58 am_cl58 (h:=Ac z (Av (Wk.frzv 10 [_]) (Ab fun _ z=>Y (BH 0 am_fi280_0 am_cl37) (Y (AO am_ag37) (Y (A5 am_el37) (Y Aa (Ac z (Ev.block (AC (ι:={q:List Bx × List Bx // q.1 ++ q.2=lk∧∀ l ∈ q.1,¬ 4 * Ex s l < ET si sk}) [0] [4,6,8,10,32,33,34,39,40] (fun ⟨(pre2,suf2),_⟩=>[(41,iL (pre2.length:Int))]) (fun ⟨(pre2,suf2),_⟩=>[(0,⟨false,56,3,[[iL (0),iL (0),iL (0)]],true⟩)]) (fun ⟨(pre2,suf2),_⟩=>suf2.length) ⟨([],lk),rfl,fun l hl=>by simp at hl⟩ (.c (.c (.c (.c (.c (.c (.c (.c (.c .n))))))))) (Ag) (Ae) ?_))))))))))))));rintro ⟨⟨pre2,suf2⟩,hp2,hinv2⟩ R2 hR2;dsimp only [cA,nA,lC,lN]
  simp only at hp2 hinv2
  have hpl2:pre2.length+suf2.length=lk.length:=by rw [← hp2,List.length_append]
  rcases suf2 with _ | ⟨s2,suf2⟩
  ·rw [List.append_nil] at hp2;simp only [List.length_nil] at hpl2;refine Ab fun _ z=>Y As (Ac z (AG (fun c3=>?_) (fun c3=>?_)))
   ·omega
   refine AA (hR2 _ _ (Ah fun _ z=>Y Ax (Y Aa (Ac z (hR0 _ _ (A4 [0] [4,6,8,32,33] ⟨(pre ++ [s],suf),Bu hp,?_⟩ B9 (Ag) (Ae (he:=(by congr 2;simp))) (.c (.c (.c (.c (.c .n)))))))))));intro w hw
   rcases List.mem_append.1 hw with hw | hw
   ·exact hinv w hw
   ·rw [List.mem_singleton] at hw;subst hw;rw [← hp2];exact hinv2
  simp only [lC] at hpl2
  have hidx2:lk[pre2.length]?= some s2:=by rw [← hp2];simp
  have hs2m:s2 ∈ lk:=by rw [← hp2];simp
  have hs2:=hk1 s2 hs2m;obtain ⟨Q,hQ⟩:∃ Q,YO s s2 Q:=⟨_,rfl⟩
  have hsb:0≤Q∧Q≤13194139533312:=by rw [← show Ex s s2=Q from hQ];exact Mg hso hs2
  have hfs:=MQ s s2 hso hs2;rw [show Ex s s2=Q from hQ] at hfs;refine Ab fun _ z=>Y As (Ac z (AG (fun c4=>?_) (fun c4=>?_)))
  ·refine Aj (Ev.block (Ab fun _ z=>Y (AQ am_el37 am_cl58 (hl:=(by exact Ba hidx2 (by omega)))) (Y (Bv _ am_ag58 am_cl58) (Aq (AT am_ze58) (Ar _ true [_] am_in58 am_cl58 (h:=Ac z (Av (Wk.frzv 12 [_]) (Ab fun _ z=>Y (Bv _ am_ag58 am_cl58) (Y (Bv _ am_ag58 am_cl58) (Ay (hF:=hfs) (h:=Y Aa (Y AH (Y AH (Y Ad (Y Ad (Ac z (Aj (Ab fun _ z=>Y Aa (Y Bn (Ac z (Bh (fun c5=>?_) (fun c5=>?_))))))))))))))))))))))
   ·omega
   refine Am (Ab fun _ z=>Y Aa (Y BC (Y Aa (Y As (Ac z (Az (fun c6=>?_) (fun c6=>?_)))))))
   ·refine Ab fun _ z=>Y (Bv _ am_ag58 am_cl58) (Y (Bv _ am_ag58 am_cl58) (Ay (hF:=JB s s2 hso hs2) (h:=Y Aa (Y AH (Y AH (Y AH (Aq (AT am_ze56) (Aq (AT am_ze56) (Ar _ true [_,_] am_in56 am_cl56 (h:=Ar _ true [_,_] am_in56 am_cl56 (h:=Y Ad (Ac z (Ab fun _ z=>Y (A6 _ am_ag56 am_cl56) (Y Aa (Y Bk (Ar _ true [_,_] am_in56 am_cl56 (h:=Y Ad (Ac z (Ai (hR2 _ _ (hR0 _ _ (D1 (Bp [_,_,_] am_ag56 am_cl56 (Db res_n)) ?_))))))))))))))))))))));skip;refine XH (q:=Rr s s2) (p:=HF (li,si) (lk,sk) a) ?_;obtain ⟨w0,hw0,hw1⟩:=List.mem_map.1 hsm;exact ⟨w0,hw0,s2,hs2m,by rw [hw1,show Ex s s2=Q from hQ];assumption⟩
   refine Am (Ah fun _ z=>Y Ax (Y Aa (Ac z (hR2 _ _ (A4 [0] [4,6,8,10,32,33,34,39,40] ⟨(pre2 ++ [s2],suf2),by rw [← hp2];simp,?_⟩ B9 (Ag) (Ae (he:=(by congr 2;simp))) (.c (.c (.c (.c (.c (.c (.c (.c (.c .n))))))))))))));intro l hl
   rcases List.mem_append.1 hl with hl | hl
   ·exact hinv2 l hl
   ·rw [List.mem_singleton] at hl;subst hl;rw [show Ex s l=Q from hQ];assumption
  omega
 omega
theorem Ls (i k:Rod) (a:Int) (ha:a ∈ six) (hi:Iv i) (hk:Iv k):Fun Tryz.prog 170 [.agg (rodC i), .agg (rodC k),iL a] (AI (bL (decide (HF i k a))) []):=by
 obtain ⟨li,si⟩:=i;obtain ⟨lk,sk⟩:=k;obtain ⟨hi1,hi2,hi3⟩:=hi;obtain ⟨hk1,hk2,hk3⟩:=hk
 dsimp only at hi1 hi2 hi3 hk1 hk2 hk3
 refine Fun.of (nt:=17) (rs:=[.tmp 6]) Tryz.func170 rfl rfl rfl rfl rfl (Ab fun _ z=>Aq (Bo _ true) (Aq (Bo _ true) (Y Ad (Ac z (Av (Wk.frzv 3 [_]) (Av (Wk.frzv 4 []) (Ab fun _ z=>Y (Bv _ am_ag280 am_cl280) (Y (Bv _ am_ag280 am_cl280) (Y Aa (Fw (hF:=Qf (li,si) (lk,sk) a ha ⟨hi1,hi2,hi3⟩ ⟨hk1,hk2,hk3⟩) (h:=fun qz _=>(Y Aa (Y AH (Y AH (Aq (AT am_ze56) (Ar _ true [] am_in56 am_cl56 (h:=Y Ad (Ac z (Ab fun _ z=>Y Aa (Y Ad (Ac z (Ai (Ap ?_)))))))))))))))))))))));rfl
theorem Tm (mk:List UInt8) (b:Bar):Fun Tryz.prog 278 [.agg b.c, .sadr [sL mk] 0] (AI (bL (decide (b.mark=mk))) []):=by
 refine Fun.of (nt:=8) (rs:=[.tmp 3]) Tryz.func278 rfl rfl rfl rfl rfl (Ab fun _ z=>Aq (Bo _ true) (Y Ad (Ac z (Ab fun _ z=>Y (An 0 am_fi168_0 am_cl9) (Y (Ao am_ag9) (Y (AO am_ag9) (Y DY (Y Ad (Ac z (Ai (Ap ?_)))))))))));rfl
theorem Pe (bars:List Bar) (runs:List Rn) (hok:BV bars runs) (hw:Ce bars) (hrw:Dw runs) (hn:AR runs≤2000):Fun Tryz.prog 168 [.sh 5 (bars.map Bar.c), .sh 10 (runs.map Rn.c)] (AI (.tup [.sh 2 ((Gt bars runs).map rodC),iL 0]) []):=by
 obtain ⟨⟨hb60,_⟩,hr60,hrr,hc2⟩:=id hok
 have hlen:bars.length≤140737488355328:=by omega
 have hn1:∀ r ∈ runs,1≤r.n:=fun r hr=>(hrr r hr).2.2.1.1;have hnn:=D4 hn1;have hml:=F4 (bars:=bars) hn1;have hmm:=marksL_len hn1;have hrl:=Iw (bars:=bars) (runs:=runs);refine Fun.of (nt:=62) (rs:=[.tmp 4, .tmp 5]) Tryz.func168 rfl rfl rfl rfl rfl (Ab fun _ z=>Y Ad (Y Ad (Ac z (Ab fun _ z=>Y Aa (Y Aa (Ay (hF:=DL bars runs hok hw hrw) (h:=Y Aa (Y AH (Y AH (Y Ad (Y Ad (Ac z (Aj (Ab fun _ z=>Y Aa (Y Bn (Ac z (Bh (fun c1=>?_) (fun c1=>?_))))))))))))))))))
 ·omega
 refine Am (Ab fun _ z=>Y Ad (Ac z (Aj (Ab fun _ z=>Y Aa (Y Aa (Ac z (Ev.block (Av (Wk.nown rodC 8 280 2) (AC (ι:={k:Nat // (k:Int)≤AR runs}) [0] [0,1,23] (fun ⟨k,_⟩=>[(24,iL (k:Int)),(8, .als 0 0 ((List.range k).map (BS bars runs)).length)]) (fun ⟨k,_⟩=>[(0,⟨true,280,2,((List.range k).map (BS bars runs)).map rodC,true⟩)]) (fun ⟨k,_⟩=>(AR runs - k).toNat) ⟨0,by simpa using hnn⟩ (.c (.c (.c .n))) (Ag) (Ae (h:=(Ae))) ?_)))))))));rintro ⟨k,hk⟩ R0 hR0;dsimp only [cA,nA,lC,lN]
 by_cases hkl:(k:Int) < AR runs
 rotate_left
 ·skip;refine Ab fun _ z=>Y As (Ac z (AG (fun c2=>?_) (fun c2=>?_)))
  ·omega
  refine AA (hR0 _ _ (Ab fun _ z=>Y Aa (Y Ad (Y Ad (Ac z (Av (Wk.frz 4 []) (Ai (Cd ?_))))))));have hke:k=(AR runs).toNat:=(by omega);subst hke;rfl
 obtain ⟨l,hlk⟩:∃ p,(CZ bars runs)[k]?= some p:=⟨_,List.getElem?_eq_getElem (by omega)⟩;obtain ⟨mk,hmk⟩:∃ p,(DU runs)[k]?= some p:=⟨_,List.getElem?_eq_getElem (by omega)⟩;have hmi:=Ld hok (List.mem_of_getElem? hmk);have hmb:=HU bars mk;have hlg:=G0 hmi;have hmI:Cn (fun b:Bar=>decide (b.mark=mk)) bars 0=CE bars mk:=rfl
 have hra:BS bars runs k=(BP l,(Cy bars mk).size):=by unfold BS NR;rw [hlk,hmk];rfl
 have hrg:(List.range (k+1)).map (BS bars runs)=(List.range k).map (BS bars runs) ++ [(BP l,(Cy bars mk).size)]:=by rw [List.range_succ,List.map_append, ← hra];rfl
 have hrk:(List.range k).length=k:=List.length_range
 have hrgl:((List.range k).map (BS bars runs)).length=k:=by simp
 refine Ab fun _ z=>Y As (Ac z (AG (fun c3=>?_) (fun c3=>?_)))
 ·refine Aj (Ev.block (Ab fun _ z=>Y Aa (Y Ad (Ac z (Ab fun _ z=>Y Aa (Y Aa (Y Aa (Ay (hF:=JP bars runs hok hw hrw k mk hmk) (h:=Y Aa (Y AH (Y AH (Aq (AT am_ze9) (Ar _ true [_] am_in9 am_cl9 (h:=Y Ad (Ac z (Aj (Av (Wk.frzv 10 [_]) (Ab fun _ z=>Y Aa (Y Bn (Ac z (Bh (fun c4=>?_) (fun c4=>?_))))))))))))))))))))))
  ·omega
  refine Am (Ab fun _ z=>Y Aa (Y Aa (Y Aa (Ay (hF:=JO bars runs hok hw hrw k l hlk) (h:=Y Aa (Y AH (Y AH (Y Ad (Y Ad (Ac z (Aj (Ab fun _ z=>Y Aa (Y Bn (Ac z (Bh (fun c5=>?_) (fun c5=>?_))))))))))))))))
  ·omega
  refine Am (Ab fun _ z=>Y Aa (Y EE (Ay (hF:=Hc _ _ _ (Tm mk) bars (by omega)) (h:=Y Ad (Ac z (Ah fun _ z=>Y Aa (Y Aa (Y Aa (Y Aa (Y (AQ am_el22 am_cl168 (hl:=(by exact Ba hlg (by omega)))) (Y (BH 1 am_fi168_1 am_cl3) (Y (AO am_ag3) (Y (Bg _ am_ze280 am_pl280) (Aq (Bf [[_,_]] true am_el136 am_ze280 am_cl280) (AW [_] am_el136 am_ze280 am_cl280 am_by280 (hh:=A3) (hr:=(A7 [(BP l,(Cy bars mk).size)])) (h:=Y Ad (Ac z ?_)))))))))))))))));show Ev _ _ _ _;refine Ah fun _ z=>Y Ax (Y Aa (Ac z (hR0 _ _ (A4 [3] [0,1,23] ⟨k+1,by omega⟩ ?_ (Ag (he:=(by rw [hrg,List.map_append] <;> rfl))) (Ae (h:=(Ae (he:=(by rw [hrg,List.length_append] <;> rfl))))) (.c (.c (.c .n)))))));skip;all_goals (dsimp only;omega)
 omega
theorem SW {pre suf l:List Int} {s:Int} (hp:pre ++ s :: suf=l) (h:l.Nodup):¬ s ∈ pre:=by
 rw [← hp,List.nodup_append] at h;exact fun hs=>h.2.2 s hs s (by simp) rfl
theorem K8 (bars:List Bar) (runs:List Rn) (hok:BV bars runs) (hw:Ce bars) (hrw:Dw runs) (hn:AR runs≤2000) (i a:Int) (ha:a ∈ six) (there:List Int) (hi0:0≤i) (hi1:i < AR runs) (ht:G6 (AR runs) i there) (htl:there.length≤2000):Fun Tryz.prog 64 [.sh 2 ((Gt bars runs).map rodC),iL i,iL a, .sh 1 (there.map AD)] (AI (.sh 1 ((EQ bars runs i a there).map AD)) []):=by
 have hn1:∀ r ∈ runs,1≤r.n:=fun r hr=>(hok.2.2.1 r hr).2.2.1.1;have hnn:=D4 hn1;have hrl:=Iw (bars:=bars) (runs:=runs);have hri:=Jr (bars:=bars) (runs:=runs) (i:=i.toNat) (by omega);have hoi:=(Eg hok (i:=i.toNat) (by omega)).1;refine Fun.of (nt:=34) (rs:=[.tmp 8]) Tryz.func64 rfl rfl rfl rfl rfl (Ab fun _ z=>Y Ad (Ac z (Ab fun _ z=>Y Ad (Ac z (Aj (Ab fun _ z=>Y Aa (Y (A5 am_el24) (Y Aa (Ac z (Ev.block (Av (Wk.nown AD 9 3 1) (AC (ι:={p:List (Int) × List (Int) // p.1 ++ p.2=there∧True}) [0] [0,1,2,12,13] (fun ⟨(pre,suf),_⟩=>[(14,iL (pre.length:Int)),(9, .als 0 0 (EQ bars runs i a pre).length)]) (fun ⟨(pre,suf),_⟩=>[(0,⟨true,3,1,(EQ bars runs i a pre).map AD,true⟩)]) (fun ⟨(pre,suf),_⟩=>suf.length) ⟨([],there),rfl,trivial⟩ (.c (.c (.c (.c (.c .n))))) (Ag) (Ae (h:=(Ae))) ?_))))))))))));rintro ⟨⟨pre,suf⟩,hp,hinv⟩ R0 hR0;dsimp only [cA,nA,lC,lN]
 simp only at hp hinv
 have hpl:=BO hp
 rcases suf with _ | ⟨s,suf⟩
 ·rw [List.append_nil] at hp;simp only [lN] at hpl;refine Ab fun _ z=>Y As (Ac z (AG (fun c1=>?_) (fun c1=>?_)))
  ·omega
  refine AA (hR0 _ _ (Ab fun _ z=>Y Aa (Y Ad (Ac z (Av (Wk.frz 8 []) (Ai (Ap ?_)))))))
  (rw [← hp];done)
 simp only [lC] at hpl;have hidx:=BM hp;obtain ⟨hs0,hs1,hs2⟩:=ht.1 s (by rw [← hp];simp);have hrs:=Jr (bars:=bars) (runs:=runs) (i:=s.toNat) (by omega);have hos:=(Eg hok (i:=s.toNat) (by omega)).1;have hbl:=TX bars runs i a pre;have hdd:HF (BS bars runs i.toNat) (BS bars runs s.toNat) a↔Ep bars runs i s a:=Iff.rfl;refine Ab fun _ z=>Y As (Ac z (AG (fun c2=>?_) (fun c2=>?_)))
 ·refine Aj (Ev.block (Ab fun _ z=>Y (AQ am_el24 am_cl3 (hl:=(by exact Ba hidx (by omega)))) (Y (AO am_ag3) (Y Ad (Ac z (BW (tbs [(0,0),(0,0),(2,3),(3,7),(0,0),(0,0),(6,48),(7,112),(0,0),(9,511)]) 10 fun _ z=>Ak Aa (Ak Aa (Ak (AQ am_el136 am_cl280 (hl:=(by exact Ba hri (by omega)))) (Ak (Bv _ am_ag280 am_cl280) (Ak Aa (Ak Aa (Ak (AQ am_el136 am_cl280 (hl:=(by exact Ba hrs (by omega)))) (Ak (Bv _ am_ag280 am_cl280) (Ak Aa (Cc (hF:=Ls (BS bars runs i.toNat) (BS bars runs s.toNat) a ha hoi hos) (h:=B3 [_] (h:=Ac z (Az (fun c3=>?_) (fun c3=>?_)))))))))))))))))))
  ·refine Ah fun _ z=>Y Aa (Y Aa (Aq (Bf [[_]] true am_el24 am_ze3 am_cl3) (AW [_] am_el24 am_ze3 am_cl3 am_by3 (hh:=A3) (hr:=(A7 [s])) (h:=Y Ad (Ac z ?_)))));show Ev _ _ _ _;refine Ah fun _ z=>Y Ax (Y Aa (Ac z (hR0 _ _ (A4 [42] [0,1,2,12,13] ⟨(pre ++ [s],suf),Bu hp,trivial⟩ B9 (Ag (he:=(by rw [In,if_pos (hdd.1 ‹_›),List.map_append] <;> rfl))) (Ae (he:=(by congr 2;simp)) (h:=(Ae (he:=(by rw [In,if_pos (hdd.1 ‹_›),List.length_append] <;> rfl))))) (.c (.c (.c (.c (.c .n)))))))));skip
  refine Am (Ah fun _ z=>Y Ax (Y Aa (Ac z (hR0 _ _ (A4 [0] [0,1,2,12,13] ⟨(pre ++ [s],suf),Bu hp,trivial⟩ B9 (Ag (he:=(by rw [In,if_neg (fun h=>absurd (hdd.2 h) ‹_›)]))) (Ae (he:=(by congr 2;simp)) (h:=(Ae (he:=(by rw [In,if_neg (fun h=>absurd (hdd.2 h) ‹_›)]))))) (.c (.c (.c (.c (.c .n))))))))));skip
 omega
theorem LN (bars:List Bar) (runs:List Rn) (hok:BV bars runs) (hw:Ce bars) (hrw:Dw runs) (hn:AR runs≤2000) (i a:Int) (ha:a ∈ six) (there:List Int) (hi0:0≤i) (hi1:i < AR runs) (ht:G6 (AR runs) i there) (htl:there.length≤2000):Fun Tryz.prog 63 [.sh 5 (bars.map Bar.c), .sh 10 (runs.map Rn.c),iL i,iL a, .sh 1 (there.map AD)] (AI (.tup [.sh 2 ((Gt bars runs).map rodC),iL 0]) []):=by
 have hn1:∀ r ∈ runs,1≤r.n:=fun r hr=>(hok.2.2.1 r hr).2.2.1.1;have hnn:=D4 hn1;have hrl:=Iw (bars:=bars) (runs:=runs);have hnd:([i] ++ there).Nodup:=List.nodup_append.2 ⟨by simp,ht.2,fun x hx y hy e=>by rw [List.mem_singleton] at hx;subst hx e;exact (ht.1 x hy).2.2 rfl⟩
 have hin:∀ k ∈ [i] ++ there,0≤k∧k < ((Gt bars runs).length:Int):=fun k hk=>by
  rcases List.mem_append.1 hk with h | h
  ·rw [List.mem_singleton] at h;omega
  have:=ht.1 k h;omega
 have hll:([i] ++ there).length=there.length+1:=by simp
 refine Fun.of (nt:=70) (rs:=[.tmp 10, .tmp 11]) Tryz.func63 rfl rfl rfl rfl rfl (Ab fun _ z=>Y Ad (Y Ad (Ac z (Ab fun _ z=>Y Aa (Y Aa (Ay (hF:=Pe bars runs hok hw hrw hn) (h:=Y Aa (Y AH (Y AH (Y Ad (Y Ad (Ac z (Aj (Ab fun _ z=>Y Aa (Y Bn (Ac z (Bh (fun c1=>?_) (fun c1=>?_))))))))))))))))))
 ·omega
 refine Am (Ab fun _ z=>Y Aa (Y (A5 am_el136) (Ih (f:=Om) (false) am_el277 am_ze4 am_cl4 am_by4 (h:=Y Ad (Ac z (Ab fun _ z=>Y Ad (Ac z (Aj (Ab fun _ z=>Y Aa (Aq (Bf [[_]] true am_el24 am_ze3 am_cl3) (Y Aa (AW [_] am_el24 am_ze3 am_cl3 am_by3 (hh:=(A3 (f:=AD) (l:=[i]))) (hr:=MC) (h:=(SeqL.weaken (Wk.frz 33 [_]) (Y (A5 am_el24) (Y Aa (Ac z (Ev.block (AC (ι:={p:List (Int) × List (Int) // p.1 ++ p.2=([i] ++ there)∧True}) [0] [3,12,33,34] (fun ⟨(pre,suf),_⟩=>[(35,iL (pre.length:Int)),(15,bL (false)),(14, .als 0 0 (EX (Gt bars runs).length pre).length)]) (fun ⟨(pre,suf),_⟩=>[(0,⟨true,4,1,(EX (Gt bars runs).length pre).map Om,true⟩)]) (fun ⟨(pre,suf),_⟩=>suf.length) ⟨([],([i] ++ there)),rfl,trivial⟩ (.c (.c (.c (.c .n)))) (Ag (he:=(by exact congrArg (List.map Om) (Tw _)))) (Ae (h:=(Ae (h:=(Ae (he:=(by simp [EX]))))))) ?_)))))))))))))))))));rintro ⟨⟨pre,suf⟩,hp,hinv⟩ R0 hR0;dsimp only [cA,nA,lC,lN]
 simp only at hp hinv
 have hpl:=BO hp
 rcases suf with _ | ⟨s,suf⟩
 ·rw [List.append_nil] at hp;simp only [lN] at hpl;refine Ab fun _ z=>Y As (Ac z (AG (fun c2=>?_) (fun c2=>?_)))
  ·omega
  refine AA (hR0 _ _ (Aj (Ev.block (Ab fun _ z=>Y Aa (Ay (hF:=L9 a) (h:=Y Bw (Y Ad (Ac z (Bh (fun c3=>?_) (fun c3=>?_))))))))))
  ·contradiction
  refine Ab fun _ z=>Y Aa (Y Ad (Ac z (Cw (Am (Ab fun _ z=>Y Aa (Y Ad (Y Ad (Ac z (Ai (Cd ?_))))))))));rfl
 simp only [lC] at hpl;have hidx:=BM hp;obtain ⟨hs0,hs1⟩:=hin s (by rw [← hp];simp);have hsa:=UU (l:=pre) hs0 hs1;have hsl:=Tv (Gt bars runs).length pre;have hns:=SW hp hnd;refine Ab fun _ z=>Y As (Ac z (AG (fun c4=>?_) (fun c4=>?_)))
 ·refine Aj (Ev.block (Ab fun _ z=>Y Aa (Y (AQ am_el24 am_cl3 (hl:=(by exact Ba hidx (by omega)))) (Y (AO am_ag3) (Y Ad (Y Ad (Ac z (Aj (Ab fun _ z=>Y Aa (Y As (AS Aa (fun c5=>?_) (fun c5=>?_))))))))))))
  ·omega
  refine Y Aa (Y Aa (Y (A5 am_el136) (Y BR (Y AE (Ac z (Az (fun c6=>?_) (fun c6=>?_)))))))
  ·omega
  refine Am (Ab fun _ z=>Y Aa (Y Aa (Y Aa (Y Be (AS Aa (fun c7=>?_) (fun c7=>?_))))))
  ·refine Y Aa (Y Aa (Y (BT am_el277 am_cl4) (Y (Ee am_ag4 (hl:=(by exact at_ hsa (by omega)))) (Y AF (Y AE (Y Ad (Ac z (Ah fun _ z=>Y Aa (Y Aa (Y (BT am_el277 am_cl4) (DH true [] am_in4 am_cl4 (hl:=(by exact at_ hsa (by omega))) (h:=Ac z ?_))))))))))));show Ev _ _ _ _;refine Ah fun _ z=>Y Ax (Y Aa (Ac z (hR0 _ _ (A4 [0] [3,12,33,34] ⟨(pre ++ [s],suf),Bu hp,trivial⟩ B9 (Ag (he:=(by exact congrArg (List.map Om) (N0 hs0 hs1)))) (Ae (he:=(by congr 2;simp)) (h:=(Ae (he:=(by rw [decide_eq_false hns])) (h:=(Ae (he:=(by simp [EX]))))))) (.c (.c (.c (.c .n))))))));skip
  refine Au (Au (Y AE (Y AE (Y Ad (Ac z (Ah fun _ z=>Y Aa (Y Aa (Y (BT am_el277 am_cl4) (DH true [] am_in4 am_cl4 (hl:=(by exact at_ hsa (by omega))) (h:=Ac z ?_))))))))));show Ev _ _ _ _;refine Ah fun _ z=>Y Ax (Y Aa (Ac z (hR0 _ _ (A4 [0] [3,12,33,34] ⟨(pre ++ [s],suf),Bu hp,trivial⟩ B9 (Ag (he:=(by exact congrArg (List.map Om) (N0 hs0 hs1)))) (Ae (he:=(by congr 2;simp)) (h:=(Ae (h:=(Ae (he:=(by simp [EX]))))))) (.c (.c (.c (.c .n))))))));skip
 omega
theorem HG (bars:List Bar) (runs:List Rn) (hok:BV bars runs) (hw:Ce bars) (hrw:Dw runs) (hn:AR runs≤2000) (i a:Int) (ha:a ∈ six) (there:List Int) (hi0:0≤i) (hi1:i < AR runs) (ht:G6 (AR runs) i there) (htl:there.length≤2000):Fun Tryz.prog 11 [.sh 5 (bars.map Bar.c), .sh 10 (runs.map Rn.c),iL i,iL a, .sh 1 (there.map AD)] (AI (.tup [.sh 1 ((EQ bars runs i a there).map AD),iL 0]) []):=by
 refine Fun.of (nt:=31) (rs:=[.tmp 10, .tmp 11]) Tryz.func11 rfl rfl rfl rfl rfl (Ab fun _ z=>Y Ad (Y Ad (Ac z (Ab fun _ z=>Y Aa (Y Aa (Y Aa (Y Aa (Y Aa (Ay (hF:=LN bars runs hok hw hrw hn i a ha there hi0 hi1 ht htl) (h:=Y Aa (Y AH (Y AH (Y Ad (Y Ad (Ac z (Aj (Ab fun _ z=>Y Aa (Y Bn (Ac z (Bh (fun c1=>?_) (fun c1=>?_)))))))))))))))))))))
 ·omega
 refine Am (Ab fun _ z=>Y Aa (Y Aa (Y Aa (Y Aa (Ay (hF:=K8 bars runs hok hw hrw hn i a ha there hi0 hi1 ht htl) (h:=Y Ad (Y Ad (Ac z (Ai (Cd ?_))))))))));rfl
theorem Vb (bars:List Bar) (runs:List Rn) (hok:BV bars runs) (hw:Ce bars) (hrw:Dw runs) (hn:AR runs≤2000) (i:Int) (there:List Int) (hi0:0≤i) (hi1:i < AR runs) (ht:G6 (AR runs) i there) (htl:there.length≤2000):Fun Tryz.prog 57 [.sh 5 (bars.map Bar.c), .sh 10 (runs.map Rn.c),iL i, .sh 1 (there.map AD)] (AI (.tup [.sh 1 ((Em bars runs i there six).map AD),iL 0]) []):=by
 generalize hsx:six=sx
 have hsl:sx.length=6:=by rw [← hsx];rfl
 refine Fun.of (nt:=45) (rs:=[.tmp 8, .tmp 9]) Tryz.func57 rfl rfl rfl rfl rfl (Ab fun _ z=>Y Ad (Y Ad (Ac z (Ab fun _ z=>Y Aa (Y Aa (Y Aa (Y Aa (Ay (hF:=LN bars runs hok hw hrw hn i 1 (by decide) there hi0 hi1 ht htl) (h:=Y Aa (Y AH (Y AH (Y Ad (Y Ad (Ac z (Aj (Ab fun _ z=>Y Aa (Y Bn (Ac z (Bh (fun c1=>?_) (fun c1=>?_))))))))))))))))))))
 ·omega
 refine Am (Ab fun _ z=>Y Ad (Ac z (Aj (Ab fun _ z=>Ay (hF:=hsx ▸ axes_fun) (h:=Y (A5 am_el24) (Y Aa (Ac z (Ev.block (Av (Wk.nown AD 12 3 1) (AC (ι:={p:List (Int) × List (Int) // p.1 ++ p.2=sx∧True}) [0] [2,3,10,26,27] (fun ⟨(pre,suf),_⟩=>[(28,iL (pre.length:Int)),(12, .als 0 0 (Em bars runs i there pre).length)]) (fun ⟨(pre,suf),_⟩=>[(0,⟨true,3,1,(Em bars runs i there pre).map AD,true⟩)]) (fun ⟨(pre,suf),_⟩=>suf.length) ⟨([],sx),rfl,trivial⟩ (.c (.c (.c (.c (.c .n))))) (Ag) (Ae (h:=(Ae))) ?_))))))))));rintro ⟨⟨pre,suf⟩,hp,hinv⟩ R0 hR0;dsimp only [cA,nA,lC,lN]
 simp only at hp hinv
 have hpl:=BO hp
 rcases suf with _ | ⟨s,suf⟩
 ·rw [List.append_nil] at hp;simp only [lN] at hpl;refine Ab fun _ z=>Y As (Ac z (AG (fun c2=>?_) (fun c2=>?_)))
  ·omega
  refine AA (hR0 _ _ (Ab fun _ z=>Y Aa (Y Ad (Y Ad (Ac z (Av (Wk.frz 8 []) (Ai (Cd ?_))))))));rw [← hp]
 simp only [lC] at hpl;have hidx:=BM hp;have hwl:=N4 bars runs i there pre
 have hdd:((EQ bars runs i s there).length:Int)=0↔(EQ bars runs i s there).length=0:=by omega
 refine Ab fun _ z=>Y As (Ac z (AG (fun c3=>?_) (fun c3=>?_)))
 ·refine Aj (Ev.block (Ab fun _ z=>Y (AQ am_el24 am_cl3 (hl:=(by exact Ba hidx (by omega)))) (Y (AO am_ag3) (Y Ad (Ac z (Ab fun _ z=>Y Aa (Y Aa (Y Aa (Y Aa (Ay (hF:=K8 bars runs hok hw hrw hn i s (hsx ▸ (hp ▸ (by simp))) there hi0 hi1 ht htl) (h:=Y (A5 am_el24) (Y Bk (Ac z (Az (fun c4=>?_) (fun c4=>?_)))))))))))))))
  ·refine Ah fun _ z=>Y Aa (Y Aa (Aq (Bf [[_]] true am_el24 am_ze3 am_cl3) (AW [_] am_el24 am_ze3 am_cl3 am_by3 (hh:=A3) (hr:=(A7 [s])) (h:=Y Ad (Ac z ?_)))));show Ev _ _ _ _;refine Ah fun _ z=>Y Ax (Y Aa (Ac z (hR0 _ _ (A4 [2] [2,3,10,26,27] ⟨(pre ++ [s],suf),Bu hp,trivial⟩ B9 (Ag (he:=(by rw [H3,if_pos (hdd.1 ‹_›),List.map_append] <;> rfl))) (Ae (he:=(by congr 2;simp)) (h:=(Ae (he:=(by rw [H3,if_pos (hdd.1 ‹_›),List.length_append] <;> rfl))))) (.c (.c (.c (.c (.c .n)))))))));skip
  refine Am (Ah fun _ z=>Y Ax (Y Aa (Ac z (hR0 _ _ (A4 [0] [2,3,10,26,27] ⟨(pre ++ [s],suf),Bu hp,trivial⟩ B9 (Ag (he:=(by rw [H3,if_neg (fun h=>absurd (hdd.2 h) ‹_›)]))) (Ae (he:=(by congr 2;simp)) (h:=(Ae (he:=(by rw [H3,if_neg (fun h=>absurd (hdd.2 h) ‹_›)]))))) (.c (.c (.c (.c (.c .n))))))))));skip
 omega
theorem QW (a:Int):Fun Tryz.prog 274 [iL a] (AI (bL (Kn a)) []):=by
 refine Fun.of (nt:=6) (rs:=[.tmp 2]) Tryz.func274 rfl rfl rfl rfl rfl (Ab fun _ z=>Y Ad (Ac z (Ab fun _ z=>Y Aa (Ay (hF:=L9 _) (h:=Y Bw (Y Ad (Ac z (Ai (Ap ?_)))))))));exact dN Iff.rfl
theorem MT (bars:List Bar) (runs:List Rn) (hok:BV bars runs) (hw:Ce bars) (hrw:Dw runs) (hn:AR runs≤12) (by_:List Int) (hbl:by_.length≤1000):Fun Tryz.prog 161 [.sh 5 (bars.map Bar.c), .sh 10 (runs.map Rn.c), .sh 1 (by_.map AD)] (AI (.tup [.sh 2 ((L5 bars runs by_).map pairC),iL (Eh runs by_)]) []):=by
 have hn1:∀ r ∈ runs,1≤r.n:=fun r hr=>(hok.2.2.1 r hr).2.2.1.1;have hnn:=D4 hn1;have hrl:=Iw (bars:=bars) (runs:=runs);obtain ⟨n,hnE⟩:∃ n,n=(AR runs).toNat:=⟨_,rfl⟩;refine Fun.of (nt:=81) (rs:=[.tmp 6, .tmp 7]) Tryz.func161 rfl rfl rfl rfl rfl (Ab fun _ z=>Y Ad (Y Ad (Ac z (Ab fun _ z=>Y Aa (Y Aa (Ay (hF:=DL bars runs hok hw hrw) (h:=Y Aa (Y AH (Y AH (Y Ad (Y Ad (Ac z (Aj (Ev.block (Ab fun _ z=>Y Aa (Y Bn (Y Ad (Ac z (Bh (fun c1=>?_) (fun c1=>?_))))))))))))))))))))
 ·omega
 refine Ab fun _ z=>Y Aa (Y Be (Y Ad (Ac z (Az (fun c2=>?_) (fun c2=>?_)))))
 ·omega
 refine Ab fun _ z=>Y Aa (Y (A5 am_el24) (Y Aa (Y Bn (Y Ad (Ac z (Bh (fun c3=>?_) (fun c3=>?_)))))))
 ·refine Ab fun _ z=>Y Ad (Y Ad (Ac z (Av (Wk.nsh pairC 6 2) (Ai (Cd ?_)))));rw [(WX (bars:=bars) ‹_›).1,(WX (bars:=bars) ‹_›).2]
 refine Ab fun _ z=>Y Aa (Ay (hF:=HI _ Kn QW by_ (by omega)) (h:=Y Ad (Ac z (Az (fun c4=>?_) (fun c4=>?_)))))
 ·refine Ab fun _ z=>Y Ad (Y Ad (Ac z (Av (Wk.nsh pairC 6 2) (Ai (Cd ?_)))));rw [(Vn (bars:=bars) ‹_› ‹_›).1,(Vn (bars:=bars) ‹_› ‹_›).2]
 refine Am (Ab fun _ z=>Y Aa (Y Aa (Ay (hF:=Pe bars runs hok hw hrw (by omega)) (h:=Y Aa (Y AH (Y AH (Y Ad (Y Ad (Ac z (Aj (Ab fun _ z=>Y Aa (Y Bn (Ac z (Bh (fun c5=>?_) (fun c5=>?_)))))))))))))))
 ·omega
 refine Am (Ab fun _ z=>Y Ad (Ac z (Aj (Ab fun _ z=>Y Aa (Y (A5 am_el136) (Y Aa (Ac z (Ev.block (Av (Wk.nown pairC 11 274 2) (AC (ι:={k:Nat // k≤n}) [0] [2,10,45] (fun ⟨k,_⟩=>[(46,iL (k:Int)),(11, .als 0 0 (HM bars runs by_ n k).length)]) (fun ⟨k,_⟩=>[(0,⟨true,274,2,(HM bars runs by_ n k).map pairC,true⟩)]) (fun ⟨k,_⟩=>n - k) ⟨0,Nat.zero_le _⟩ (.c (.c (.c .n))) (Ag) (Ae (h:=(Ae))) ?_))))))))));rintro ⟨k,hk⟩ R1 hR1;dsimp only [cA,nA,lC,lN];have hel:=KV (bars:=bars) (runs:=runs) (by_:=by_) (n:=n) k;have hkm:k * n≤144:=Nat.le_trans (Nat.mul_le_mul (show k≤12 by omega) (show n≤12 by omega)) (by decide)
 by_cases hkl:k < n
 rotate_left
 ·skip;refine Ab fun _ z=>Y As (Ac z (AG (fun c6=>?_) (fun c6=>?_)))
  ·omega
  refine AA (hR1 _ _ (Ab fun _ z=>Y Aa (Y Ad (Y Ad (Ac z (Av (Wk.frz 6 []) (Ai (Cd ?_))))))));have hie:k=n:=(by omega);subst hie;rw [(WW (bars:=bars) ‹_› ‹_›).1,(WW (bars:=bars) ‹_› ‹_›).2,hnE];rfl
 have hok1:=(Eg hok (i:=k) (by omega)).1;have hr1:=Jr (bars:=bars) (runs:=runs) (i:=k) (by omega);obtain ⟨a,hby⟩:∃ a,by_[k]?= some a:=⟨_,List.getElem?_eq_getElem (by omega)⟩;refine Ab fun _ z=>Y As (Ac z (AG (fun c7=>?_) (fun c7=>?_)))
 ·refine Aj (Ev.block ?_);have hax:∀ a ∈ by_,a ∈ six:=fun a ha=>Decidable.byContradiction fun h=>absurd ⟨a,ha,decide_eq_true h⟩ ‹¬ ∃ x ∈ by_,Kn x=true›;refine Ab fun _ z=>Y Aa (Y Ad (Ac z (Ab fun _ z=>Y Aa (Y (A5 am_el136) (Y Aa (Ac z (Ev.block (AC (ι:={j:Nat // j≤n}) [0] [2,10,12,45,46,50] (fun ⟨j,_⟩=>[(51,iL (j:Int)),(11, .als 0 0 (HM bars runs by_ n k ++ Er bars runs by_ k j).length)]) (fun ⟨j,_⟩=>[(0,⟨true,274,2,(HM bars runs by_ n k ++ Er bars runs by_ k j).map pairC,true⟩)]) (fun ⟨j,_⟩=>n - j) ⟨0,Nat.zero_le _⟩ (.c (.c (.c (.c (.c (.c .n)))))) (Ag (he:=(by simp [Er]))) (Ae (h:=(Ae (he:=(by simp [Er]))))) ?_))))))));rintro ⟨j,hj⟩ R3 hR3;dsimp only [cA,nA,lC,lN];have her:=O0 (bars:=bars) (runs:=runs) (by_:=by_) (i:=k) (K:=j)
  by_cases hjl:j < n
  rotate_left
  ·have hje:j=n:=by omega
   refine Ab fun _ z=>Y As (Ac z (AG (fun c8=>?_) (fun c8=>?_)))
   ·omega
   refine AA (hR3 _ _ (Ah fun _ z=>Y Ax (Y Aa (Ac z (hR1 _ _ (A4 [0] [2,10,45] ⟨k+1,by omega⟩ ?_ (Ag (he:=(by rw [hje,JH]))) (Ae (h:=(Ae (he:=(by rw [hje,JH,List.length_append] <;> rfl))))) (.c (.c (.c .n)))))))));skip;all_goals (dsimp only;omega)
  have hok2:=(Eg hok (i:=j) (by omega)).1;have hr2:=Jr (bars:=bars) (runs:=runs) (i:=j) (by omega);have hdd:HF (BS bars runs k) (BS bars runs j) a↔Ep bars runs k j a:=Iff.rfl;refine Ab fun _ z=>Y As (Ac z (AG (fun c9=>?_) (fun c9=>?_)))
  ·refine Aj (Ev.block (Ab fun _ z=>Y Aa (Y Ad (Ac z (BW (tbs [(0,0),(0,0),(2,3),(3,7),(4,15),(4,15),(6,63),(7,127),(4,15),(4,15),(10,783),(11,1807),(4,15),(4,15),(14,12303),(15,28687),(16,65535),(17,131071)]) 18 fun _ z=>Ak Aa (Ak Aa (Ak Bn (QG Aa (fun c10=>?_) (fun c10=>?_)))))))))
   ·refine Ak Aa (Ak Aa (Ak (AQ am_el136 am_cl280 (hl:=(by exact Ba hr1 (by omega)))) (Ak (Bv _ am_ag280 am_cl280) (Ak Aa (Ak Aa (Ak (AQ am_el136 am_cl280 (hl:=(by exact Ba hr2 (by omega)))) (Ak (Bv _ am_ag280 am_cl280) (Ak Aa (Ak Aa (Ak (AQ am_el24 am_cl3 (hl:=(by exact Ba hby (by omega)))) (Ak (AO am_ag3) (Cc (hF:=Ls (BS bars runs k) (BS bars runs j) a (hax a (List.mem_of_getElem? hby)) hok1 hok2) (h:=Ak AF (B3 [_] (h:=Ac z (Az (fun c11=>?_) (fun c11=>?_)))))))))))))))))
    ·refine Ah fun _ z=>Y Aa (Y Aa (Y Aa (Y (DW [_,_] am_ze274 am_pn274 am_ar274 am_cl3) (Aq (Bf [[_,_]] true am_el132 am_ze274 am_cl274) (AW [_] am_el132 am_ze274 am_cl274 am_by274 (hh:=A3) (hr:=(A7 [((k:Int),(j:Int))])) (h:=Y Ad (Ac z ?_)))))));show Ev _ _ _ _;refine Ah fun _ z=>Y Ax (Y Aa (Ac z (hR3 _ _ (A4 [74] [2,10,12,45,46,50] ⟨j+1,by omega⟩ ?_ (Ag (he:=(by rw [Sy hby ‹_› ‹_›, ← List.append_assoc,List.map_append] <;> rfl))) (Ae (h:=(Ae (he:=(by rw [Sy hby ‹_› ‹_›, ← List.append_assoc,List.length_append] <;> rfl))))) (.c (.c (.c (.c (.c (.c .n))))))))));skip;all_goals (dsimp only;omega)
    refine Am (Ah fun _ z=>Y Ax (Y Aa (Ac z (hR3 _ _ (A4 [0] [2,10,12,45,46,50] ⟨j+1,by omega⟩ ?_ (Ag (he:=(by rw [Qm hby (fun h=>absurd (hdd.2 h) ‹_›)]))) (Ae (h:=(Ae (he:=(by rw [Qm hby (fun h=>absurd (hdd.2 h) ‹_›)]))))) (.c (.c (.c (.c (.c (.c .n)))))))))));skip;all_goals (dsimp only;omega)
   refine Bm (Bm (Bm (Bm (Bm (Bm (Bm (Bm (Bm (Bm (Bm (Bm (Bm (Ak AE (B3 [_] (h:=Ac z (Cw (Am (Ah fun _ z=>Y Ax (Y Aa (Ac z (hR3 _ _ (A4 [0] [2,10,12,45,46,50] ⟨j+1,by omega⟩ ?_ (Ag (he:=(by rw [Ql (fun h=>h ‹_›)]))) (Ae (h:=(Ae (he:=(by rw [Ql (fun h=>h ‹_›)]))))) (.c (.c (.c (.c (.c (.c .n))))))))))))))))))))))))))));skip;all_goals (dsimp only;omega)
  omega
 omega
def JD (l:List Bx):List AV:=[.sh 6 (l.map Bx.c)]
def Cm (l:List Bar):List (List UInt8 × Int):=l.foldl (fun m b=>mput m b.mark b.size) []
theorem Kf (l:List Bar) (s:Bar):Cm (l ++ [s])=mput (Cm l) s.mark s.size:=by simp [Cm,List.foldl_append]
theorem Pj (mk:List UInt8):∀ (suf l:List Bar),(∀ b ∈ suf,b.mark≠mk)→mget (Cm (l ++ suf)) mk=mget (Cm l) mk
 |[],l,_=>by rw [List.append_nil]
 |s :: suf,l,h=>by
  rw [show l ++ s :: suf=(l ++ [s]) ++ suf by simp,Pj mk suf (l ++ [s]) (fun b hb=>h b (by simp [hb])),Kf,Nh,if_neg (fun e=>h s (by simp) e.symm)]
theorem UW {bars:List Bar} {mk:List UInt8} (hok:CY bars) (h:0≤CE bars mk):(mget (Cm bars) mk).getD 0=(Cy bars mk).size:=by
 have hm:=G1 h
 have hmk:(Cy bars mk).mark=mk:=by
  have hg:=G0 h;obtain ⟨_,x,hx,hpx⟩:=Lb (fun b:Bar=>decide (b.mark=mk)) bars 0 (by decide) h;rw [Int.sub_zero] at hx;have hx2:bars[(CE bars mk).toNat]?= some x:=hx;rw [hg] at hx2;simp only [Option.some.injEq] at hx2;subst hx2
  simpa using hpx
 obtain ⟨pre,suf,hp⟩:=List.append_of_mem hm;have hpw:=hok.2.2;rw [hp,List.pairwise_append,List.pairwise_cons] at hpw
 generalize Cy bars mk=b at *
 rw [hp,show pre ++ b :: suf=(pre ++ [b]) ++ suf by simp,Pj mk suf (pre ++ [b]) (fun c hc e=>hpw.2.1.1 c hc (by rw [hmk,e])),Kf,Nh,if_pos hmk.symm];rfl
def Ek (bars:List Bar) (runs:List Rn) (n:Nat):List (List Bx):=(List.range n).map fun i=>(BS bars runs i).1
def FA (bars:List Bar) (runs:List Rn) (n:Nat):List Int:=(List.range n).map fun i=>(BS bars runs i).2
theorem JR {bars:List Bar} {runs:List Rn} {n:Nat}:(Ek bars runs n).length=n:=by simp [Ek]
theorem UV {bars:List Bar} {runs:List Rn} {n:Nat}:(FA bars runs n).length=n:=by simp [FA]
theorem Jk {bars:List Bar} {runs:List Rn} {n i:Nat} (h:i < n):(Ek bars runs n)[i]?= some (BS bars runs i).1:=by simp [Ek,h]
theorem Q4 {bars:List Bar} {runs:List Rn} {n i:Nat} (h:i < n):(FA bars runs n)[i]?= some (BS bars runs i).2:=by simp [FA,h]
def Dt (m n:Int):Int:=if m < 0∨n < m then n else m
def DD (a:Bx) (l:List Bx) (m:Int):Int:=l.foldl (fun m b=>Dt m (Ex a b)) m
def Et (l k:List Bx) (m:Int):Int:=l.foldl (fun m a=>DD a k m) m
def FF (i k:List Bx):Int:=Et i k (-1)
theorem IA (a:Bx) (l:List Bx) (b:Bx) (m:Int):DD a (l ++ [b]) m=Dt (DD a l m) (Ex a b):=by simp [DD,List.foldl_append]
theorem PS (l:List Bx) (a:Bx) (k:List Bx) (m:Int):Et (l ++ [a]) k m=DD a k (Et l k m):=by simp [Et,List.foldl_append]
theorem Uo {m n:Int} (h:m < 0):Dt m n=n:=if_pos (.inl h)
theorem SH {m n:Int} (h:n < m):Dt m n=n:=if_pos (.inr h)
theorem Un {m n:Int} (h:¬ m < 0) (h2:¬ n < m):Dt m n=m:=if_neg (by omega)
theorem SX (bars:List Bar) (runs:List Rn) (hok:BV bars runs) (hw:Ce bars) (hrw:Dw runs) (hn:AR runs≤2000):Fun Tryz.prog 149 [.sh 5 (bars.map Bar.c), .sh 10 (runs.map Rn.c)] (AI (.tup [.sadr [.sh 1 ((Ek bars runs (AR runs).toNat).map JD), .sh 1 ((FA bars runs (AR runs).toNat).map AD)] 0,iL 0]) []):=by
 obtain ⟨⟨hb60,_⟩,hr60,hrr,hc2⟩:=id hok
 have hlen:bars.length≤140737488355328:=by omega
 have hn1:∀ r ∈ runs,1≤r.n:=fun r hr=>(hrr r hr).2.2.1.1;have hnn:=D4 hn1;have hml:=F4 (bars:=bars) hn1;have hmm:=marksL_len hn1;refine Fun.of (nt:=88) (rs:=[.tmp 4, .tmp 5]) Tryz.func149 rfl rfl rfl rfl rfl (Ab fun _ z=>Y Ad (Y Ad (Ac z (Ab fun _ z=>Y Aa (Y Aa (Ay (hF:=DL bars runs hok hw hrw) (h:=Y Aa (Y AH (Y AH (Y Ad (Y Ad (Ac z (Aj (Ab fun _ z=>Y Aa (Y Bn (Ac z (Bh (fun c1=>?_) (fun c1=>?_))))))))))))))))))
 ·omega
 refine Am (Ab fun _ z=>Aq (v:= .hd 0) (o:=⟨true,293,3,([]:List (List UInt8 × Int)).map (G5 (C9) (Value.int .i64)),true⟩) (YS am_mt293) (Y Ad (Ac z (Aj (Ab fun _ z=>Y Aa (Y (A5 am_el22) (Y Aa (Ac z (Ev.block (AC (ι:={p:List (Bar) × List (Bar) // p.1 ++ p.2=bars∧True}) [0] [0,1,6,8,26,27] (fun ⟨(pre,suf),_⟩=>[(28,iL (pre.length:Int))]) (fun ⟨(pre,suf),_⟩=>[(0,⟨true,293,3,(Cm pre).map (G5 (C9) (Value.int .i64)),true⟩)]) (fun ⟨(pre,suf),_⟩=>suf.length) ⟨([],bars),rfl,trivial⟩ (.c (.c (.c (.c (.c (.c .n)))))) (Ag) (Ae) ?_))))))))));rintro ⟨⟨pre,suf⟩,hp,hinv⟩ R0 hR0;dsimp only [cA,nA,lC,lN]
 simp only at hp hinv
 have hpl:=BO hp
 rcases suf with _ | ⟨s,suf⟩
 ·rw [List.append_nil] at hp;simp only [lN] at hpl;subst pre;refine Ab fun _ z=>Y As (Ac z (AG (fun c2=>?_) (fun c2=>?_)))
  ·omega
  refine AA (hR0 _ _ (Ab fun _ z=>Y (Bg _ am_ze127 am_pl127) (Aq (Bo _ true) (Y Ad (Ac z (Aj (Av (Wk.nilv (f:=JD) 1 0 37 1 [_]) (Av (Wk.nilv (f:=AD) 1 1 3 1 [_,_]) (Ab fun _ z=>(SeqL.weaken (Wk.frzm [8] [_,_,_] (by intro d hd;simp only [List.mem_cons,List.not_mem_nil,or_false] at hd;rcases hd with rfl <;> rfl) (hex:=⟨8,rfl⟩)) (Y Aa (Y Aa (Ac z (Ev.block (AC (ι:={k:Nat // (k:Int)≤AR runs}) [1,2,3] [0,1,8,11,40] (fun ⟨k,_⟩=>[(41,iL (k:Int))]) (fun ⟨k,_⟩=>[(0,⟨false,127,2,[[.als 1 0 (Ek bars runs k).length, .als 2 0 (FA bars runs k).length]],false⟩),(1,⟨true,37,1,(Ek bars runs k).map JD,true⟩),(2,⟨true,3,1,(FA bars runs k).map AD,true⟩)]) (fun ⟨k,_⟩=>(AR runs - k).toNat) ⟨0,by simpa using hnn⟩ (.c (.c (.c (.c (.c .n))))) (Bd (h:=(Ag (h:=(Ag))))) (Ae) ?_)))))))))))))));rintro ⟨k,hk⟩ R2 hR2;dsimp only [cA,nA,lC,lN]
  by_cases hkl:(k:Int) < AR runs
  rotate_left
  ·skip;refine Ab fun _ z=>Y As (Ac z (AG (fun c3=>?_) (fun c3=>?_)))
   ·omega
   refine AA (hR2 _ _ (Av (Wk.frzC (f:=JD) _ 0 0 [_]) (Av (Wk.frzC (f:=AD) _ 0 1 []) (Av (Wk.frzv 11 []) (Ab fun _ z=>Y Aa (Y Ad (Y Ad (Ac z (Ai (Cd ?_))))))))));have hke:k=(AR runs).toNat:=(by omega);subst hke;rfl
  obtain ⟨l,hlk⟩:∃ p,(CZ bars runs)[k]?= some p:=⟨_,List.getElem?_eq_getElem (by omega)⟩;obtain ⟨mk,hmk⟩:∃ p,(DU runs)[k]?= some p:=⟨_,List.getElem?_eq_getElem (by omega)⟩;have hmi:=Ld hok (List.mem_of_getElem? hmk);have hsz:=UW hok.1 hmi
  have hra:BS bars runs k=(BP l,(Cy bars mk).size):=by unfold BS NR;rw [hlk,hmk];rfl
  have hla:Ek bars runs (k+1)=Ek bars runs k ++ [BP l]:=by rw [Ek,Ek,List.range_succ,List.map_append,List.map_singleton,hra]
  have hsa:FA bars runs (k+1)=FA bars runs k ++ [((mget (Cm bars) mk).getD 0)]:=by rw [FA,FA,List.range_succ,List.map_append,List.map_singleton,hra,hsz]
  have hll:=JR (bars:=bars) (runs:=runs) (n:=k);have hsl:=UV (bars:=bars) (runs:=runs) (n:=k);refine Ab fun _ z=>Y As (Ac z (AG (fun c4=>?_) (fun c4=>?_)))
  ·refine Aj (Ev.block (Ab fun _ z=>Y Aa (Y Ad (Ac z (Ab fun _ z=>Y Aa (Y Aa (Y Aa (Ay (hF:=JO bars runs hok hw hrw k l hlk) (h:=Y Aa (Y AH (Y AH (Y Ad (Y Ad (Ac z (Aj (Ab fun _ z=>Y Aa (Y Bn (Ac z (Bh (fun c5=>?_) (fun c5=>?_))))))))))))))))))))
   ·omega
   refine Am (Ab fun _ z=>Y Aa (Y Aa (Y Aa (Ay (hF:=JP bars runs hok hw hrw k mk hmk) (h:=Y Aa (Y AH (Y AH (Y Ad (Y Ad (Ac z (Aj (Ab fun _ z=>Y Aa (Y Bn (Ac z (Bh (fun c6=>?_) (fun c6=>?_))))))))))))))))
   ·omega
   refine Am (V2 (m:=24) (nr:=3) (L0:= #[false,false,false,false,false,false,false,false,false,false,false,false,false,false,false,false,false,false,false,false,false,false,false,false]) [0,1,8,13,15,40,41] [(11, .adr 0 0 0)] [(0,⟨false,127,2,[[.als 1 0 (Ek bars runs (k+1)).length, .als 2 0 (FA bars runs (k+1)).length]],false⟩),(1,⟨true,37,1,(Ek bars runs (k+1)).map JD,true⟩),(2,⟨true,3,1,(FA bars runs (k+1)).map AD,true⟩)] (.c (.c (.c (.c (.c (.c (.c .n))))))) rfl (by kernel_rfl) (by exact rfl) (fun _ z=>?_) ?_)
   ·skip;refine CL (i:=0) rfl (h:=(CL (i:=1) rfl (h:=(CL (i:=2) rfl (h:=(Vf (i:=3) rfl (h:=(Ig (i:=4) am_fi127_0 (by rw [am_cl125];decide) rfl (h:=(CL (i:=6) rfl (h:=(CL (i:=9) rfl (h:=(Vf (i:=10) rfl (h:=(Ig (i:=11) am_fi127_1 (by rw [am_cl24];decide) rfl (h:=(CL (i:=13) rfl (h:=(CL (i:=14) rfl (h:=(WC (vv:=(Value.int .i64)) (i:=15) klS am_mt293 rfl (h:=(.done (V9 (i:=5) (j:=7) (k:=12) (q:=16) trivial rfl rfl rfl rfl (Y (Ao am_ag125) (Af ?_)) (Aq (Bf [[_]] true am_el125 am_ze37 am_cl37) (Af ?_)) (Y (Ao am_ag24) (Af ?_)) (Aq (Bf [[_]] true am_el24 am_ze3 am_cl3) (Af ?_)))))))))))))))))))))))))))
    ·skip;refine E6 (i:=7) (j:=12) (k:=16) trivial rfl rfl rfl (Aq (Bf [[_]] true am_el125 am_ze37 am_cl37) (Af ?_)) (Y (Ao am_ag24) (Af ?_)) (Aq (Bf [[_]] true am_el24 am_ze3 am_cl3) (Af ?_))
     ·skip;refine E6 (i:=8) (j:=12) (k:=16) trivial rfl rfl rfl (AW [_,_,_] am_el125 am_ze37 am_cl37 am_by37 (hh:=A3) (hr:=(A7 [BP l])) (h:=Af ?_)) (Y (Ao am_ag24) (Af ?_)) (Aq (Bf [[_]] true am_el24 am_ze3 am_cl3) (Af ?_))
      ·skip;refine By (i:=12) (j:=16) trivial rfl rfl (Y (Ao am_ag24) (Af ?_)) (Aq (Bf [[_]] true am_el24 am_ze3 am_cl3) (Af ?_))
       ·skip;refine HT.one (i:=16) trivial rfl (Aq (Bf [[_]] true am_el24 am_ze3 am_cl3) (Af (HT.one (i:=17) trivial rfl (AW [_,_,_,_] am_el24 am_ze3 am_cl3 am_by3 (hh:=A3) (hr:=(A7 [((mget (Cm bars) mk).getD 0)])) (h:=Af (HT.one (i:=18) trivial rfl (Y AP (Af (HT.one (i:=19) trivial rfl (Y (An 0 am_fi127_0 am_cl125) (Af (HT.one (i:=20) trivial rfl (Ar _ false [_,_,_,_] am_in125 am_cl125 (h:=Af (HT.one (i:=21) trivial rfl (Y AP (Af (HT.one (i:=22) trivial rfl (Y (An 1 am_fi127_1 am_cl24) (Af (HT.one (i:=23) trivial rfl (Ar _ false [_,_,_,_] am_in24 am_cl24 (h:=Af (Bc trivial (by kernel_rfl) (z _ (Cf [0,4,6] [0,1,8,13,15,40,41] (Bd (he:=(by rw [hla,hsa,List.length_append,List.length_append] <;> rfl)) (h:=(Ag (he:=(by rw [hla,List.map_append] <;> rfl)) (h:=(Ag (he:=(by rw [hsa,List.map_append] <;> rfl))))))) (Ae) (.c (.c (.c (.c (.c (.c (.c .n)))))))))))))))))))))))))))))))))
       skip;refine HT.one (i:=12) trivial rfl (Y (Ao am_ag24) (Af (HT.one (i:=17) trivial rfl (AW [_,_,_,_] am_el24 am_ze3 am_cl3 am_by3 (hh:=A3) (hr:=(A7 [((mget (Cm bars) mk).getD 0)])) (h:=Af (HT.one (i:=18) trivial rfl (Y AP (Af (HT.one (i:=19) trivial rfl (Y (An 0 am_fi127_0 am_cl125) (Af (HT.one (i:=20) trivial rfl (Ar _ false [_,_,_,_] am_in125 am_cl125 (h:=Af (HT.one (i:=21) trivial rfl (Y AP (Af (HT.one (i:=22) trivial rfl (Y (An 1 am_fi127_1 am_cl24) (Af (HT.one (i:=23) trivial rfl (Ar _ false [_,_,_,_] am_in24 am_cl24 (h:=Af (Bc trivial (by kernel_rfl) (z _ (Cf [0,4,6] [0,1,8,13,15,40,41] (Bd (he:=(by rw [hla,hsa,List.length_append,List.length_append] <;> rfl)) (h:=(Ag (he:=(by rw [hla,List.map_append] <;> rfl)) (h:=(Ag (he:=(by rw [hsa,List.map_append] <;> rfl))))))) (Ae) (.c (.c (.c (.c (.c (.c (.c .n)))))))))))))))))))))))))))))))))
      ·skip;refine By (i:=8) (j:=16) trivial rfl rfl (AW [_,_,_] am_el125 am_ze37 am_cl37 am_by37 (hh:=A3) (hr:=(A7 [BP l])) (h:=Af ?_)) (Aq (Bf [[_]] true am_el24 am_ze3 am_cl3) (Af ?_))
       ·skip;refine HT.one (i:=16) trivial rfl (Aq (Bf [[_]] true am_el24 am_ze3 am_cl3) (Af (HT.one (i:=17) trivial rfl (AW [_,_,_,_] am_el24 am_ze3 am_cl3 am_by3 (hh:=A3) (hr:=(A7 [((mget (Cm bars) mk).getD 0)])) (h:=Af (HT.one (i:=18) trivial rfl (Y AP (Af (HT.one (i:=19) trivial rfl (Y (An 0 am_fi127_0 am_cl125) (Af (HT.one (i:=20) trivial rfl (Ar _ false [_,_,_,_] am_in125 am_cl125 (h:=Af (HT.one (i:=21) trivial rfl (Y AP (Af (HT.one (i:=22) trivial rfl (Y (An 1 am_fi127_1 am_cl24) (Af (HT.one (i:=23) trivial rfl (Ar _ false [_,_,_,_] am_in24 am_cl24 (h:=Af (Bc trivial (by kernel_rfl) (z _ (Cf [0,4,6] [0,1,8,13,15,40,41] (Bd (he:=(by rw [hla,hsa,List.length_append,List.length_append] <;> rfl)) (h:=(Ag (he:=(by rw [hla,List.map_append] <;> rfl)) (h:=(Ag (he:=(by rw [hsa,List.map_append] <;> rfl))))))) (Ae) (.c (.c (.c (.c (.c (.c (.c .n)))))))))))))))))))))))))))))))))
       skip;refine HT.one (i:=8) trivial rfl (AW [_,_,_,_] am_el125 am_ze37 am_cl37 am_by37 (hh:=A3) (hr:=(A7 [BP l])) (h:=Af (HT.one (i:=17) trivial rfl (AW [_,_,_,_] am_el24 am_ze3 am_cl3 am_by3 (hh:=A3) (hr:=(A7 [((mget (Cm bars) mk).getD 0)])) (h:=Af (HT.one (i:=18) trivial rfl (Y AP (Af (HT.one (i:=19) trivial rfl (Y (An 0 am_fi127_0 am_cl125) (Af (HT.one (i:=20) trivial rfl (Ar _ false [_,_,_,_] am_in125 am_cl125 (h:=Af (HT.one (i:=21) trivial rfl (Y AP (Af (HT.one (i:=22) trivial rfl (Y (An 1 am_fi127_1 am_cl24) (Af (HT.one (i:=23) trivial rfl (Ar _ false [_,_,_,_] am_in24 am_cl24 (h:=Af (Bc trivial (by kernel_rfl) (z _ (Cf [0,5,6] [0,1,8,13,15,40,41] (Bd (he:=(by rw [hla,hsa,List.length_append,List.length_append] <;> rfl)) (h:=(Ag (he:=(by rw [hla,List.map_append] <;> rfl)) (h:=(Ag (he:=(by rw [hsa,List.map_append] <;> rfl))))))) (Ae) (.c (.c (.c (.c (.c (.c (.c .n)))))))))))))))))))))))))))))))))
      skip;refine By (i:=8) (j:=12) trivial rfl rfl (AW [_,_,_,_] am_el125 am_ze37 am_cl37 am_by37 (hh:=A3) (hr:=(A7 [BP l])) (h:=Af ?_)) (Y (Ao am_ag24) (Af ?_))
      ·skip;refine HT.one (i:=12) trivial rfl (Y (Ao am_ag24) (Af (HT.one (i:=17) trivial rfl (AW [_,_,_,_] am_el24 am_ze3 am_cl3 am_by3 (hh:=A3) (hr:=(A7 [((mget (Cm bars) mk).getD 0)])) (h:=Af (HT.one (i:=18) trivial rfl (Y AP (Af (HT.one (i:=19) trivial rfl (Y (An 0 am_fi127_0 am_cl125) (Af (HT.one (i:=20) trivial rfl (Ar _ false [_,_,_,_] am_in125 am_cl125 (h:=Af (HT.one (i:=21) trivial rfl (Y AP (Af (HT.one (i:=22) trivial rfl (Y (An 1 am_fi127_1 am_cl24) (Af (HT.one (i:=23) trivial rfl (Ar _ false [_,_,_,_] am_in24 am_cl24 (h:=Af (Bc trivial (by kernel_rfl) (z _ (Cf [0,5,6] [0,1,8,13,15,40,41] (Bd (he:=(by rw [hla,hsa,List.length_append,List.length_append] <;> rfl)) (h:=(Ag (he:=(by rw [hla,List.map_append] <;> rfl)) (h:=(Ag (he:=(by rw [hsa,List.map_append] <;> rfl))))))) (Ae) (.c (.c (.c (.c (.c (.c (.c .n)))))))))))))))))))))))))))))))))
      skip;refine HT.one (i:=8) trivial rfl (AW [_,_,_,_] am_el125 am_ze37 am_cl37 am_by37 (hh:=A3) (hr:=(A7 [BP l])) (h:=Af (HT.one (i:=17) trivial rfl (AW [_,_,_,_] am_el24 am_ze3 am_cl3 am_by3 (hh:=A3) (hr:=(A7 [((mget (Cm bars) mk).getD 0)])) (h:=Af (HT.one (i:=18) trivial rfl (Y AP (Af (HT.one (i:=19) trivial rfl (Y (An 0 am_fi127_0 am_cl125) (Af (HT.one (i:=20) trivial rfl (Ar _ false [_,_,_,_] am_in125 am_cl125 (h:=Af (HT.one (i:=21) trivial rfl (Y AP (Af (HT.one (i:=22) trivial rfl (Y (An 1 am_fi127_1 am_cl24) (Af (HT.one (i:=23) trivial rfl (Ar _ false [_,_,_,_] am_in24 am_cl24 (h:=Af (Bc trivial (by kernel_rfl) (z _ (Cf [0,5,6] [0,1,8,13,15,40,41] (Bd (he:=(by rw [hla,hsa,List.length_append,List.length_append] <;> rfl)) (h:=(Ag (he:=(by rw [hla,List.map_append] <;> rfl)) (h:=(Ag (he:=(by rw [hsa,List.map_append] <;> rfl))))))) (Ae) (.c (.c (.c (.c (.c (.c (.c .n)))))))))))))))))))))))))))))))))
     ·skip;refine By (i:=7) (j:=16) trivial rfl rfl (Aq (Bf [[_]] true am_el125 am_ze37 am_cl37) (Af ?_)) (Aq (Bf [[_]] true am_el24 am_ze3 am_cl3) (Af ?_))
      ·skip;refine By (i:=8) (j:=16) trivial rfl rfl (AW [_,_,_] am_el125 am_ze37 am_cl37 am_by37 (hh:=A3) (hr:=(A7 [BP l])) (h:=Af ?_)) (Aq (Bf [[_]] true am_el24 am_ze3 am_cl3) (Af ?_))
       ·skip;refine HT.one (i:=16) trivial rfl (Aq (Bf [[_]] true am_el24 am_ze3 am_cl3) (Af (HT.one (i:=17) trivial rfl (AW [_,_,_,_] am_el24 am_ze3 am_cl3 am_by3 (hh:=A3) (hr:=(A7 [((mget (Cm bars) mk).getD 0)])) (h:=Af (HT.one (i:=18) trivial rfl (Y AP (Af (HT.one (i:=19) trivial rfl (Y (An 0 am_fi127_0 am_cl125) (Af (HT.one (i:=20) trivial rfl (Ar _ false [_,_,_,_] am_in125 am_cl125 (h:=Af (HT.one (i:=21) trivial rfl (Y AP (Af (HT.one (i:=22) trivial rfl (Y (An 1 am_fi127_1 am_cl24) (Af (HT.one (i:=23) trivial rfl (Ar _ false [_,_,_,_] am_in24 am_cl24 (h:=Af (Bc trivial (by kernel_rfl) (z _ (Cf [0,4,6] [0,1,8,13,15,40,41] (Bd (he:=(by rw [hla,hsa,List.length_append,List.length_append] <;> rfl)) (h:=(Ag (he:=(by rw [hla,List.map_append] <;> rfl)) (h:=(Ag (he:=(by rw [hsa,List.map_append] <;> rfl))))))) (Ae) (.c (.c (.c (.c (.c (.c (.c .n)))))))))))))))))))))))))))))))))
       skip;refine HT.one (i:=8) trivial rfl (AW [_,_,_,_] am_el125 am_ze37 am_cl37 am_by37 (hh:=A3) (hr:=(A7 [BP l])) (h:=Af (HT.one (i:=17) trivial rfl (AW [_,_,_,_] am_el24 am_ze3 am_cl3 am_by3 (hh:=A3) (hr:=(A7 [((mget (Cm bars) mk).getD 0)])) (h:=Af (HT.one (i:=18) trivial rfl (Y AP (Af (HT.one (i:=19) trivial rfl (Y (An 0 am_fi127_0 am_cl125) (Af (HT.one (i:=20) trivial rfl (Ar _ false [_,_,_,_] am_in125 am_cl125 (h:=Af (HT.one (i:=21) trivial rfl (Y AP (Af (HT.one (i:=22) trivial rfl (Y (An 1 am_fi127_1 am_cl24) (Af (HT.one (i:=23) trivial rfl (Ar _ false [_,_,_,_] am_in24 am_cl24 (h:=Af (Bc trivial (by kernel_rfl) (z _ (Cf [0,5,6] [0,1,8,13,15,40,41] (Bd (he:=(by rw [hla,hsa,List.length_append,List.length_append] <;> rfl)) (h:=(Ag (he:=(by rw [hla,List.map_append] <;> rfl)) (h:=(Ag (he:=(by rw [hsa,List.map_append] <;> rfl))))))) (Ae) (.c (.c (.c (.c (.c (.c (.c .n)))))))))))))))))))))))))))))))))
      skip;refine HT.one (i:=7) trivial rfl (Aq (Bf [[_]] true am_el125 am_ze37 am_cl37) (Af (HT.one (i:=8) trivial rfl (AW [_,_,_,_] am_el125 am_ze37 am_cl37 am_by37 (hh:=A3) (hr:=(A7 [BP l])) (h:=Af (HT.one (i:=17) trivial rfl (AW [_,_,_,_] am_el24 am_ze3 am_cl3 am_by3 (hh:=A3) (hr:=(A7 [((mget (Cm bars) mk).getD 0)])) (h:=Af (HT.one (i:=18) trivial rfl (Y AP (Af (HT.one (i:=19) trivial rfl (Y (An 0 am_fi127_0 am_cl125) (Af (HT.one (i:=20) trivial rfl (Ar _ false [_,_,_,_] am_in125 am_cl125 (h:=Af (HT.one (i:=21) trivial rfl (Y AP (Af (HT.one (i:=22) trivial rfl (Y (An 1 am_fi127_1 am_cl24) (Af (HT.one (i:=23) trivial rfl (Ar _ false [_,_,_,_] am_in24 am_cl24 (h:=Af (Bc trivial (by kernel_rfl) (z _ (Cf [0,5,6] [0,1,8,13,15,40,41] (Bd (he:=(by rw [hla,hsa,List.length_append,List.length_append] <;> rfl)) (h:=(Ag (he:=(by rw [hla,List.map_append] <;> rfl)) (h:=(Ag (he:=(by rw [hsa,List.map_append] <;> rfl))))))) (Ae) (.c (.c (.c (.c (.c (.c (.c .n))))))))))))))))))))))))))))))))))))
     skip;refine By (i:=7) (j:=12) trivial rfl rfl (Aq (Bf [[_]] true am_el125 am_ze37 am_cl37) (Af ?_)) (Y (Ao am_ag24) (Af ?_))
     ·skip;refine By (i:=8) (j:=12) trivial rfl rfl (AW [_,_,_,_] am_el125 am_ze37 am_cl37 am_by37 (hh:=A3) (hr:=(A7 [BP l])) (h:=Af ?_)) (Y (Ao am_ag24) (Af ?_))
      ·skip;refine HT.one (i:=12) trivial rfl (Y (Ao am_ag24) (Af (HT.one (i:=17) trivial rfl (AW [_,_,_,_] am_el24 am_ze3 am_cl3 am_by3 (hh:=A3) (hr:=(A7 [((mget (Cm bars) mk).getD 0)])) (h:=Af (HT.one (i:=18) trivial rfl (Y AP (Af (HT.one (i:=19) trivial rfl (Y (An 0 am_fi127_0 am_cl125) (Af (HT.one (i:=20) trivial rfl (Ar _ false [_,_,_,_] am_in125 am_cl125 (h:=Af (HT.one (i:=21) trivial rfl (Y AP (Af (HT.one (i:=22) trivial rfl (Y (An 1 am_fi127_1 am_cl24) (Af (HT.one (i:=23) trivial rfl (Ar _ false [_,_,_,_] am_in24 am_cl24 (h:=Af (Bc trivial (by kernel_rfl) (z _ (Cf [0,5,6] [0,1,8,13,15,40,41] (Bd (he:=(by rw [hla,hsa,List.length_append,List.length_append] <;> rfl)) (h:=(Ag (he:=(by rw [hla,List.map_append] <;> rfl)) (h:=(Ag (he:=(by rw [hsa,List.map_append] <;> rfl))))))) (Ae) (.c (.c (.c (.c (.c (.c (.c .n)))))))))))))))))))))))))))))))))
      skip;refine HT.one (i:=8) trivial rfl (AW [_,_,_,_] am_el125 am_ze37 am_cl37 am_by37 (hh:=A3) (hr:=(A7 [BP l])) (h:=Af (HT.one (i:=17) trivial rfl (AW [_,_,_,_] am_el24 am_ze3 am_cl3 am_by3 (hh:=A3) (hr:=(A7 [((mget (Cm bars) mk).getD 0)])) (h:=Af (HT.one (i:=18) trivial rfl (Y AP (Af (HT.one (i:=19) trivial rfl (Y (An 0 am_fi127_0 am_cl125) (Af (HT.one (i:=20) trivial rfl (Ar _ false [_,_,_,_] am_in125 am_cl125 (h:=Af (HT.one (i:=21) trivial rfl (Y AP (Af (HT.one (i:=22) trivial rfl (Y (An 1 am_fi127_1 am_cl24) (Af (HT.one (i:=23) trivial rfl (Ar _ false [_,_,_,_] am_in24 am_cl24 (h:=Af (Bc trivial (by kernel_rfl) (z _ (Cf [0,5,6] [0,1,8,13,15,40,41] (Bd (he:=(by rw [hla,hsa,List.length_append,List.length_append] <;> rfl)) (h:=(Ag (he:=(by rw [hla,List.map_append] <;> rfl)) (h:=(Ag (he:=(by rw [hsa,List.map_append] <;> rfl))))))) (Ae) (.c (.c (.c (.c (.c (.c (.c .n)))))))))))))))))))))))))))))))))
     skip;refine HT.one (i:=7) trivial rfl (Aq (Bf [[_]] true am_el125 am_ze37 am_cl37) (Af (HT.one (i:=8) trivial rfl (AW [_,_,_,_] am_el125 am_ze37 am_cl37 am_by37 (hh:=A3) (hr:=(A7 [BP l])) (h:=Af (HT.one (i:=17) trivial rfl (AW [_,_,_,_] am_el24 am_ze3 am_cl3 am_by3 (hh:=A3) (hr:=(A7 [((mget (Cm bars) mk).getD 0)])) (h:=Af (HT.one (i:=18) trivial rfl (Y AP (Af (HT.one (i:=19) trivial rfl (Y (An 0 am_fi127_0 am_cl125) (Af (HT.one (i:=20) trivial rfl (Ar _ false [_,_,_,_] am_in125 am_cl125 (h:=Af (HT.one (i:=21) trivial rfl (Y AP (Af (HT.one (i:=22) trivial rfl (Y (An 1 am_fi127_1 am_cl24) (Af (HT.one (i:=23) trivial rfl (Ar _ false [_,_,_,_] am_in24 am_cl24 (h:=Af (Bc trivial (by kernel_rfl) (z _ (Cf [0,5,6] [0,1,8,13,15,40,41] (Bd (he:=(by rw [hla,hsa,List.length_append,List.length_append] <;> rfl)) (h:=(Ag (he:=(by rw [hla,List.map_append] <;> rfl)) (h:=(Ag (he:=(by rw [hsa,List.map_append] <;> rfl))))))) (Ae) (.c (.c (.c (.c (.c (.c (.c .n))))))))))))))))))))))))))))))))))))
    ·skip;refine E6 (i:=5) (j:=12) (k:=16) trivial rfl rfl rfl (Y (Ao am_ag125) (Af ?_)) (Y (Ao am_ag24) (Af ?_)) (Aq (Bf [[_]] true am_el24 am_ze3 am_cl3) (Af ?_))
     ·skip;refine E6 (i:=8) (j:=12) (k:=16) trivial rfl rfl rfl (AW [_,_,_] am_el125 am_ze37 am_cl37 am_by37 (hh:=A3) (hr:=(A7 [BP l])) (h:=Af ?_)) (Y (Ao am_ag24) (Af ?_)) (Aq (Bf [[_]] true am_el24 am_ze3 am_cl3) (Af ?_))
      ·skip;refine By (i:=12) (j:=16) trivial rfl rfl (Y (Ao am_ag24) (Af ?_)) (Aq (Bf [[_]] true am_el24 am_ze3 am_cl3) (Af ?_))
       ·skip;refine HT.one (i:=16) trivial rfl (Aq (Bf [[_]] true am_el24 am_ze3 am_cl3) (Af (HT.one (i:=17) trivial rfl (AW [_,_,_,_] am_el24 am_ze3 am_cl3 am_by3 (hh:=A3) (hr:=(A7 [((mget (Cm bars) mk).getD 0)])) (h:=Af (HT.one (i:=18) trivial rfl (Y AP (Af (HT.one (i:=19) trivial rfl (Y (An 0 am_fi127_0 am_cl125) (Af (HT.one (i:=20) trivial rfl (Ar _ false [_,_,_,_] am_in125 am_cl125 (h:=Af (HT.one (i:=21) trivial rfl (Y AP (Af (HT.one (i:=22) trivial rfl (Y (An 1 am_fi127_1 am_cl24) (Af (HT.one (i:=23) trivial rfl (Ar _ false [_,_,_,_] am_in24 am_cl24 (h:=Af (Bc trivial (by kernel_rfl) (z _ (Cf [0,4,6] [0,1,8,13,15,40,41] (Bd (he:=(by rw [hla,hsa,List.length_append,List.length_append] <;> rfl)) (h:=(Ag (he:=(by rw [hla,List.map_append] <;> rfl)) (h:=(Ag (he:=(by rw [hsa,List.map_append] <;> rfl))))))) (Ae) (.c (.c (.c (.c (.c (.c (.c .n)))))))))))))))))))))))))))))))))
       skip;refine HT.one (i:=12) trivial rfl (Y (Ao am_ag24) (Af (HT.one (i:=17) trivial rfl (AW [_,_,_,_] am_el24 am_ze3 am_cl3 am_by3 (hh:=A3) (hr:=(A7 [((mget (Cm bars) mk).getD 0)])) (h:=Af (HT.one (i:=18) trivial rfl (Y AP (Af (HT.one (i:=19) trivial rfl (Y (An 0 am_fi127_0 am_cl125) (Af (HT.one (i:=20) trivial rfl (Ar _ false [_,_,_,_] am_in125 am_cl125 (h:=Af (HT.one (i:=21) trivial rfl (Y AP (Af (HT.one (i:=22) trivial rfl (Y (An 1 am_fi127_1 am_cl24) (Af (HT.one (i:=23) trivial rfl (Ar _ false [_,_,_,_] am_in24 am_cl24 (h:=Af (Bc trivial (by kernel_rfl) (z _ (Cf [0,4,6] [0,1,8,13,15,40,41] (Bd (he:=(by rw [hla,hsa,List.length_append,List.length_append] <;> rfl)) (h:=(Ag (he:=(by rw [hla,List.map_append] <;> rfl)) (h:=(Ag (he:=(by rw [hsa,List.map_append] <;> rfl))))))) (Ae) (.c (.c (.c (.c (.c (.c (.c .n)))))))))))))))))))))))))))))))))
      ·skip;refine By (i:=8) (j:=16) trivial rfl rfl (AW [_,_,_] am_el125 am_ze37 am_cl37 am_by37 (hh:=A3) (hr:=(A7 [BP l])) (h:=Af ?_)) (Aq (Bf [[_]] true am_el24 am_ze3 am_cl3) (Af ?_))
       ·skip;refine HT.one (i:=16) trivial rfl (Aq (Bf [[_]] true am_el24 am_ze3 am_cl3) (Af (HT.one (i:=17) trivial rfl (AW [_,_,_,_] am_el24 am_ze3 am_cl3 am_by3 (hh:=A3) (hr:=(A7 [((mget (Cm bars) mk).getD 0)])) (h:=Af (HT.one (i:=18) trivial rfl (Y AP (Af (HT.one (i:=19) trivial rfl (Y (An 0 am_fi127_0 am_cl125) (Af (HT.one (i:=20) trivial rfl (Ar _ false [_,_,_,_] am_in125 am_cl125 (h:=Af (HT.one (i:=21) trivial rfl (Y AP (Af (HT.one (i:=22) trivial rfl (Y (An 1 am_fi127_1 am_cl24) (Af (HT.one (i:=23) trivial rfl (Ar _ false [_,_,_,_] am_in24 am_cl24 (h:=Af (Bc trivial (by kernel_rfl) (z _ (Cf [0,4,6] [0,1,8,13,15,40,41] (Bd (he:=(by rw [hla,hsa,List.length_append,List.length_append] <;> rfl)) (h:=(Ag (he:=(by rw [hla,List.map_append] <;> rfl)) (h:=(Ag (he:=(by rw [hsa,List.map_append] <;> rfl))))))) (Ae) (.c (.c (.c (.c (.c (.c (.c .n)))))))))))))))))))))))))))))))))
       skip;refine HT.one (i:=8) trivial rfl (AW [_,_,_,_] am_el125 am_ze37 am_cl37 am_by37 (hh:=A3) (hr:=(A7 [BP l])) (h:=Af (HT.one (i:=17) trivial rfl (AW [_,_,_,_] am_el24 am_ze3 am_cl3 am_by3 (hh:=A3) (hr:=(A7 [((mget (Cm bars) mk).getD 0)])) (h:=Af (HT.one (i:=18) trivial rfl (Y AP (Af (HT.one (i:=19) trivial rfl (Y (An 0 am_fi127_0 am_cl125) (Af (HT.one (i:=20) trivial rfl (Ar _ false [_,_,_,_] am_in125 am_cl125 (h:=Af (HT.one (i:=21) trivial rfl (Y AP (Af (HT.one (i:=22) trivial rfl (Y (An 1 am_fi127_1 am_cl24) (Af (HT.one (i:=23) trivial rfl (Ar _ false [_,_,_,_] am_in24 am_cl24 (h:=Af (Bc trivial (by kernel_rfl) (z _ (Cf [0,5,6] [0,1,8,13,15,40,41] (Bd (he:=(by rw [hla,hsa,List.length_append,List.length_append] <;> rfl)) (h:=(Ag (he:=(by rw [hla,List.map_append] <;> rfl)) (h:=(Ag (he:=(by rw [hsa,List.map_append] <;> rfl))))))) (Ae) (.c (.c (.c (.c (.c (.c (.c .n)))))))))))))))))))))))))))))))))
      skip;refine By (i:=8) (j:=12) trivial rfl rfl (AW [_,_,_,_] am_el125 am_ze37 am_cl37 am_by37 (hh:=A3) (hr:=(A7 [BP l])) (h:=Af ?_)) (Y (Ao am_ag24) (Af ?_))
      ·skip;refine HT.one (i:=12) trivial rfl (Y (Ao am_ag24) (Af (HT.one (i:=17) trivial rfl (AW [_,_,_,_] am_el24 am_ze3 am_cl3 am_by3 (hh:=A3) (hr:=(A7 [((mget (Cm bars) mk).getD 0)])) (h:=Af (HT.one (i:=18) trivial rfl (Y AP (Af (HT.one (i:=19) trivial rfl (Y (An 0 am_fi127_0 am_cl125) (Af (HT.one (i:=20) trivial rfl (Ar _ false [_,_,_,_] am_in125 am_cl125 (h:=Af (HT.one (i:=21) trivial rfl (Y AP (Af (HT.one (i:=22) trivial rfl (Y (An 1 am_fi127_1 am_cl24) (Af (HT.one (i:=23) trivial rfl (Ar _ false [_,_,_,_] am_in24 am_cl24 (h:=Af (Bc trivial (by kernel_rfl) (z _ (Cf [0,5,6] [0,1,8,13,15,40,41] (Bd (he:=(by rw [hla,hsa,List.length_append,List.length_append] <;> rfl)) (h:=(Ag (he:=(by rw [hla,List.map_append] <;> rfl)) (h:=(Ag (he:=(by rw [hsa,List.map_append] <;> rfl))))))) (Ae) (.c (.c (.c (.c (.c (.c (.c .n)))))))))))))))))))))))))))))))))
      skip;refine HT.one (i:=8) trivial rfl (AW [_,_,_,_] am_el125 am_ze37 am_cl37 am_by37 (hh:=A3) (hr:=(A7 [BP l])) (h:=Af (HT.one (i:=17) trivial rfl (AW [_,_,_,_] am_el24 am_ze3 am_cl3 am_by3 (hh:=A3) (hr:=(A7 [((mget (Cm bars) mk).getD 0)])) (h:=Af (HT.one (i:=18) trivial rfl (Y AP (Af (HT.one (i:=19) trivial rfl (Y (An 0 am_fi127_0 am_cl125) (Af (HT.one (i:=20) trivial rfl (Ar _ false [_,_,_,_] am_in125 am_cl125 (h:=Af (HT.one (i:=21) trivial rfl (Y AP (Af (HT.one (i:=22) trivial rfl (Y (An 1 am_fi127_1 am_cl24) (Af (HT.one (i:=23) trivial rfl (Ar _ false [_,_,_,_] am_in24 am_cl24 (h:=Af (Bc trivial (by kernel_rfl) (z _ (Cf [0,5,6] [0,1,8,13,15,40,41] (Bd (he:=(by rw [hla,hsa,List.length_append,List.length_append] <;> rfl)) (h:=(Ag (he:=(by rw [hla,List.map_append] <;> rfl)) (h:=(Ag (he:=(by rw [hsa,List.map_append] <;> rfl))))))) (Ae) (.c (.c (.c (.c (.c (.c (.c .n)))))))))))))))))))))))))))))))))
     ·skip;refine By (i:=5) (j:=16) trivial rfl rfl (Y (Ao am_ag125) (Af ?_)) (Aq (Bf [[_]] true am_el24 am_ze3 am_cl3) (Af ?_))
      ·skip;refine By (i:=8) (j:=16) trivial rfl rfl (AW [_,_,_] am_el125 am_ze37 am_cl37 am_by37 (hh:=A3) (hr:=(A7 [BP l])) (h:=Af ?_)) (Aq (Bf [[_]] true am_el24 am_ze3 am_cl3) (Af ?_))
       ·skip;refine HT.one (i:=16) trivial rfl (Aq (Bf [[_]] true am_el24 am_ze3 am_cl3) (Af (HT.one (i:=17) trivial rfl (AW [_,_,_,_] am_el24 am_ze3 am_cl3 am_by3 (hh:=A3) (hr:=(A7 [((mget (Cm bars) mk).getD 0)])) (h:=Af (HT.one (i:=18) trivial rfl (Y AP (Af (HT.one (i:=19) trivial rfl (Y (An 0 am_fi127_0 am_cl125) (Af (HT.one (i:=20) trivial rfl (Ar _ false [_,_,_,_] am_in125 am_cl125 (h:=Af (HT.one (i:=21) trivial rfl (Y AP (Af (HT.one (i:=22) trivial rfl (Y (An 1 am_fi127_1 am_cl24) (Af (HT.one (i:=23) trivial rfl (Ar _ false [_,_,_,_] am_in24 am_cl24 (h:=Af (Bc trivial (by kernel_rfl) (z _ (Cf [0,4,6] [0,1,8,13,15,40,41] (Bd (he:=(by rw [hla,hsa,List.length_append,List.length_append] <;> rfl)) (h:=(Ag (he:=(by rw [hla,List.map_append] <;> rfl)) (h:=(Ag (he:=(by rw [hsa,List.map_append] <;> rfl))))))) (Ae) (.c (.c (.c (.c (.c (.c (.c .n)))))))))))))))))))))))))))))))))
       skip;refine HT.one (i:=8) trivial rfl (AW [_,_,_,_] am_el125 am_ze37 am_cl37 am_by37 (hh:=A3) (hr:=(A7 [BP l])) (h:=Af (HT.one (i:=17) trivial rfl (AW [_,_,_,_] am_el24 am_ze3 am_cl3 am_by3 (hh:=A3) (hr:=(A7 [((mget (Cm bars) mk).getD 0)])) (h:=Af (HT.one (i:=18) trivial rfl (Y AP (Af (HT.one (i:=19) trivial rfl (Y (An 0 am_fi127_0 am_cl125) (Af (HT.one (i:=20) trivial rfl (Ar _ false [_,_,_,_] am_in125 am_cl125 (h:=Af (HT.one (i:=21) trivial rfl (Y AP (Af (HT.one (i:=22) trivial rfl (Y (An 1 am_fi127_1 am_cl24) (Af (HT.one (i:=23) trivial rfl (Ar _ false [_,_,_,_] am_in24 am_cl24 (h:=Af (Bc trivial (by kernel_rfl) (z _ (Cf [0,5,6] [0,1,8,13,15,40,41] (Bd (he:=(by rw [hla,hsa,List.length_append,List.length_append] <;> rfl)) (h:=(Ag (he:=(by rw [hla,List.map_append] <;> rfl)) (h:=(Ag (he:=(by rw [hsa,List.map_append] <;> rfl))))))) (Ae) (.c (.c (.c (.c (.c (.c (.c .n)))))))))))))))))))))))))))))))))
      skip;refine HT.one (i:=5) trivial rfl (Y (Ao am_ag125) (Af (HT.one (i:=8) trivial rfl (AW [_,_,_,_] am_el125 am_ze37 am_cl37 am_by37 (hh:=A3) (hr:=(A7 [BP l])) (h:=Af (HT.one (i:=17) trivial rfl (AW [_,_,_,_] am_el24 am_ze3 am_cl3 am_by3 (hh:=A3) (hr:=(A7 [((mget (Cm bars) mk).getD 0)])) (h:=Af (HT.one (i:=18) trivial rfl (Y AP (Af (HT.one (i:=19) trivial rfl (Y (An 0 am_fi127_0 am_cl125) (Af (HT.one (i:=20) trivial rfl (Ar _ false [_,_,_,_] am_in125 am_cl125 (h:=Af (HT.one (i:=21) trivial rfl (Y AP (Af (HT.one (i:=22) trivial rfl (Y (An 1 am_fi127_1 am_cl24) (Af (HT.one (i:=23) trivial rfl (Ar _ false [_,_,_,_] am_in24 am_cl24 (h:=Af (Bc trivial (by kernel_rfl) (z _ (Cf [0,5,6] [0,1,8,13,15,40,41] (Bd (he:=(by rw [hla,hsa,List.length_append,List.length_append] <;> rfl)) (h:=(Ag (he:=(by rw [hla,List.map_append] <;> rfl)) (h:=(Ag (he:=(by rw [hsa,List.map_append] <;> rfl))))))) (Ae) (.c (.c (.c (.c (.c (.c (.c .n))))))))))))))))))))))))))))))))))))
     skip;refine By (i:=5) (j:=12) trivial rfl rfl (Y (Ao am_ag125) (Af ?_)) (Y (Ao am_ag24) (Af ?_))
     ·skip;refine By (i:=8) (j:=12) trivial rfl rfl (AW [_,_,_,_] am_el125 am_ze37 am_cl37 am_by37 (hh:=A3) (hr:=(A7 [BP l])) (h:=Af ?_)) (Y (Ao am_ag24) (Af ?_))
      ·skip;refine HT.one (i:=12) trivial rfl (Y (Ao am_ag24) (Af (HT.one (i:=17) trivial rfl (AW [_,_,_,_] am_el24 am_ze3 am_cl3 am_by3 (hh:=A3) (hr:=(A7 [((mget (Cm bars) mk).getD 0)])) (h:=Af (HT.one (i:=18) trivial rfl (Y AP (Af (HT.one (i:=19) trivial rfl (Y (An 0 am_fi127_0 am_cl125) (Af (HT.one (i:=20) trivial rfl (Ar _ false [_,_,_,_] am_in125 am_cl125 (h:=Af (HT.one (i:=21) trivial rfl (Y AP (Af (HT.one (i:=22) trivial rfl (Y (An 1 am_fi127_1 am_cl24) (Af (HT.one (i:=23) trivial rfl (Ar _ false [_,_,_,_] am_in24 am_cl24 (h:=Af (Bc trivial (by kernel_rfl) (z _ (Cf [0,5,6] [0,1,8,13,15,40,41] (Bd (he:=(by rw [hla,hsa,List.length_append,List.length_append] <;> rfl)) (h:=(Ag (he:=(by rw [hla,List.map_append] <;> rfl)) (h:=(Ag (he:=(by rw [hsa,List.map_append] <;> rfl))))))) (Ae) (.c (.c (.c (.c (.c (.c (.c .n)))))))))))))))))))))))))))))))))
      skip;refine HT.one (i:=8) trivial rfl (AW [_,_,_,_] am_el125 am_ze37 am_cl37 am_by37 (hh:=A3) (hr:=(A7 [BP l])) (h:=Af (HT.one (i:=17) trivial rfl (AW [_,_,_,_] am_el24 am_ze3 am_cl3 am_by3 (hh:=A3) (hr:=(A7 [((mget (Cm bars) mk).getD 0)])) (h:=Af (HT.one (i:=18) trivial rfl (Y AP (Af (HT.one (i:=19) trivial rfl (Y (An 0 am_fi127_0 am_cl125) (Af (HT.one (i:=20) trivial rfl (Ar _ false [_,_,_,_] am_in125 am_cl125 (h:=Af (HT.one (i:=21) trivial rfl (Y AP (Af (HT.one (i:=22) trivial rfl (Y (An 1 am_fi127_1 am_cl24) (Af (HT.one (i:=23) trivial rfl (Ar _ false [_,_,_,_] am_in24 am_cl24 (h:=Af (Bc trivial (by kernel_rfl) (z _ (Cf [0,5,6] [0,1,8,13,15,40,41] (Bd (he:=(by rw [hla,hsa,List.length_append,List.length_append] <;> rfl)) (h:=(Ag (he:=(by rw [hla,List.map_append] <;> rfl)) (h:=(Ag (he:=(by rw [hsa,List.map_append] <;> rfl))))))) (Ae) (.c (.c (.c (.c (.c (.c (.c .n)))))))))))))))))))))))))))))))))
     skip;refine HT.one (i:=5) trivial rfl (Y (Ao am_ag125) (Af (HT.one (i:=8) trivial rfl (AW [_,_,_,_] am_el125 am_ze37 am_cl37 am_by37 (hh:=A3) (hr:=(A7 [BP l])) (h:=Af (HT.one (i:=17) trivial rfl (AW [_,_,_,_] am_el24 am_ze3 am_cl3 am_by3 (hh:=A3) (hr:=(A7 [((mget (Cm bars) mk).getD 0)])) (h:=Af (HT.one (i:=18) trivial rfl (Y AP (Af (HT.one (i:=19) trivial rfl (Y (An 0 am_fi127_0 am_cl125) (Af (HT.one (i:=20) trivial rfl (Ar _ false [_,_,_,_] am_in125 am_cl125 (h:=Af (HT.one (i:=21) trivial rfl (Y AP (Af (HT.one (i:=22) trivial rfl (Y (An 1 am_fi127_1 am_cl24) (Af (HT.one (i:=23) trivial rfl (Ar _ false [_,_,_,_] am_in24 am_cl24 (h:=Af (Bc trivial (by kernel_rfl) (z _ (Cf [0,5,6] [0,1,8,13,15,40,41] (Bd (he:=(by rw [hla,hsa,List.length_append,List.length_append] <;> rfl)) (h:=(Ag (he:=(by rw [hla,List.map_append] <;> rfl)) (h:=(Ag (he:=(by rw [hsa,List.map_append] <;> rfl))))))) (Ae) (.c (.c (.c (.c (.c (.c (.c .n))))))))))))))))))))))))))))))))))))
    ·skip;refine E6 (i:=5) (j:=7) (k:=16) trivial rfl rfl rfl (Y (Ao am_ag125) (Af ?_)) (Aq (Bf [[_]] true am_el125 am_ze37 am_cl37) (Af ?_)) (Aq (Bf [[_]] true am_el24 am_ze3 am_cl3) (Af ?_))
     ·skip;refine By (i:=7) (j:=16) trivial rfl rfl (Aq (Bf [[_]] true am_el125 am_ze37 am_cl37) (Af ?_)) (Aq (Bf [[_]] true am_el24 am_ze3 am_cl3) (Af ?_))
      ·skip;refine By (i:=8) (j:=16) trivial rfl rfl (AW [_,_,_] am_el125 am_ze37 am_cl37 am_by37 (hh:=A3) (hr:=(A7 [BP l])) (h:=Af ?_)) (Aq (Bf [[_]] true am_el24 am_ze3 am_cl3) (Af ?_))
       ·skip;refine HT.one (i:=16) trivial rfl (Aq (Bf [[_]] true am_el24 am_ze3 am_cl3) (Af (HT.one (i:=17) trivial rfl (AW [_,_,_,_] am_el24 am_ze3 am_cl3 am_by3 (hh:=A3) (hr:=(A7 [((mget (Cm bars) mk).getD 0)])) (h:=Af (HT.one (i:=18) trivial rfl (Y AP (Af (HT.one (i:=19) trivial rfl (Y (An 0 am_fi127_0 am_cl125) (Af (HT.one (i:=20) trivial rfl (Ar _ false [_,_,_,_] am_in125 am_cl125 (h:=Af (HT.one (i:=21) trivial rfl (Y AP (Af (HT.one (i:=22) trivial rfl (Y (An 1 am_fi127_1 am_cl24) (Af (HT.one (i:=23) trivial rfl (Ar _ false [_,_,_,_] am_in24 am_cl24 (h:=Af (Bc trivial (by kernel_rfl) (z _ (Cf [0,4,6] [0,1,8,13,15,40,41] (Bd (he:=(by rw [hla,hsa,List.length_append,List.length_append] <;> rfl)) (h:=(Ag (he:=(by rw [hla,List.map_append] <;> rfl)) (h:=(Ag (he:=(by rw [hsa,List.map_append] <;> rfl))))))) (Ae) (.c (.c (.c (.c (.c (.c (.c .n)))))))))))))))))))))))))))))))))
       skip;refine HT.one (i:=8) trivial rfl (AW [_,_,_,_] am_el125 am_ze37 am_cl37 am_by37 (hh:=A3) (hr:=(A7 [BP l])) (h:=Af (HT.one (i:=17) trivial rfl (AW [_,_,_,_] am_el24 am_ze3 am_cl3 am_by3 (hh:=A3) (hr:=(A7 [((mget (Cm bars) mk).getD 0)])) (h:=Af (HT.one (i:=18) trivial rfl (Y AP (Af (HT.one (i:=19) trivial rfl (Y (An 0 am_fi127_0 am_cl125) (Af (HT.one (i:=20) trivial rfl (Ar _ false [_,_,_,_] am_in125 am_cl125 (h:=Af (HT.one (i:=21) trivial rfl (Y AP (Af (HT.one (i:=22) trivial rfl (Y (An 1 am_fi127_1 am_cl24) (Af (HT.one (i:=23) trivial rfl (Ar _ false [_,_,_,_] am_in24 am_cl24 (h:=Af (Bc trivial (by kernel_rfl) (z _ (Cf [0,5,6] [0,1,8,13,15,40,41] (Bd (he:=(by rw [hla,hsa,List.length_append,List.length_append] <;> rfl)) (h:=(Ag (he:=(by rw [hla,List.map_append] <;> rfl)) (h:=(Ag (he:=(by rw [hsa,List.map_append] <;> rfl))))))) (Ae) (.c (.c (.c (.c (.c (.c (.c .n)))))))))))))))))))))))))))))))))
      skip;refine HT.one (i:=7) trivial rfl (Aq (Bf [[_]] true am_el125 am_ze37 am_cl37) (Af (HT.one (i:=8) trivial rfl (AW [_,_,_,_] am_el125 am_ze37 am_cl37 am_by37 (hh:=A3) (hr:=(A7 [BP l])) (h:=Af (HT.one (i:=17) trivial rfl (AW [_,_,_,_] am_el24 am_ze3 am_cl3 am_by3 (hh:=A3) (hr:=(A7 [((mget (Cm bars) mk).getD 0)])) (h:=Af (HT.one (i:=18) trivial rfl (Y AP (Af (HT.one (i:=19) trivial rfl (Y (An 0 am_fi127_0 am_cl125) (Af (HT.one (i:=20) trivial rfl (Ar _ false [_,_,_,_] am_in125 am_cl125 (h:=Af (HT.one (i:=21) trivial rfl (Y AP (Af (HT.one (i:=22) trivial rfl (Y (An 1 am_fi127_1 am_cl24) (Af (HT.one (i:=23) trivial rfl (Ar _ false [_,_,_,_] am_in24 am_cl24 (h:=Af (Bc trivial (by kernel_rfl) (z _ (Cf [0,5,6] [0,1,8,13,15,40,41] (Bd (he:=(by rw [hla,hsa,List.length_append,List.length_append] <;> rfl)) (h:=(Ag (he:=(by rw [hla,List.map_append] <;> rfl)) (h:=(Ag (he:=(by rw [hsa,List.map_append] <;> rfl))))))) (Ae) (.c (.c (.c (.c (.c (.c (.c .n))))))))))))))))))))))))))))))))))))
     ·skip;refine By (i:=5) (j:=16) trivial rfl rfl (Y (Ao am_ag125) (Af ?_)) (Aq (Bf [[_]] true am_el24 am_ze3 am_cl3) (Af ?_))
      ·skip;refine By (i:=8) (j:=16) trivial rfl rfl (AW [_,_,_] am_el125 am_ze37 am_cl37 am_by37 (hh:=A3) (hr:=(A7 [BP l])) (h:=Af ?_)) (Aq (Bf [[_]] true am_el24 am_ze3 am_cl3) (Af ?_))
       ·skip;refine HT.one (i:=16) trivial rfl (Aq (Bf [[_]] true am_el24 am_ze3 am_cl3) (Af (HT.one (i:=17) trivial rfl (AW [_,_,_,_] am_el24 am_ze3 am_cl3 am_by3 (hh:=A3) (hr:=(A7 [((mget (Cm bars) mk).getD 0)])) (h:=Af (HT.one (i:=18) trivial rfl (Y AP (Af (HT.one (i:=19) trivial rfl (Y (An 0 am_fi127_0 am_cl125) (Af (HT.one (i:=20) trivial rfl (Ar _ false [_,_,_,_] am_in125 am_cl125 (h:=Af (HT.one (i:=21) trivial rfl (Y AP (Af (HT.one (i:=22) trivial rfl (Y (An 1 am_fi127_1 am_cl24) (Af (HT.one (i:=23) trivial rfl (Ar _ false [_,_,_,_] am_in24 am_cl24 (h:=Af (Bc trivial (by kernel_rfl) (z _ (Cf [0,4,6] [0,1,8,13,15,40,41] (Bd (he:=(by rw [hla,hsa,List.length_append,List.length_append] <;> rfl)) (h:=(Ag (he:=(by rw [hla,List.map_append] <;> rfl)) (h:=(Ag (he:=(by rw [hsa,List.map_append] <;> rfl))))))) (Ae) (.c (.c (.c (.c (.c (.c (.c .n)))))))))))))))))))))))))))))))))
       skip;refine HT.one (i:=8) trivial rfl (AW [_,_,_,_] am_el125 am_ze37 am_cl37 am_by37 (hh:=A3) (hr:=(A7 [BP l])) (h:=Af (HT.one (i:=17) trivial rfl (AW [_,_,_,_] am_el24 am_ze3 am_cl3 am_by3 (hh:=A3) (hr:=(A7 [((mget (Cm bars) mk).getD 0)])) (h:=Af (HT.one (i:=18) trivial rfl (Y AP (Af (HT.one (i:=19) trivial rfl (Y (An 0 am_fi127_0 am_cl125) (Af (HT.one (i:=20) trivial rfl (Ar _ false [_,_,_,_] am_in125 am_cl125 (h:=Af (HT.one (i:=21) trivial rfl (Y AP (Af (HT.one (i:=22) trivial rfl (Y (An 1 am_fi127_1 am_cl24) (Af (HT.one (i:=23) trivial rfl (Ar _ false [_,_,_,_] am_in24 am_cl24 (h:=Af (Bc trivial (by kernel_rfl) (z _ (Cf [0,5,6] [0,1,8,13,15,40,41] (Bd (he:=(by rw [hla,hsa,List.length_append,List.length_append] <;> rfl)) (h:=(Ag (he:=(by rw [hla,List.map_append] <;> rfl)) (h:=(Ag (he:=(by rw [hsa,List.map_append] <;> rfl))))))) (Ae) (.c (.c (.c (.c (.c (.c (.c .n)))))))))))))))))))))))))))))))))
      skip;refine HT.one (i:=5) trivial rfl (Y (Ao am_ag125) (Af (HT.one (i:=8) trivial rfl (AW [_,_,_,_] am_el125 am_ze37 am_cl37 am_by37 (hh:=A3) (hr:=(A7 [BP l])) (h:=Af (HT.one (i:=17) trivial rfl (AW [_,_,_,_] am_el24 am_ze3 am_cl3 am_by3 (hh:=A3) (hr:=(A7 [((mget (Cm bars) mk).getD 0)])) (h:=Af (HT.one (i:=18) trivial rfl (Y AP (Af (HT.one (i:=19) trivial rfl (Y (An 0 am_fi127_0 am_cl125) (Af (HT.one (i:=20) trivial rfl (Ar _ false [_,_,_,_] am_in125 am_cl125 (h:=Af (HT.one (i:=21) trivial rfl (Y AP (Af (HT.one (i:=22) trivial rfl (Y (An 1 am_fi127_1 am_cl24) (Af (HT.one (i:=23) trivial rfl (Ar _ false [_,_,_,_] am_in24 am_cl24 (h:=Af (Bc trivial (by kernel_rfl) (z _ (Cf [0,5,6] [0,1,8,13,15,40,41] (Bd (he:=(by rw [hla,hsa,List.length_append,List.length_append] <;> rfl)) (h:=(Ag (he:=(by rw [hla,List.map_append] <;> rfl)) (h:=(Ag (he:=(by rw [hsa,List.map_append] <;> rfl))))))) (Ae) (.c (.c (.c (.c (.c (.c (.c .n))))))))))))))))))))))))))))))))))))
     skip;refine By (i:=5) (j:=7) trivial rfl rfl (Y (Ao am_ag125) (Af ?_)) (Aq (Bf [[_]] true am_el125 am_ze37 am_cl37) (Af ?_))
     ·skip;refine HT.one (i:=7) trivial rfl (Aq (Bf [[_]] true am_el125 am_ze37 am_cl37) (Af (HT.one (i:=8) trivial rfl (AW [_,_,_,_] am_el125 am_ze37 am_cl37 am_by37 (hh:=A3) (hr:=(A7 [BP l])) (h:=Af (HT.one (i:=17) trivial rfl (AW [_,_,_,_] am_el24 am_ze3 am_cl3 am_by3 (hh:=A3) (hr:=(A7 [((mget (Cm bars) mk).getD 0)])) (h:=Af (HT.one (i:=18) trivial rfl (Y AP (Af (HT.one (i:=19) trivial rfl (Y (An 0 am_fi127_0 am_cl125) (Af (HT.one (i:=20) trivial rfl (Ar _ false [_,_,_,_] am_in125 am_cl125 (h:=Af (HT.one (i:=21) trivial rfl (Y AP (Af (HT.one (i:=22) trivial rfl (Y (An 1 am_fi127_1 am_cl24) (Af (HT.one (i:=23) trivial rfl (Ar _ false [_,_,_,_] am_in24 am_cl24 (h:=Af (Bc trivial (by kernel_rfl) (z _ (Cf [0,5,6] [0,1,8,13,15,40,41] (Bd (he:=(by rw [hla,hsa,List.length_append,List.length_append] <;> rfl)) (h:=(Ag (he:=(by rw [hla,List.map_append] <;> rfl)) (h:=(Ag (he:=(by rw [hsa,List.map_append] <;> rfl))))))) (Ae) (.c (.c (.c (.c (.c (.c (.c .n))))))))))))))))))))))))))))))))))))
     skip;refine HT.one (i:=5) trivial rfl (Y (Ao am_ag125) (Af (HT.one (i:=8) trivial rfl (AW [_,_,_,_] am_el125 am_ze37 am_cl37 am_by37 (hh:=A3) (hr:=(A7 [BP l])) (h:=Af (HT.one (i:=17) trivial rfl (AW [_,_,_,_] am_el24 am_ze3 am_cl3 am_by3 (hh:=A3) (hr:=(A7 [((mget (Cm bars) mk).getD 0)])) (h:=Af (HT.one (i:=18) trivial rfl (Y AP (Af (HT.one (i:=19) trivial rfl (Y (An 0 am_fi127_0 am_cl125) (Af (HT.one (i:=20) trivial rfl (Ar _ false [_,_,_,_] am_in125 am_cl125 (h:=Af (HT.one (i:=21) trivial rfl (Y AP (Af (HT.one (i:=22) trivial rfl (Y (An 1 am_fi127_1 am_cl24) (Af (HT.one (i:=23) trivial rfl (Ar _ false [_,_,_,_] am_in24 am_cl24 (h:=Af (Bc trivial (by kernel_rfl) (z _ (Cf [0,5,6] [0,1,8,13,15,40,41] (Bd (he:=(by rw [hla,hsa,List.length_append,List.length_append] <;> rfl)) (h:=(Ag (he:=(by rw [hla,List.map_append] <;> rfl)) (h:=(Ag (he:=(by rw [hsa,List.map_append] <;> rfl))))))) (Ae) (.c (.c (.c (.c (.c (.c (.c .n))))))))))))))))))))))))))))))))))))
    skip;refine E6 (i:=5) (j:=7) (k:=12) trivial rfl rfl rfl (Y (Ao am_ag125) (Af ?_)) (Aq (Bf [[_]] true am_el125 am_ze37 am_cl37) (Af ?_)) (Y (Ao am_ag24) (Af ?_))
    ·skip;refine By (i:=7) (j:=12) trivial rfl rfl (Aq (Bf [[_]] true am_el125 am_ze37 am_cl37) (Af ?_)) (Y (Ao am_ag24) (Af ?_))
     ·skip;refine By (i:=8) (j:=12) trivial rfl rfl (AW [_,_,_,_] am_el125 am_ze37 am_cl37 am_by37 (hh:=A3) (hr:=(A7 [BP l])) (h:=Af ?_)) (Y (Ao am_ag24) (Af ?_))
      ·skip;refine HT.one (i:=12) trivial rfl (Y (Ao am_ag24) (Af (HT.one (i:=17) trivial rfl (AW [_,_,_,_] am_el24 am_ze3 am_cl3 am_by3 (hh:=A3) (hr:=(A7 [((mget (Cm bars) mk).getD 0)])) (h:=Af (HT.one (i:=18) trivial rfl (Y AP (Af (HT.one (i:=19) trivial rfl (Y (An 0 am_fi127_0 am_cl125) (Af (HT.one (i:=20) trivial rfl (Ar _ false [_,_,_,_] am_in125 am_cl125 (h:=Af (HT.one (i:=21) trivial rfl (Y AP (Af (HT.one (i:=22) trivial rfl (Y (An 1 am_fi127_1 am_cl24) (Af (HT.one (i:=23) trivial rfl (Ar _ false [_,_,_,_] am_in24 am_cl24 (h:=Af (Bc trivial (by kernel_rfl) (z _ (Cf [0,5,6] [0,1,8,13,15,40,41] (Bd (he:=(by rw [hla,hsa,List.length_append,List.length_append] <;> rfl)) (h:=(Ag (he:=(by rw [hla,List.map_append] <;> rfl)) (h:=(Ag (he:=(by rw [hsa,List.map_append] <;> rfl))))))) (Ae) (.c (.c (.c (.c (.c (.c (.c .n)))))))))))))))))))))))))))))))))
      skip;refine HT.one (i:=8) trivial rfl (AW [_,_,_,_] am_el125 am_ze37 am_cl37 am_by37 (hh:=A3) (hr:=(A7 [BP l])) (h:=Af (HT.one (i:=17) trivial rfl (AW [_,_,_,_] am_el24 am_ze3 am_cl3 am_by3 (hh:=A3) (hr:=(A7 [((mget (Cm bars) mk).getD 0)])) (h:=Af (HT.one (i:=18) trivial rfl (Y AP (Af (HT.one (i:=19) trivial rfl (Y (An 0 am_fi127_0 am_cl125) (Af (HT.one (i:=20) trivial rfl (Ar _ false [_,_,_,_] am_in125 am_cl125 (h:=Af (HT.one (i:=21) trivial rfl (Y AP (Af (HT.one (i:=22) trivial rfl (Y (An 1 am_fi127_1 am_cl24) (Af (HT.one (i:=23) trivial rfl (Ar _ false [_,_,_,_] am_in24 am_cl24 (h:=Af (Bc trivial (by kernel_rfl) (z _ (Cf [0,5,6] [0,1,8,13,15,40,41] (Bd (he:=(by rw [hla,hsa,List.length_append,List.length_append] <;> rfl)) (h:=(Ag (he:=(by rw [hla,List.map_append] <;> rfl)) (h:=(Ag (he:=(by rw [hsa,List.map_append] <;> rfl))))))) (Ae) (.c (.c (.c (.c (.c (.c (.c .n)))))))))))))))))))))))))))))))))
     skip;refine HT.one (i:=7) trivial rfl (Aq (Bf [[_]] true am_el125 am_ze37 am_cl37) (Af (HT.one (i:=8) trivial rfl (AW [_,_,_,_] am_el125 am_ze37 am_cl37 am_by37 (hh:=A3) (hr:=(A7 [BP l])) (h:=Af (HT.one (i:=17) trivial rfl (AW [_,_,_,_] am_el24 am_ze3 am_cl3 am_by3 (hh:=A3) (hr:=(A7 [((mget (Cm bars) mk).getD 0)])) (h:=Af (HT.one (i:=18) trivial rfl (Y AP (Af (HT.one (i:=19) trivial rfl (Y (An 0 am_fi127_0 am_cl125) (Af (HT.one (i:=20) trivial rfl (Ar _ false [_,_,_,_] am_in125 am_cl125 (h:=Af (HT.one (i:=21) trivial rfl (Y AP (Af (HT.one (i:=22) trivial rfl (Y (An 1 am_fi127_1 am_cl24) (Af (HT.one (i:=23) trivial rfl (Ar _ false [_,_,_,_] am_in24 am_cl24 (h:=Af (Bc trivial (by kernel_rfl) (z _ (Cf [0,5,6] [0,1,8,13,15,40,41] (Bd (he:=(by rw [hla,hsa,List.length_append,List.length_append] <;> rfl)) (h:=(Ag (he:=(by rw [hla,List.map_append] <;> rfl)) (h:=(Ag (he:=(by rw [hsa,List.map_append] <;> rfl))))))) (Ae) (.c (.c (.c (.c (.c (.c (.c .n))))))))))))))))))))))))))))))))))))
    ·skip;refine By (i:=5) (j:=12) trivial rfl rfl (Y (Ao am_ag125) (Af ?_)) (Y (Ao am_ag24) (Af ?_))
     ·skip;refine By (i:=8) (j:=12) trivial rfl rfl (AW [_,_,_,_] am_el125 am_ze37 am_cl37 am_by37 (hh:=A3) (hr:=(A7 [BP l])) (h:=Af ?_)) (Y (Ao am_ag24) (Af ?_))
      ·skip;refine HT.one (i:=12) trivial rfl (Y (Ao am_ag24) (Af (HT.one (i:=17) trivial rfl (AW [_,_,_,_] am_el24 am_ze3 am_cl3 am_by3 (hh:=A3) (hr:=(A7 [((mget (Cm bars) mk).getD 0)])) (h:=Af (HT.one (i:=18) trivial rfl (Y AP (Af (HT.one (i:=19) trivial rfl (Y (An 0 am_fi127_0 am_cl125) (Af (HT.one (i:=20) trivial rfl (Ar _ false [_,_,_,_] am_in125 am_cl125 (h:=Af (HT.one (i:=21) trivial rfl (Y AP (Af (HT.one (i:=22) trivial rfl (Y (An 1 am_fi127_1 am_cl24) (Af (HT.one (i:=23) trivial rfl (Ar _ false [_,_,_,_] am_in24 am_cl24 (h:=Af (Bc trivial (by kernel_rfl) (z _ (Cf [0,5,6] [0,1,8,13,15,40,41] (Bd (he:=(by rw [hla,hsa,List.length_append,List.length_append] <;> rfl)) (h:=(Ag (he:=(by rw [hla,List.map_append] <;> rfl)) (h:=(Ag (he:=(by rw [hsa,List.map_append] <;> rfl))))))) (Ae) (.c (.c (.c (.c (.c (.c (.c .n)))))))))))))))))))))))))))))))))
      skip;refine HT.one (i:=8) trivial rfl (AW [_,_,_,_] am_el125 am_ze37 am_cl37 am_by37 (hh:=A3) (hr:=(A7 [BP l])) (h:=Af (HT.one (i:=17) trivial rfl (AW [_,_,_,_] am_el24 am_ze3 am_cl3 am_by3 (hh:=A3) (hr:=(A7 [((mget (Cm bars) mk).getD 0)])) (h:=Af (HT.one (i:=18) trivial rfl (Y AP (Af (HT.one (i:=19) trivial rfl (Y (An 0 am_fi127_0 am_cl125) (Af (HT.one (i:=20) trivial rfl (Ar _ false [_,_,_,_] am_in125 am_cl125 (h:=Af (HT.one (i:=21) trivial rfl (Y AP (Af (HT.one (i:=22) trivial rfl (Y (An 1 am_fi127_1 am_cl24) (Af (HT.one (i:=23) trivial rfl (Ar _ false [_,_,_,_] am_in24 am_cl24 (h:=Af (Bc trivial (by kernel_rfl) (z _ (Cf [0,5,6] [0,1,8,13,15,40,41] (Bd (he:=(by rw [hla,hsa,List.length_append,List.length_append] <;> rfl)) (h:=(Ag (he:=(by rw [hla,List.map_append] <;> rfl)) (h:=(Ag (he:=(by rw [hsa,List.map_append] <;> rfl))))))) (Ae) (.c (.c (.c (.c (.c (.c (.c .n)))))))))))))))))))))))))))))))))
     skip;refine HT.one (i:=5) trivial rfl (Y (Ao am_ag125) (Af (HT.one (i:=8) trivial rfl (AW [_,_,_,_] am_el125 am_ze37 am_cl37 am_by37 (hh:=A3) (hr:=(A7 [BP l])) (h:=Af (HT.one (i:=17) trivial rfl (AW [_,_,_,_] am_el24 am_ze3 am_cl3 am_by3 (hh:=A3) (hr:=(A7 [((mget (Cm bars) mk).getD 0)])) (h:=Af (HT.one (i:=18) trivial rfl (Y AP (Af (HT.one (i:=19) trivial rfl (Y (An 0 am_fi127_0 am_cl125) (Af (HT.one (i:=20) trivial rfl (Ar _ false [_,_,_,_] am_in125 am_cl125 (h:=Af (HT.one (i:=21) trivial rfl (Y AP (Af (HT.one (i:=22) trivial rfl (Y (An 1 am_fi127_1 am_cl24) (Af (HT.one (i:=23) trivial rfl (Ar _ false [_,_,_,_] am_in24 am_cl24 (h:=Af (Bc trivial (by kernel_rfl) (z _ (Cf [0,5,6] [0,1,8,13,15,40,41] (Bd (he:=(by rw [hla,hsa,List.length_append,List.length_append] <;> rfl)) (h:=(Ag (he:=(by rw [hla,List.map_append] <;> rfl)) (h:=(Ag (he:=(by rw [hsa,List.map_append] <;> rfl))))))) (Ae) (.c (.c (.c (.c (.c (.c (.c .n))))))))))))))))))))))))))))))))))))
    skip;refine By (i:=5) (j:=7) trivial rfl rfl (Y (Ao am_ag125) (Af ?_)) (Aq (Bf [[_]] true am_el125 am_ze37 am_cl37) (Af ?_))
    ·skip;refine HT.one (i:=7) trivial rfl (Aq (Bf [[_]] true am_el125 am_ze37 am_cl37) (Af (HT.one (i:=8) trivial rfl (AW [_,_,_,_] am_el125 am_ze37 am_cl37 am_by37 (hh:=A3) (hr:=(A7 [BP l])) (h:=Af (HT.one (i:=17) trivial rfl (AW [_,_,_,_] am_el24 am_ze3 am_cl3 am_by3 (hh:=A3) (hr:=(A7 [((mget (Cm bars) mk).getD 0)])) (h:=Af (HT.one (i:=18) trivial rfl (Y AP (Af (HT.one (i:=19) trivial rfl (Y (An 0 am_fi127_0 am_cl125) (Af (HT.one (i:=20) trivial rfl (Ar _ false [_,_,_,_] am_in125 am_cl125 (h:=Af (HT.one (i:=21) trivial rfl (Y AP (Af (HT.one (i:=22) trivial rfl (Y (An 1 am_fi127_1 am_cl24) (Af (HT.one (i:=23) trivial rfl (Ar _ false [_,_,_,_] am_in24 am_cl24 (h:=Af (Bc trivial (by kernel_rfl) (z _ (Cf [0,5,6] [0,1,8,13,15,40,41] (Bd (he:=(by rw [hla,hsa,List.length_append,List.length_append] <;> rfl)) (h:=(Ag (he:=(by rw [hla,List.map_append] <;> rfl)) (h:=(Ag (he:=(by rw [hsa,List.map_append] <;> rfl))))))) (Ae) (.c (.c (.c (.c (.c (.c (.c .n))))))))))))))))))))))))))))))))))))
    skip;refine HT.one (i:=5) trivial rfl (Y (Ao am_ag125) (Af (HT.one (i:=8) trivial rfl (AW [_,_,_,_] am_el125 am_ze37 am_cl37 am_by37 (hh:=A3) (hr:=(A7 [BP l])) (h:=Af (HT.one (i:=17) trivial rfl (AW [_,_,_,_] am_el24 am_ze3 am_cl3 am_by3 (hh:=A3) (hr:=(A7 [((mget (Cm bars) mk).getD 0)])) (h:=Af (HT.one (i:=18) trivial rfl (Y AP (Af (HT.one (i:=19) trivial rfl (Y (An 0 am_fi127_0 am_cl125) (Af (HT.one (i:=20) trivial rfl (Ar _ false [_,_,_,_] am_in125 am_cl125 (h:=Af (HT.one (i:=21) trivial rfl (Y AP (Af (HT.one (i:=22) trivial rfl (Y (An 1 am_fi127_1 am_cl24) (Af (HT.one (i:=23) trivial rfl (Ar _ false [_,_,_,_] am_in24 am_cl24 (h:=Af (Bc trivial (by kernel_rfl) (z _ (Cf [0,5,6] [0,1,8,13,15,40,41] (Bd (he:=(by rw [hla,hsa,List.length_append,List.length_append] <;> rfl)) (h:=(Ag (he:=(by rw [hla,List.map_append] <;> rfl)) (h:=(Ag (he:=(by rw [hsa,List.map_append] <;> rfl))))))) (Ae) (.c (.c (.c (.c (.c (.c (.c .n))))))))))))))))))))))))))))))))))))
   dsimp only [cA,nA];show Ev _ _ _ _;refine Ah fun _ z=>Y Ax (Y Aa (Ac z (hR2 _ _ (A4 [0,1,2] [0,1,8,11,40] ⟨k+1,by omega⟩ ?_ (Bd (h:=(Ag (h:=(Ag))))) (Ae) (.c (.c (.c (.c (.c .n)))))))));skip;all_goals (dsimp only;omega)
  omega
 simp only [lC] at hpl;have hidx:=BM hp;refine Ab fun _ z=>Y As (Ac z (AG (fun c7=>?_) (fun c7=>?_)))
 ·refine Aj (Ev.block (Ab fun _ z=>Y (AQ am_el22 am_cl168 (hl:=(by exact Ba hidx (by omega)))) (Y (Bv _ am_ag168 am_cl168) (Aq (AT am_ze168) (Ar _ true [_] am_in168 am_cl168 (h:=Ac z (Ah fun _ z=>Y Aa (Y (An 0 am_fi168_0 am_cl9) (Y (Ao am_ag9) (Y (An 1 am_fi168_1 am_cl3) (Y (Ao am_ag3) (YK (vv:=(Value.int .i64)) [_] klS am_mt293 (fun _=>rfl) (hn:=Ac z ?_)))))))))))));show Ev _ _ _ _;refine Ah fun _ z=>Y Ax (Y Aa (Ac z (hR0 _ _ (A4 [0] [0,1,6,8,26,27] ⟨(pre ++ [s],suf),Bu hp,trivial⟩ B9 (Ag (he:=(by rw [Kf]))) (Ae (he:=(by congr 2;simp))) (.c (.c (.c (.c (.c (.c .n))))))))));skip
 omega
theorem Mh (legs:List (List Bx)) (sizes:List Int) (i k:Int) (li lk:List Bx) (hi:0≤i∧legs[i.toNat]?= some li) (hk:0≤k∧legs[k.toNat]?= some lk) (hoi:∀ b ∈ li,Cg b) (hok:∀ b ∈ lk,Cg b) (hll:legs.length≤2000) (hli:li.length≤6) (hlk:lk.length≤6) :
 Fun Tryz.prog 150 [.sadr [.sh 1 (legs.map JD), .sh 1 (sizes.map AD)] 0,iL i,iL k] (fun v l=>∃ p:P3 × P3,True∧v= .tup [iL (FF li lk), .agg [iL p.1.1,iL p.1.2.1,iL p.1.2.2], .agg [iL p.2.1,iL p.2.2.1,iL p.2.2.2]]∧l=[]):=by
 obtain ⟨hi0,hi1⟩:=hi;obtain ⟨hk0,hk1⟩:=hk;refine Fun.of (nt:=69) (rs:=[.tmp 6, .cell 7 56, .cell 8 56]) Tryz.func150 rfl rfl rfl rfl rfl (Ab fun _ z=>Y Ad (Aq (AT am_ze56) (Aq (AT am_ze56) (Ac z (Ab fun _ z=>Y Ad (Ac z (Aj (Ab fun _ z=>Y Aa (Y K0 (Y (BH 0 am_fi127_0 am_cl125) (Y (AO am_ag125) (Y Aa (Y (AQ am_el125 am_cl37 (hl:=(by exact Ba hi1 (by omega)))) (Y (AO am_ag37) (Y (A5 am_el37) (Y Aa (Ac z (Ev.block (AC (ι:={p:(List Bx × List Bx) × (P3 × P3) // p.1.1 ++ p.1.2=li}) [0,1] [0,2,7,8,21,22] (fun ⟨((pre,suf),pq),_⟩=>[(23,iL (pre.length:Int)),(6,iL (Et pre lk (-1)))]) (fun ⟨((pre,suf),pq),_⟩=>[(0,⟨false,56,3,[[iL (pq.1.1),iL (pq.1.2.1),iL (pq.1.2.2)]],true⟩),(1,⟨false,56,3,[[iL (pq.2.1),iL (pq.2.2.1),iL (pq.2.2.2)]],true⟩)]) (fun ⟨((pre,suf),pq),_⟩=>suf.length) ⟨(([],li),((0,0,0),(0,0,0))),rfl⟩ (.c (.c (.c (.c (.c (.c .n)))))) (Ag (h:=(Ag))) (Ae (h:=(Ae))) ?_)))))))))))))))))));rintro ⟨⟨⟨pre,suf⟩,pq⟩,hp⟩ R0 hR0;dsimp only [cA,nA,lC,lN]
 simp only at hp
 have hpl:pre.length+suf.length=li.length:=by rw [← hp,List.length_append]
 rcases suf with _ | ⟨s,suf⟩
 ·rw [List.append_nil] at hp;simp only [lN] at hpl;subst pre;refine Ab fun _ z=>Y As (Ac z (AG (fun c1=>?_) (fun c1=>?_)))
  ·omega
  refine AA (hR0 _ _ (W7 (m:=6) (L0:= #[false,false,false,false,false,false]) 1000000 rfl (by kernel_rfl) (by exact rfl) fun _ z=>(XM (i:=0) trivial rfl (h:=(E6 (i:=1) (j:=2) (k:=3) trivial rfl rfl rfl (Y (A6 _ am_ag56 am_cl56) (Af ?_)) (Y (A6 _ am_ag56 am_cl56) (Af ?_)) (Y Ad (Af ?_)))))))
  ·skip;refine By (i:=2) (j:=3) trivial rfl rfl (Y (A6 _ am_ag56 am_cl56) (Af ?_)) (Y Ad (Af ?_))
   ·skip;refine HT.one (i:=3) trivial rfl (Y Ad (Af (HT.one (i:=4) trivial rfl (Ar _ true [_] am_in56 am_cl56 (h:=Af (HT.one (i:=5) trivial rfl (Ar _ true [_] am_in56 am_cl56 (h:=Af (Bc trivial (by kernel_rfl) (z _ (Ai (Df (Db (Bp [_,_,_] am_ag56 am_cl56 (Bp [_,_,_] am_ag56 am_cl56 res_n))) ?_))))))))))))
    (exact ⟨pq,trivial,rfl,rfl⟩)
    skip
   skip;refine By (i:=2) (j:=4) trivial rfl rfl (Y (A6 _ am_ag56 am_cl56) (Af ?_)) (Ar _ true [_] am_in56 am_cl56 (h:=Af ?_))
   ·skip;refine HT.one (i:=4) trivial rfl (Ar _ true [_] am_in56 am_cl56 (h:=Af (HT.one (i:=5) trivial rfl (Ar _ true [_] am_in56 am_cl56 (h:=Af (Bc trivial (by kernel_rfl) (z _ (Ai (Df (Db (Bp [_,_,_] am_ag56 am_cl56 (Bp [_,_,_] am_ag56 am_cl56 res_n))) ?_)))))))))
    (exact ⟨pq,trivial,rfl,rfl⟩)
    skip
   skip;refine HT.one (i:=2) trivial rfl (Y (A6 _ am_ag56 am_cl56) (Af (HT.one (i:=5) trivial rfl (Ar _ true [_] am_in56 am_cl56 (h:=Af (Bc trivial (by kernel_rfl) (z _ (Ai (Df (Db (Bp [_,_,_] am_ag56 am_cl56 (Bp [_,_,_] am_ag56 am_cl56 res_n))) ?_)))))))))
   (exact ⟨pq,trivial,rfl,rfl⟩)
   skip
  ·skip;refine By (i:=1) (j:=3) trivial rfl rfl (Y (A6 _ am_ag56 am_cl56) (Af ?_)) (Y Ad (Af ?_))
   ·skip;refine HT.one (i:=3) trivial rfl (Y Ad (Af (HT.one (i:=4) trivial rfl (Ar _ true [_] am_in56 am_cl56 (h:=Af (HT.one (i:=5) trivial rfl (Ar _ true [_] am_in56 am_cl56 (h:=Af (Bc trivial (by kernel_rfl) (z _ (Ai (Df (Db (Bp [_,_,_] am_ag56 am_cl56 (Bp [_,_,_] am_ag56 am_cl56 res_n))) ?_))))))))))))
    (exact ⟨pq,trivial,rfl,rfl⟩)
    skip
   skip;refine HT.one (i:=1) trivial rfl (Y (A6 _ am_ag56 am_cl56) (Af (HT.one (i:=4) trivial rfl (Ar _ true [_] am_in56 am_cl56 (h:=Af (HT.one (i:=5) trivial rfl (Ar _ true [_] am_in56 am_cl56 (h:=Af (Bc trivial (by kernel_rfl) (z _ (Ai (Df (Db (Bp [_,_,_] am_ag56 am_cl56 (Bp [_,_,_] am_ag56 am_cl56 res_n))) ?_))))))))))))
   (exact ⟨pq,trivial,rfl,rfl⟩)
   skip
  skip;refine By (i:=1) (j:=2) trivial rfl rfl (Y (A6 _ am_ag56 am_cl56) (Af ?_)) (Y (A6 _ am_ag56 am_cl56) (Af ?_))
  ·skip;refine By (i:=2) (j:=4) trivial rfl rfl (Y (A6 _ am_ag56 am_cl56) (Af ?_)) (Ar _ true [_] am_in56 am_cl56 (h:=Af ?_))
   ·skip;refine HT.one (i:=4) trivial rfl (Ar _ true [_] am_in56 am_cl56 (h:=Af (HT.one (i:=5) trivial rfl (Ar _ true [_] am_in56 am_cl56 (h:=Af (Bc trivial (by kernel_rfl) (z _ (Ai (Df (Db (Bp [_,_,_] am_ag56 am_cl56 (Bp [_,_,_] am_ag56 am_cl56 res_n))) ?_)))))))))
    (exact ⟨pq,trivial,rfl,rfl⟩)
    skip
   skip;refine HT.one (i:=2) trivial rfl (Y (A6 _ am_ag56 am_cl56) (Af (HT.one (i:=5) trivial rfl (Ar _ true [_] am_in56 am_cl56 (h:=Af (Bc trivial (by kernel_rfl) (z _ (Ai (Df (Db (Bp [_,_,_] am_ag56 am_cl56 (Bp [_,_,_] am_ag56 am_cl56 res_n))) ?_)))))))))
   (exact ⟨pq,trivial,rfl,rfl⟩)
   skip
  skip;refine HT.one (i:=1) trivial rfl (Y (A6 _ am_ag56 am_cl56) (Af (HT.one (i:=4) trivial rfl (Ar _ true [_] am_in56 am_cl56 (h:=Af (HT.one (i:=5) trivial rfl (Ar _ true [_] am_in56 am_cl56 (h:=Af (Bc trivial (by kernel_rfl) (z _ (Ai (Df (Db (Bp [_,_,_] am_ag56 am_cl56 (Bp [_,_,_] am_ag56 am_cl56 res_n))) ?_))))))))))))
  (exact ⟨pq,trivial,rfl,rfl⟩)
  skip
 simp only [lC] at hpl;have hidx:=BM hp;have hso:=hoi s (by rw [← hp];simp);refine Ab fun _ z=>Y As (Ac z (AG (fun c2=>?_) (fun c2=>?_)))
 ·refine Aj (Ev.block (Ab fun _ z=>Y (AQ am_el37 am_cl58 (hl:=(by exact Ba hidx (by omega)))) (Y (Bv _ am_ag58 am_cl58) (Aq (AT am_ze58) (Ar _ true [_,_] am_in58 am_cl58 (h:=Ac z (Av (Wk.frzv 10 [_,_]) (Ab fun _ z=>Y Aa (Y K0 (Y (BH 0 am_fi127_0 am_cl125) (Y (AO am_ag125) (Y Aa (Y (AQ am_el125 am_cl37 (hl:=(by exact Ba hk1 (by omega)))) (Y (AO am_ag37) (Y (A5 am_el37) (Y Aa (Ac z (Ev.block (AC (ι:={q:(List Bx × List Bx) × (P3 × P3) // q.1.1 ++ q.1.2=lk}) [0,1] [0,2,7,8,10,21,22,23,33,34] (fun ⟨((pre2,suf2),pq2),_⟩=>[(35,iL (pre2.length:Int)),(6,iL (DD s pre2 (Et pre lk (-1))))]) (fun ⟨((pre2,suf2),pq2),_⟩=>[(0,⟨false,56,3,[[iL (pq2.1.1),iL (pq2.1.2.1),iL (pq2.1.2.2)]],true⟩),(1,⟨false,56,3,[[iL (pq2.2.1),iL (pq2.2.2.1),iL (pq2.2.2.2)]],true⟩)]) (fun ⟨((pre2,suf2),pq2),_⟩=>suf2.length) ⟨(([],lk),pq),rfl⟩ (.c (.c (.c (.c (.c (.c (.c (.c (.c (.c .n)))))))))) (Ag (h:=(Ag))) (Ae (h:=(Ae))) ?_)))))))))))))))))));rintro ⟨⟨⟨pre2,suf2⟩,pq2⟩,hp2⟩ R2 hR2;dsimp only [cA,nA,lC,lN]
  simp only at hp2
  have hpl2:pre2.length+suf2.length=lk.length:=by rw [← hp2,List.length_append]
  rcases suf2 with _ | ⟨s2,suf2⟩
  ·rw [List.append_nil] at hp2;simp only [List.length_nil] at hpl2;subst pre2;refine Ab fun _ z=>Y As (Ac z (AG (fun c3=>?_) (fun c3=>?_)))
   ·omega
   refine AA (hR2 _ _ (Ah fun _ z=>Y Ax (Y Aa (Ac z (hR0 _ _ (A4 [0,1] [0,2,7,8,21,22] ⟨((pre ++ [s],suf),pq2),by rw [← hp];simp⟩ B9 (Ag (h:=(Ag))) (Ae (he:=(by congr 2;simp)) (h:=(Ae (he:=(by rw [PS]))))) (.c (.c (.c (.c (.c (.c .n))))))))))));skip
  simp only [lC] at hpl2
  have hidx2:lk[pre2.length]?= some s2:=by rw [← hp2];simp
  have hs2:=hok s2 (by rw [← hp2];simp);refine Ab fun _ z=>Y As (Ac z (AG (fun c4=>?_) (fun c4=>?_)))
  ·refine Aj (Ev.block (Ab fun _ z=>Y (AQ am_el37 am_cl58 (hl:=(by exact Ba hidx2 (by omega)))) (Y (Bv _ am_ag58 am_cl58) (Aq (AT am_ze58) (Ar _ true [_,_] am_in58 am_cl58 (h:=Ac z (Ab fun _ z=>Y (Bv _ am_ag58 am_cl58) (Y (A6 _ am_ag58 am_cl58) (Ay (hF:=MQ s s2 hso hs2) (h:=Y Aa (Y AH (Y AH (Y Ad (Y Ad (Ac z (Ab fun _ z=>Y Aa (Y Bk (AS Aa (fun c5=>?_) (fun c5=>?_)))))))))))))))))))
   ·refine Y Aa (Y As (AS Aa (fun c6=>?_) (fun c6=>?_)))
    ·refine Au (Bq (Y AF (Y AF (Ac z (BI (Ab fun _ z=>Y Aa (Y Ad (Ac z (Ah fun _ z=>Y (Bv _ am_ag58 am_cl58) (Y (A6 _ am_ag58 am_cl58) (Ay (hF:=JB s s2 hso hs2) (h:=Y Aa (Y AH (Y AH (Y AH (Ar _ true [_,_] am_in56 am_cl56 (h:=Ar _ true [_,_] am_in56 am_cl56 (h:=Ac z ?_))))))))))))))))));show Ev _ _ _ _;refine Ah fun _ z=>Y Ax (Y Aa (Ac z (hR2 _ _ (A4 [0,1] [0,2,7,8,10,21,22,23,33,34] ⟨((pre2 ++ [s2],suf2),(U6 s s2,Rr s s2)),by rw [← hp2];simp⟩ B9 (Ag (h:=(Ag))) (Ae (he:=(by congr 2;simp)) (h:=(Ae (he:=(by rw [IA,Uo ‹_›]))))) (.c (.c (.c (.c (.c (.c (.c (.c (.c (.c .n))))))))))))));skip
    refine Y Aa (Y Aa (Y As (Y AE (Y AF (Ac z (Az (fun c7=>?_) (fun c7=>?_)))))))
    ·refine Ab fun _ z=>Y Aa (Y Ad (Ac z (Ah fun _ z=>Y (Bv _ am_ag58 am_cl58) (Y (A6 _ am_ag58 am_cl58) (Ay (hF:=JB s s2 hso hs2) (h:=Y Aa (Y AH (Y AH (Y AH (Ar _ true [_,_] am_in56 am_cl56 (h:=Ar _ true [_,_] am_in56 am_cl56 (h:=Ac z ?_))))))))))));show Ev _ _ _ _;refine Ah fun _ z=>Y Ax (Y Aa (Ac z (hR2 _ _ (A4 [0,1] [0,2,7,8,10,21,22,23,33,34] ⟨((pre2 ++ [s2],suf2),(U6 s s2,Rr s s2)),by rw [← hp2];simp⟩ B9 (Ag (h:=(Ag))) (Ae (he:=(by congr 2;simp)) (h:=(Ae (he:=(by rw [IA,SH ‹_›]))))) (.c (.c (.c (.c (.c (.c (.c (.c (.c (.c .n))))))))))))));skip
    refine Am (Ah fun _ z=>Y Ax (Y Aa (Ac z (hR2 _ _ (A4 [0,1] [0,2,7,8,10,21,22,23,33,34] ⟨((pre2 ++ [s2],suf2),pq2),by rw [← hp2];simp⟩ B9 (Ag (h:=(Ag))) (Ae (he:=(by congr 2;simp)) (h:=(Ae (he:=(by rw [IA,Un ‹_› ‹_›]))))) (.c (.c (.c (.c (.c (.c (.c (.c (.c (.c .n)))))))))))))));skip
   omega
  omega
 omega
theorem U4 (d e:Int) (hd:6≤d∧d≤40) (he:6≤e∧e≤40):Fun Tryz.prog 160 [iL d,iL e,iL 0] (AI (iL (ET d e)) []):=by
 have hnb:=Qu hd he
 have hne:(d+e+2 * 0) * (d+e+2 * 0)=ET d e:=by rw [Int.mul_zero,Int.add_zero];rfl
 refine Fun.of (nt:=17) (rs:=[.tmp 6]) Tryz.func160 rfl rfl rfl rfl rfl (Ab fun _ z=>Y Ad (Ac z (Ab fun _ z=>Y Aa (Y Aa (Y Ax (Y Aa (Y BC (Y Ax (Y Ad (Ac z (Ab fun _ z=>Y Aa (Y Aa (Y BC (Y Ad (Ac z (Ai (Ap ?_)))))))))))))))));rw [hne]
theorem SG {m n M:Int} (h: -1≤m∧m≤M) (h2:0≤n∧n≤M): -1≤Dt m n∧Dt m n≤M:=by
 unfold Dt
 split <;> omega
theorem Nd {a:Bx} (ha:Cg a):∀ (l:List Bx) (m:Int),(∀ b ∈ l,Cg b)→ -1≤m∧m≤13194139533312→ -1≤DD a l m∧DD a l m≤13194139533312
 |[],m,_,h=>h
 |b :: l,m,ho,h=>Nd ha l _ (fun c hc=>ho c (by simp [hc])) (SG h (Mg ha (ho b (by simp))))
theorem Nb {k:List Bx} (hk:∀ b ∈ k,Cg b):∀ (l:List Bx) (m:Int),(∀ b ∈ l,Cg b)→ -1≤m∧m≤13194139533312→ -1≤Et l k m∧Et l k m≤13194139533312
 |[],m,_,h=>h
 |a :: l,m,ho,h=>Nb hk l _ (fun c hc=>ho c (by simp [hc])) (Nd (ho a (by simp)) k m hk h)
theorem QT (legs:List (List Bx)) (sizes:List Int) (i k di dk:Int) (li lk:List Bx) (hi:0≤i∧legs[i.toNat]?= some li) (hk:0≤k∧legs[k.toNat]?= some lk) (hoi:∀ b ∈ li,Cg b) (hok:∀ b ∈ lk,Cg b) (hll:legs.length≤2000) (hli:li.length≤6) (hlk:lk.length≤6) (hdi:sizes[i.toNat]?= some di) (hdk:sizes[k.toNat]?= some dk) (hd:6≤di∧di≤40) (he:6≤dk∧dk≤40) :
 Fun Tryz.prog 60 [.sadr [.sh 1 (legs.map JD), .sh 1 (sizes.map AD)] 0,iL i,iL k,iL 0] (fun v l=>∃ p:P3 × P3,True∧v= .tup [.agg [iL i,iL k,iL p.1.1,iL p.1.2.1,iL p.1.2.2,iL p.2.1,iL p.2.2.1,iL p.2.2.2],bL (decide (4 * FF li lk < ET di dk))]∧l=[]):=by
 have hlb: -1≤FF li lk∧FF li lk≤13194139533312:=Nb hok li (-1) hoi (by decide);have hi0:=hi.1;have hk0:=hk.1
 refine Fun.of (nt:=45) (rs:=[.cell 8 129, .tmp 9]) Tryz.func60 rfl rfl rfl rfl rfl (Ab fun _ z=>Aq (AT am_ze129) (Y Ad (Ac z (Ab fun _ z=>Y Aa (Y Aa (Y Aa (Fw (hF:=Mh legs sizes i k li lk hi hk hoi hok hll hli hlk) (h:=fun pq _=>(Y Aa (Y AH (Y AH (Y AH (Aq (AT am_ze56) (Aq (AT am_ze56) (Y Ad (Ar _ true [_,_] am_in56 am_cl56 (h:=Ar _ true [_,_] am_in56 am_cl56 (h:=Ac z (XJ (tbs [(0,0),(0,0),(0,0),(0,0),(4,15),(0,0),(6,32),(0,0),(8,128),(9,384),(10,896),(0,0),(12,3968),(13,8064),(0,0),(15,16384),(16,49152),(17,114688),(0,0),(19,507904),(20,1032192),(0,0),(22,4194176),(23,8388576),(23,8388511),(25,33554431)]) 24 fun _ z=>Ak Aa (Ak Aa (Ak (A6 _ am_ag56 am_cl56) (Ak (A6 _ am_ag56 am_cl56) (Ak (Bg _ am_ze129 am_pl129) (Ak Aa (Ak BC (Ak Aa (Ak K0 (Ak (BH 1 am_fi127_1 am_cl24) (Ak (AO am_ag24) (Ak Aa (Ak (AQ am_el24 am_cl3 (hl:=(by exact Ba hdi (by omega)))) (Ak (AO am_ag3) (Ak Aa (Ak K0 (Ak (BH 1 am_fi127_1 am_cl24) (Ak (AO am_ag24) (Ak Aa (Ak (AQ am_el24 am_cl3 (hl:=(by exact Ba hdk (by omega)))) (Ak (AO am_ag3) (Ak Aa (Cc (hF:=U4 di dk hd he) (h:=Ak As (XP [_,_,_,_,_,_,_,_] true [true,true,true,true,true,false,false,true,true,true,true,true,true,true,true,true,true,true,true,true,true,true,true,false] [_,_] [_,_,_] am_in129 am_cl129 (hfr:=FreeL.skip (FreeL.skip (FreeL.skip (FreeL.skip (FreeL.skip (FreeL.o Aa (FreeL.o BC (FreeL.skip (FreeL.skip (FreeL.skip (FreeL.skip (FreeL.skip (FreeL.skip (FreeL.skip (FreeL.skip (FreeL.skip (FreeL.skip (FreeL.skip (FreeL.skip (FreeL.skip (FreeL.skip (FreeL.skip (FreeL.skip (FreeL.o As (.nil))))))))))))))))))))))))) (h:=Y Ad (Ac z (Ai (D1 (Bp [_,_,_,_,_,_,_,_] am_ag129 am_cl129 (Db res_n)) ?_)))))))))))))))))))))))))))))))))))))))))))))))
 (exact ⟨pq,trivial,rfl,rfl⟩)
 skip
def Is (i k:Rod):Prop:=4 * FF i.1 k.1 < ET i.2 k.2
instance (i k):Decidable (Is i k):=by unfold Is;infer_instance
def GJ (bars:List Bar) (runs:List Rn):Prop:=∀ i,i < (AR runs).toNat→∀ k,k < i→¬ Is (BS bars runs k) (BS bars runs i)
instance (bars runs):Decidable (GJ bars runs):=by unfold GJ;infer_instance
theorem S8 (bars:List Bar) (runs:List Rn) (hok:BV bars runs) (hw:Ce bars) (hrw:Dw runs) (hn:AR runs≤2000):Fun Tryz.prog 59 [.sh 5 (bars.map Bar.c), .sh 10 (runs.map Rn.c),iL 0] (AI (.tup [.sadr [.sh 1 ((Ek bars runs (AR runs).toNat).map JD), .sh 1 ((FA bars runs (AR runs).toNat).map AD)] 0,iL 0]) []):=by
 refine Fun.of (nt:=28) (rs:=[.tmp 6, .tmp 7]) Tryz.func59 rfl rfl rfl rfl rfl (Ab fun _ z=>Y Ad (Y Ad (Ac z (Ab fun _ z=>Y Aa (Y Aa (Ay (hF:=SX bars runs hok hw hrw hn) (h:=Y Aa (Y AH (Y AH (Y Ad (Y Ad (Ac z (Aj (Ev.block (Ab fun _ z=>Y Aa (Y Bn (Y Ad (Ac z (Bh (fun c1=>?_) (fun c1=>?_))))))))))))))))))))
 ·omega
 refine Ab fun _ z=>Y Aa (Y As (AS Aa (fun c2=>?_) (fun c2=>?_)))
 ·omega
 refine Y Aa (Y Be (Y AE (Y Ad (Ac z (Az (fun c3=>?_) (fun c3=>?_))))))
 ·omega
 refine Am (Ab fun _ z=>Y Aa (Y Ad (Y Ad (Ac z (Ai (Cd ?_))))));rfl
theorem QS (bars:List Bar) (runs:List Rn) (hok:BV bars runs) (hw:Ce bars) (hrw:Dw runs) (hn:AR runs≤2000):Fun Tryz.prog 9 [.sh 5 (bars.map Bar.c), .sh 10 (runs.map Rn.c),iL 0] (AI (.tup [bL (decide (GJ bars runs)),iL 0]) []):=by
 have hn1:∀ r ∈ runs,1≤r.n:=fun r hr=>(hok.2.2.1 r hr).2.2.1.1;have hnn:=D4 hn1;have hll:=JR (bars:=bars) (runs:=runs) (n:=(AR runs).toNat);refine Fun.of (nt:=47) (rs:=[.tmp 6, .tmp 7]) Tryz.func9 rfl rfl rfl rfl rfl (Ab fun _ z=>Y Ad (Y Ad (Ac z (Ab fun _ z=>Y Aa (Y Aa (Y Aa (Ay (hF:=S8 bars runs hok hw hrw hn) (h:=Y Aa (Y AH (Y AH (Y Ad (Y Ad (Ac z (Aj (Ab fun _ z=>Y Aa (Y Bn (Ac z (Bh (fun c1=>?_) (fun c1=>?_)))))))))))))))))))
 ·omega
 refine Am (Aj (Ab fun _ z=>Y Aa (Y K0 (Y (BH 0 am_fi127_0 am_cl125) (Y (AO am_ag125) (Y (A5 am_el125) (Y Aa (Ac z (Ev.block (AC (ι:={i:Nat // i≤(AR runs).toNat∧∀ a,a < i→∀ b,b < a→¬ Is (BS bars runs b) (BS bars runs a)}) [] [2,8,28] (fun ⟨i,_⟩=>[(29,iL (i:Int))]) (fun ⟨i,_⟩=>[]) (fun ⟨i,_⟩=>(AR runs).toNat - i) ⟨0,Nat.zero_le _,fun a h=>absurd h (by omega)⟩ (.c (.c (.c .n))) AN (Ae) ?_))))))))));rintro ⟨i,hi,hinv⟩ R0 hR0;dsimp only [cA,nA,lC,lN]
 by_cases hil:i < (AR runs).toNat
 rotate_left
 ·skip;refine Ab fun _ z=>Y As (Ac z (AG (fun c2=>?_) (fun c2=>?_)))
  ·omega
  refine AA (hR0 _ _ (Ab fun _ z=>Y Ad (Y Ad (Ac z (Ai (Cd ?_))))));rw [decide_eq_true (show GJ bars runs from fun a ha b hb=>hinv a (by omega) b hb)]
 have hi1:=Eg hok (i:=i) (by omega);refine Ab fun _ z=>Y As (Ac z (AG (fun c3=>?_) (fun c3=>?_)))
 ·refine Aj (Ev.block (Ab fun _ z=>Y Aa (Y Ad (Ac z (Ab fun _ z=>Y Aa (Y Aa (Ac z (Ev.block (AC (ι:={k:Nat // k≤i∧∀ b,b < k→¬ Is (BS bars runs b) (BS bars runs i)}) [] [2,8,10,28,29,32] (fun ⟨k,_⟩=>[(33,iL (k:Int))]) (fun ⟨k,_⟩=>[]) (fun ⟨k,_⟩=>i - k) ⟨0,Nat.zero_le _,fun a h=>absurd h (by omega)⟩ (.c (.c (.c (.c (.c (.c .n)))))) AN (Ae) ?_)))))))));rintro ⟨k,hk,hinv2⟩ R2 hR2;dsimp only [cA,nA,lC,lN]
  by_cases hkl:k < i
  rotate_left
  ·skip;refine Ab fun _ z=>Y As (Ac z (AG (fun c4=>?_) (fun c4=>?_)))
   ·omega
   refine AA (hR2 _ _ (Ah fun _ z=>Y Ax (Y Aa (Ac z (hR0 _ _ (A4 [] [2,8,28] ⟨i+1,by omega,fun a ha b hb=>(if e:a=i then (by subst e;exact hinv2 b (by omega)) else hinv a (by omega) b hb)⟩ ?_ AN (Ae) (.c (.c (.c .n)))))))));skip;all_goals (dsimp only;omega)
  have hk1:=Eg hok (i:=k) (by omega);refine Ab fun _ z=>Y As (Ac z (AG (fun c5=>?_) (fun c5=>?_)))
  ·refine Aj (Ev.block (Ab fun _ z=>Y Aa (Y Ad (Ac z (Ab fun _ z=>Y Aa (Y Aa (Y Aa (Y Aa (Fw (hF:=QT (Ek bars runs (AR runs).toNat) (FA bars runs (AR runs).toNat) k i (BS bars runs k).2 (BS bars runs i).2 (BS bars runs k).1 (BS bars runs i).1 ⟨by omega,Jk (by omega)⟩ ⟨by omega,Jk (by omega)⟩ hk1.1.1 hi1.1.1 (by omega) hk1.1.2.1 hi1.1.2.1 (Q4 (by omega)) (Q4 (by omega)) hk1.1.2.2 hi1.1.2.2) (h:=fun pq _=>(Y Aa (Y AH (Y AH (Aq (AT am_ze129) (Ar _ true [] am_in129 am_cl129 (h:=Y Ad (Ac z (Ab fun _ z=>Y Aa (Ac z (Az (fun c6=>?_) (fun c6=>?_)))))))))))))))))))))
   ·refine Ab fun _ z=>Y Ad (Y Ad (Ac z (Ai (hR2 _ _ (hR0 _ _ (Cd ?_))))));rw [decide_eq_false (show ¬ GJ bars runs from fun h=>h i (by omega) k (by omega) ‹_›)]
   refine Am (Ah fun _ z=>Y Ax (Y Aa (Ac z (hR2 _ _ (A4 [] [2,8,10,28,29,32] ⟨k+1,by omega,fun b hb=>(if e:b=k then (by subst e;assumption) else hinv2 b (by omega))⟩ ?_ AN (Ae) (.c (.c (.c (.c (.c (.c .n)))))))))));skip;all_goals (dsimp only;omega)
  omega
 omega
theorem Oo (bars:List Bar) (runs:List Rn) (hok:BV bars runs) (hw:Ce bars) (hrw:Dw runs) (hn:AR runs≤2000) (i k:Nat) (hi:(i:Int) < AR runs) (hk:(k:Int) < AR runs) (hik:i≠k):Fun Tryz.prog 49 [.sh 5 (bars.map Bar.c), .sh 10 (runs.map Rn.c),iL i,iL k] (AI (.tup [iL (FF (BS bars runs i).1 (BS bars runs k).1),iL 0]) []):=by
 have hi1:=Eg hok (i:=i) (by omega);have hk1:=Eg hok (i:=k) (by omega);have hll:=JR (bars:=bars) (runs:=runs) (n:=(AR runs).toNat);refine Fun.of (nt:=54) (rs:=[.tmp 8, .tmp 9]) Tryz.func49 rfl rfl rfl rfl rfl (Ab fun _ z=>Y Ad (Y Ad (Ac z (Ab fun _ z=>Y Aa (Y Aa (Ay (hF:=SX bars runs hok hw hrw hn) (h:=Y Aa (Y AH (Y AH (Y Ad (Y Ad (Ac z (Aj (Ev.block (Ab fun _ z=>Y Aa (Y Bn (Y Ad (Ac z (Bh (fun c1=>?_) (fun c1=>?_))))))))))))))))))))
 ·omega
 refine Ab fun _ z=>Y Aa (Y Aa (Y LS (Y As (AS Aa (fun c2=>?_) (fun c2=>?_)))))
 ·omega
 refine Y Aa (Y Aa (Y DE (Y Aa (Y K0 (Y (BH 0 am_fi127_0 am_cl125) (Y (AO am_ag125) (Y (A5 am_el125) (Y BR (Y AE (Y Ad (Ac z (Az (fun c3=>?_) (fun c3=>?_)))))))))))))
 ·omega
 refine Ab fun _ z=>Y Aa (Y Aa (Y Bk (Y Ad (Ac z (Az (fun c4=>?_) (fun c4=>?_))))))
 ·omega
 refine Am (Ab fun _ z=>Y Aa (Y Aa (Y Aa (Fw (hF:=Mh (Ek bars runs (AR runs).toNat) (FA bars runs (AR runs).toNat) i k (BS bars runs i).1 (BS bars runs k).1 ⟨by omega,Jk (by omega)⟩ ⟨by omega,Jk (by omega)⟩ hi1.1.1 hk1.1.1 (by omega) hi1.1.2.1 hk1.1.2.1) (h:=fun pq _=>(Y Aa (Y AH (Y AH (Y AH (Aq (AT am_ze56) (Aq (AT am_ze56) (Y Ad (Ar _ true [_] am_in56 am_cl56 (h:=Ar _ true [_] am_in56 am_cl56 (h:=Ac z (Ab fun _ z=>Y Aa (Y Ad (Y Ad (Ac z (Ai (Cd ?_)))))))))))))))))))));rfl
def DT (Aw:List (Int × Int)) (i:Int):Int:=((Aw.filter fun e=>decide (e.2=i)).length:Int)
def BD (n:Nat) (w:Int→Int):List Int:=(List.range n).map fun (i:Nat)=>w (i:Int)
theorem CH {n:Nat} {w:Int→Int}:(BD n w).length=n:=by simp [BD]
theorem EF {n:Nat} {w:Int→Int} {k:Int} (h:0≤k∧k < n):(BD n w)[k.toNat]?= some (w k):=by
 have:k.toNat < n:=by omega
 simp [BD,this,Int.toNat_of_nonneg h.1]
theorem FJ {n:Nat} {w w':Int→Int} (h:∀ i:Int,0≤i→i < n→w i=w' i):BD n w=BD n w':=by
 unfold BD
 exact List.map_congr_left fun i hi=>h i (by omega) (by have:=List.mem_range.1 hi;omega)
theorem I5 {n:Nat} {w:Int→Int} {k v:Int} (h:0≤k∧k < n):(BD n w).set k.toNat v=BD n (fun i=>if i=k then v else w i):=by
 apply List.ext_getElem?
 intro j;rw [List.getElem?_set,CH]
 by_cases hj:j < n
 ·by_cases e:k.toNat=j
  ·subst e;rw [if_pos rfl,if_pos hj,EF h]
   simp
  rw [if_neg e]
  have e2:¬ (j:Int)=k:=by omega
  simp [BD,hj,e2]
 have e:¬ k.toNat=j:=by omega
 rw [if_neg e]
 simp [BD,hj]
theorem Uj (l:List (Int × Int)) (s:Int × Int) (i:Int):DT (l ++ [s]) i=if i=s.2 then DT l i+1 else DT l i:=by
 unfold DT
 rw [List.filter_append,List.length_append]
 by_cases e:i=s.2
 ·subst e;simp
 have e2:¬ s.2=i:=fun h=>e h.symm
 simp [e,e2]
theorem Xe (l:List (Int × Int)) (i:Int):0≤DT l i∧DT l i≤l.length:=by
 have:=List.length_filter_le (fun e:Int × Int=>decide (e.2=i)) l
 unfold DT
 omega
theorem Qe {n:Nat} {pre:List (Int × Int)} {s:Int × Int} (h:0≤s.2∧s.2 < n):(BD n (DT pre)).set s.2.toNat (DT pre s.2+1)=BD n (DT (pre ++ [s])):=by
 rw [I5 h];refine FJ fun i _ _=>?_;rw [Uj]
 by_cases e:i=s.2
 ·subst e;simp
 rw [if_neg e,if_neg e]
theorem YE (n:Nat):List.replicate n (0:Int)=BD n (DT []):=by
 apply List.ext_getElem?
 intro j
 by_cases hj:j < n
 ·simp [BD,hj,DT]
 simp [BD,hj]
def nilC:Unit→List AV:=fun _=>[.lit (.slice none 0 0)]
def Yj (l:List Int):List AV:=[.sh 1 (l.map AD)]
def FS (Aw:List (Int × Int)) (i:Int):List Int:=(Aw.filter fun e=>decide (e.1=i)).map (·.2)
def Fp (Aw:List (Int × Int)):Nat→List Int:=fun i=>FS Aw (i:Int)
theorem Le {pre:List (Int × Int)} {s:Int × Int} {i:Nat} (h:s.1=i):Fp (pre ++ [s])=Jy (Fp pre) i (Fp pre i ++ [s.2]):=by
 funext j
 unfold Fp Jy FS
 rw [List.filter_append,List.map_append]
 by_cases e:j=i
 ·subst e;simp [h]
 have e2:¬ s.1=(j:Int):=by omega
 simp [e,e2]
def wO (Aw:List (Int × Int)) (out:List Int) (i:Int):Int:=if i ∈ out then -1 else ((Aw.filter fun e=>decide (e.2=i∧¬ e.1 ∈ out)).length:Int)
def JF (p:List Int) (i:Int):Int:=((p.filter fun k=>decide (k=i)).length:Int)
def wI (Aw:List (Int × Int)) (out:List Int) (j:Int) (p:List Int) (i:Int):Int:=if i=j then -1 else wO Aw out i - JF p i
def Ym (Aw:List (Int × Int)) (out:List Int):Prop:=∀ pre i suf,out=pre ++ i :: suf→∀ e ∈ Aw,e.2=i→e.1 ∈ pre
def M8 (n:Nat) (Aw:List (Int × Int)) (out:List Int):Prop:=out.Nodup∧(∀ i ∈ out,0≤i∧i < n)∧Ym Aw out
def T1 (n:Nat) (Aw:List (Int × Int)):Prop:=∃ U:List Int,U≠[]∧∀ u ∈ U,(0≤u∧u < n)∧∃ e ∈ Aw,e.2=u∧e.1 ∈ U
def Ck (n:Nat) (Aw:List (Int × Int)) (r:List Int × Bool):Prop:=(r.2=true→M8 n Aw r.1∧r.1.length=n)∧(r.2=false→r.1=[]∧T1 n Aw)
def FC (n:Nat) (Aw:List (Int × Int)):Prop:=∀ e ∈ Aw,(0≤e.1∧e.1 < n)∧0≤e.2∧e.2 < n
theorem X8 (Aw:List (Int × Int)):wO Aw []=DT Aw:=by
 funext i
 simp [wO,DT]
theorem YD (Aw:List (Int × Int)) (out:List Int) (i:Int): -1≤wO Aw out i∧wO Aw out i≤Aw.length:=by
 have:=List.length_filter_le (fun e:Int × Int=>decide (e.2=i∧¬ e.1 ∈ out)) Aw
 unfold wO
 split <;> omega
theorem Su (p:List Int) (k i:Int):JF (p ++ [k]) i=if i=k then JF p i+1 else JF p i:=by
 unfold JF
 rw [List.filter_append,List.length_append]
 by_cases e:i=k
 ·subst e;simp
 have e2:¬ k=i:=fun h=>e h.symm
 simp [e,e2]
theorem YC (Aw:List (Int × Int)) (out:List Int) (j:Int) (p:List Int) (i:Int): -1 - p.length≤wI Aw out j p i∧wI Aw out j p i≤Aw.length:=by
 have h1:=YD Aw out i;have h2:=List.length_filter_le (fun k:Int=>decide (k=i)) p
 unfold wI JF
 split <;> omega
theorem OQ (Aw:List (Int × Int)) (j:Int):(FS Aw j).length≤Aw.length:=by
 unfold FS
 rw [List.length_map];exact List.length_filter_le _ _
theorem OR {Aw:List (Int × Int)} {j k:Int}:k ∈ FS Aw j↔(j,k) ∈ Aw:=by
 unfold FS
 rw [List.mem_map]
 constructor
 ·rintro ⟨⟨a,b⟩,h,rfl⟩;rw [List.mem_filter] at h
  have:a=j:=by simpa using h.2
  subst this;exact h.1
 intro h;exact ⟨(j,k),List.mem_filter.2 ⟨h,by simp⟩,rfl⟩
theorem MK {Aw:List (Int × Int)} {out:List Int} {j:Int} (h:wO Aw out j=0):¬ j ∈ out∧∀ e ∈ Aw,e.2=j→e.1 ∈ out:=by
 unfold wO at h
 split at h
 ·omega
 rename_i hj
 refine ⟨hj,fun e he e2=>Decidable.byContradiction fun hn=>?_⟩;have:e ∈ Aw.filter fun e=>decide (e.2=j∧¬ e.1 ∈ out):=List.mem_filter.2 ⟨he,by simp [e2,hn]⟩;have:=List.length_pos_of_mem this;omega
theorem X9 {Aw:List (Int × Int)} {out:List Int} {j:Int} (hj:¬ j ∈ out) (h:wO Aw out j≠0):∃ e ∈ Aw,e.2=j∧¬ e.1 ∈ out:=by
 unfold wO at h
 rw [if_neg hj] at h;obtain ⟨e,he⟩:=List.exists_mem_of_length_pos (l:=Aw.filter fun e=>decide (e.2=j∧¬ e.1 ∈ out)) (by omega);rw [List.mem_filter] at he;exact ⟨e,he.1,by simpa using he.2⟩
theorem Tb {n:Nat} {Aw:List (Int × Int)} {out:List Int} {j:Int} (h:M8 n Aw out) (hj:0≤j∧j < n) (h0:wO Aw out j=0):M8 n Aw (out ++ [j]):=by
 obtain ⟨h1,h2⟩:=MK h0;refine ⟨List.nodup_append.2 ⟨h.1,by simp,fun a ha b hb e=>h1 (by rw [List.mem_singleton] at hb;rw [← hb, ← e];exact ha)⟩,fun i hi=>?_,fun pre i suf hp e he hei=>?_⟩
 ·rcases List.mem_append.1 hi with hi | hi
  ·exact h.2.1 i hi
  rw [List.mem_singleton] at hi;subst hi;exact hj
 rcases List.eq_nil_or_concat suf with rfl | ⟨suf',z,rfl⟩
 ·have:=List.append_inj' hp rfl;obtain ⟨rfl,h4⟩:=this;simp only [List.cons.injEq,and_true] at h4;subst h4;exact h2 e he hei
 have h3:out ++ [j]=(pre ++ i :: suf') ++ [z]:=by rw [hp];simp
 have:=List.append_inj' h3 rfl;exact h.2.2 pre i suf' this.1 e he hei
theorem Ww {Aw:List (Int × Int)} {out:List Int} {j k:Int} {p:List Int} {n:Nat} (hk:0≤k∧k < n) (hkj:k≠j):(BD n (wI Aw out j p)).set k.toNat (wI Aw out j p k - 1)=BD n (wI Aw out j (p ++ [k])):=by
 rw [I5 hk];refine FJ fun i _ _=>?_
 unfold wI
 rw [Su]
 by_cases e:i=k
 ·subst e;rw [if_pos rfl,if_neg hkj,if_neg hkj,if_pos rfl];omega
 rw [if_neg e,if_neg e]
theorem X7 {Aw:List (Int × Int)} {out:List Int} {j:Int} {n:Nat} (hj:0≤j∧j < n):(BD n (wO Aw out)).set j.toNat (-1)=BD n (wI Aw out j []):=by
 rw [I5 hj];refine FJ fun i _ _=>?_
 unfold wI JF
 by_cases e:i=j
 ·rw [if_pos e,if_pos e]
 rw [if_neg e,if_neg e];simp
theorem MS (out:List Int) (j i:Int) (hj:¬ j ∈ out):∀ Aw:List (Int × Int),(Aw.filter fun e=>decide (e.2=i∧¬ e.1 ∈ out)).length=(Aw.filter fun e=>decide (e.2=i∧¬ e.1 ∈ out ++ [j])).length+((FS Aw j).filter fun k=>decide (k=i)).length
 |[]=>rfl
 |e :: l=>by
  have ih:=MS out j i hj l
  unfold FS at ih ⊢
  obtain ⟨a,b⟩:=e;simp only [List.filter_cons,List.mem_append,List.mem_singleton] at ih ⊢
  by_cases ha:a=j
  ·subst ha
   by_cases hb:b=i
   ·subst hb;simp [hj] at ih ⊢;omega
   ·simp [hb,hj] at ih ⊢;omega
  ·by_cases hb:b=i
   ·subst hb
    by_cases ho:a ∈ out
    ·simp [ha,ho] at ih ⊢;omega
    ·simp [ha,ho] at ih ⊢;omega
   ·simp [hb,ha] at ih ⊢;omega
theorem X6 {Aw:List (Int × Int)} {out:List Int} {j:Int} {n:Nat} (h:M8 n Aw out) (hj:¬ j ∈ out):BD n (wI Aw out j (FS Aw j))=BD n (wO Aw (out ++ [j])):=by
 refine FJ fun i _ _=>?_
 unfold wI
 by_cases e:i=j
 ·subst e;rw [if_pos rfl];simp [wO]
 rw [if_neg e]
 unfold wO JF
 by_cases ho:i ∈ out
 ·rw [if_pos ho,if_pos (by simp [ho])]
  have:((FS Aw j).filter fun k=>decide (k=i))=[]:=by
   rw [List.filter_eq_nil_iff];intro k hk;have h1:=OR.1 hk;simp only [decide_eq_true_eq];intro e3;subst e3;obtain ⟨p,q,hp⟩:=List.append_of_mem ho;exact hj (by rw [hp];exact List.mem_append.2 (.inl (h.2.2 p k q hp _ h1 rfl)))
  rw [this];rfl
 rw [if_neg ho,if_neg (by simp [ho,e])];have:=MS out j i hj Aw;omega
theorem UY {n:Nat} {Aw:List (Int × Int)} {out:List Int} (hE:FC n Aw) (h:M8 n Aw out) (hl:out.length < n) (hs:∀ i:Int,0≤i∧i < n→wO Aw out i≠0):T1 n Aw:=by
 have hmem:∀ u,u ∈ ((List.range n).map fun i:Nat=>(i:Int)).filter (fun i=>decide (¬ i ∈ out))↔(0≤u∧u < n)∧¬ u ∈ out:=by
  intro u;rw [List.mem_filter,List.mem_map];simp only [List.mem_range,decide_eq_true_eq]
  constructor
  ·rintro ⟨⟨a,ha,rfl⟩,h2⟩;exact ⟨by omega,h2⟩
  rintro ⟨h1,h2⟩;exact ⟨⟨u.toNat,by omega,by omega⟩,h2⟩
 refine ⟨((List.range n).map fun i:Nat=>(i:Int)).filter (fun i=>decide (¬ i ∈ out)),fun e=>?_,fun u hu=>?_⟩
 ·have h1:∀ i:Nat,i < n→(i:Int) ∈ out:=fun i hi=>Decidable.byContradiction fun hn=>by
   have:=(hmem i).2 ⟨by omega,hn⟩;rw [e] at this;cases this
  have h2:((List.range n).map fun i:Nat=>(i:Int)).Nodup:=List.Pairwise.map _ (fun a b hab e=>hab (by omega)) List.nodup_range
  have h3:=h2.length_le_of_subset (l₂:=out) (fun x hx=>by
   obtain ⟨i,hi,rfl⟩:=List.mem_map.1 hx
   exact h1 i (List.mem_range.1 hi))
  simp at h3
  omega
 obtain ⟨hu1,hu2⟩:=(hmem u).1 hu;obtain ⟨e,he,he2,he3⟩:=X9 hu2 (hs u hu1);exact ⟨hu1,e,he,he2,(hmem _).2 ⟨(hE e he).1,he3⟩⟩
theorem VT {n:Nat} {w:Int→Int} (h:Gj (BD n w) 0 < 0):∀ i:Int,0≤i∧i < n→w i≠0:=by
 intro i hi e;have:=(Ed (fun x:Int=>decide (0=x)) (BD n w) 0 (by decide)).2 ⟨w i,List.mem_of_getElem? (EF hi),by simp [e]⟩
 unfold Gj at h
 omega
theorem VS {n:Nat} {w:Int→Int} {j:Int} (hj:Gj (BD n w) 0=j) (h:0≤j):j < n∧w j=0:=by
 subst hj
 unfold Gj at h ⊢
 obtain ⟨_,x,h1,h2⟩:=Lb (fun x:Int=>decide (0=x)) (BD n w) 0 (by decide) h;rw [Int.sub_zero] at h1;have hlt:=(List.getElem?_eq_some_iff.1 h1).1;rw [CH] at hlt
 have hb:0≤Cn (fun x:Int=>decide (0=x)) (BD n w) 0∧Cn (fun x:Int=>decide (0=x)) (BD n w) 0 < n:=by omega
 rw [EF hb] at h1;simp only [Option.some.injEq] at h1;exact ⟨hb.2,by rw [h1];simpa using (of_decide_eq_true h2).symm⟩
theorem Iu {o0 o:AM.Obj} {r:Nat} (h:Al [(0,o0)] r=some o):r=0∧o=o0:=by
 rw [A8] at h
 split at h
 ·rename_i e
  simp only [Option.some.injEq] at h;exact ⟨e.symm,h.symm⟩
 simp [Al] at h
theorem U5 (n:Nat):(List.replicate n ()).map nilC=List.replicate n [AV.lit (.slice none 0 0)]:=List.map_replicate
def TU (n:Int) (e:Int × Int):Bool:=decide (min e.1 e.2 < 0∨max e.1 e.2 ≥ n)
theorem TV {n:Nat} {Aw:List (Int × Int)} (hE:FC n Aw):¬ ∃ x ∈ Aw,TU n x=true:=by
 rintro ⟨x,hx,h⟩;have:=hE x hx;have:=of_decide_eq_true h;omega
theorem O8 (g:FuncId) (c0:List AV) (p:Int × Int→Bool) (l:List (Int × Int)) (hg:∀ s ∈ l,Fun Tryz.prog g [.agg (pairC s), .sadr c0 0] (AI (bL (p s)) [])) (hlen:l.length≤140737488355328) :
 Fun Tryz.prog 277 [.sh 2 (l.map pairC), .fn (.func g) [] [.sadr c0 0]] (AI (iL (Cn p l 0)) []):=by
 refine Fun.of (nt:=19) (rs:=[.tmp 4]) Tryz.func277 rfl rfl rfl rfl rfl (Ab fun _ k=>Y Ad (Ac k (Aj (Ab fun _ k=>Y Aa (Y (A5 am_el132) (Y Aa (Ac k (Ev.block (AC (ι:={q:List (Int × Int) × List (Int × Int) // q.1 ++ q.2=l∧∀ x ∈ q.1,p x=false}) [] [0,1,7] (fun ⟨(pre,suf),_⟩=>[(8,iL (pre.length:Int))]) (fun ⟨(pre,suf),_⟩=>[]) (fun ⟨(pre,suf),_⟩=>suf.length) ⟨([],l),rfl,fun x hx=>by simp at hx⟩ (.c (.c (.c .n))) AN (Ae) ?_)))))))));rintro ⟨⟨pre,suf⟩,hp,hinv⟩ R0 hR0;dsimp only [cA,nA,lC,lN]
 simp only at hp hinv
 have hpl:=BO hp
 rcases suf with _ | ⟨s,suf⟩
 ·rw [List.append_nil] at hp;subst hp;simp only [List.length_nil] at hpl;refine Ab fun _ k=>Y As (Ac k (AG (fun c1=>?_) (fun c1=>?_)))
  ·omega
  refine AA (hR0 _ _ (Ab fun _ k=>Y Ad (Ac k (Ai (Ap ?_)))))
  congr 2;rw [Ez p pre 0 hinv]
 simp only [lC] at hpl;have hidx:=BM hp;refine Ab fun _ k=>Y As (Ac k (AG (fun c2=>?_) (fun c2=>?_)))
 ·refine Aj (Ev.block (Ab fun _ k=>Y Aa (Y Ad (Ac k (Ab fun _ k=>Y Aa (Y Aa (Y Aa (Y (AQ am_el132 am_cl274 (hl:=(by exact Ba hidx (by omega)))) (Y (Bv _ am_ag274 am_cl274) (Ay (hF:=hg s (by rw [← hp];simp)) (h:=Ac k (En (fun c3=>?_) (fun c3=>?_)))))))))))))
  ·refine Ab fun _ k=>Y Aa (Y Ad (Ac k (Ai (hR0 _ _ (Ap ?_)))))
   congr 2;rw [← hp,CQ p pre _ 0 hinv,Cn,if_pos ‹_›];omega
  refine Am (Ah fun _ k=>Y Ax (Y Aa (Ac k (hR0 _ _ (A4 [] [0,1,7] ⟨(pre ++ [s],suf),Bu hp,?_⟩ B9 AN (Ae (he:=(by simp))) (.c (.c (.c .n))))))))
  intro x hx;simp only [List.mem_append,List.mem_singleton] at hx;rcases hx with hx | rfl
  ·exact hinv x hx
  ·assumption
 omega
theorem Io (g:FuncId) (c0:List AV) (p:Int × Int→Bool) (l:List (Int × Int)) (hg:∀ s ∈ l,Fun Tryz.prog g [.agg (pairC s), .sadr c0 0] (AI (bL (p s)) [])) (hlen:l.length≤140737488355328) :
 Fun Tryz.prog 166 [.sh 2 (l.map pairC), .fn (.func g) [] [.sadr c0 0]] (AI (bL (decide (∃ x ∈ l,p x=true))) []):=by
 have hd:(decide (∃ x ∈ l,p x=true))=decide (0≤Cn p l 0):=by simp only [Ed p l 0 (Int.le_refl _)]
 rw [hd];refine Fun.of (nt:=9) (rs:=[.tmp 4]) Tryz.func166 rfl rfl rfl rfl rfl (Ab fun _ k=>Y Ad (Ac k (Ab fun _ k=>Y Aa (Y Aa (Ay (hF:=O8 g c0 p l hg hlen) (h:=Y BR (Y Ad (Ac k (Ai (Ap ?_))))))))));rfl
theorem RX (n:Int) (e:Int × Int):Fun Tryz.prog 275 [.agg (pairC e), .sadr [iL n] 0] (AI (bL (TU n e)) []):=by
 obtain ⟨a,b⟩:=e;refine Fun.of (nt:=19) (rs:=[.tmp 3]) Tryz.func275 rfl rfl rfl rfl rfl (Ab fun _ k=>Aq (Bo _ true) (Y Ad (Ac k (Ab fun _ k=>Y (Bs am_el274 am_ar274 am_cl3) (Y (Ao am_ag3) (Y (Bs am_el274 am_ar274 am_cl3) (Y (Ao am_ag3) (Y LS (Y As (AS Aa (fun c1=>?_) (fun c1=>?_)))))))))))
 ·refine Au (Au (Au (Bq (Y AF (Y Ad (Ac k (Ai (Ap ?_))))))));exact bT (p:=_∨_) (.inl ‹_›)
 refine Y (Bs am_el274 am_ar274 am_cl3) (Y (Ao am_ag3) (Y (Bs am_el274 am_ar274 am_cl3) (Y (Ao am_ag3) (Y DE (Y (AO am_ag3) (Y BR (Y AE (Y Ad (Ac k (Ai (Ap ?_)))))))))));exact dI (by omega)
theorem KA (n:Nat) (Aw:List (Int × Int)) (hn:n≤60) (hl:Aw.length≤1000) (hE:FC n Aw):Fun Tryz.prog 162 [iL n, .sh 2 (Aw.map pairC)] (AI (bL true) []):=by
 have hbn:=TV hE;refine Fun.of (nt:=22) (rs:=[.tmp 4]) Tryz.func162 rfl rfl rfl rfl rfl (Ab fun _ k=>Aq (Bo _ true) (Y Ad (Ac k (Ab fun _ k=>Y (Ao am_ag3) (Y BR (AS Aa (fun c1=>?_) (fun c1=>?_)))))))
 ·refine Y (Ao am_ag3) (Y Cb (Y AF (AS Aa (fun c2=>?_) (fun c2=>?_))))
  ·refine Y Aa (Y (A5 am_el132) (Y Cb (Y AF (AS Aa (fun c3=>?_) (fun c3=>?_)))))
   ·refine Y Aa (Y EE (Ay (hF:=Io _ _ (TU n) Aw (fun s _=>RX n s) (by omega)) (h:=Y Bw (Y AF (Y Ad (Ac k (Ai (Ap ?_))))))));rw [decide_eq_false hbn];rfl
   omega
  omega
 omega
theorem Tc (n:Nat) (Aw:List (Int × Int)) (hn:n≤60) (hl:Aw.length≤1000) (hE:FC n Aw):Fun Tryz.prog 258 [iL n, .sh 2 (Aw.map pairC)] (fun v l=>∃ r:List Int × Bool,Ck n Aw r∧v= .tup [.sh 1 (r.1.map AD),bL r.2]∧l=[]):=by
 refine Fun.of (nt:=86) (rs:=[.tmp 4, .tmp 5]) Tryz.func258 rfl rfl rfl rfl rfl (Ab fun K hK=>Y Ad (Y Ad (Ac hK (Ab fun K hK=>Y Aa (Ih (f:=AD) (0) am_el24 am_ze3 am_cl3 am_by3 (h:=Y Ad (Ac hK (Aj (Ab fun K hK=>Y Aa (Y (A5 am_el132) (Y Aa (Ac hK (Ev.block (AC (ι:={p:List (Int × Int) × List (Int × Int) // p.1 ++ p.2=Aw∧True}) [0] [0,1,18,19] (fun ⟨(pre,suf),_⟩=>[(20,iL (pre.length:Int)),(6, .als 0 0 (BD n (DT pre)).length)]) (fun ⟨(pre,suf),_⟩=>[(0,⟨true,3,1,(BD n (DT pre)).map AD,true⟩)]) (fun ⟨(pre,suf),_⟩=>suf.length) ⟨([],Aw),rfl,trivial⟩ (.c (.c (.c (.c .n)))) (Ag (he:=(by rw [YE]))) (Ae (h:=(Ae (he:=(by simp [CH]))))) ?_))))))))))))));rintro ⟨⟨pre,suf⟩,hp,hinv⟩ R0 hR0;dsimp only [cA,nA,lC,lN]
 simp only at hp hinv
 have hpl:=BO hp
 rcases suf with _ | ⟨s,suf⟩
 ·rw [List.append_nil] at hp;simp only [lN] at hpl;subst pre;refine Ab fun K hK=>Y As (Ac hK (AG (fun c1=>?_) (fun c1=>?_)))
  ·omega
  refine AA (hR0 _ _ (Ab fun K hK=>Y Aa (Ih (f:=nilC) (()) am_el459 am_ze24 am_cl24 am_by24 (h:=Y Ad (Ac hK (Aj (Ab fun K hK=>Y Aa (Y (A5 am_el132) (Y Aa (Ac hK (Ev.block (Av (WM [0,1] [0,34,35] [(36,iL 0),(6, .als 0 0 (BD n (DT Aw)).length),(9, .als 1 0 (List.replicate n ()).length)] [(0,⟨true,3,1,(BD n (DT Aw)).map AD,true⟩),(1,⟨true,24,1,List.replicate n [.lit (.slice none 0 0)],true⟩)] (.c (.c (.c .n))) (Ag (h:=Ag (he:=U5 n))) (Ae (h:=Ae (h:=Ae)))) ?_))))))))))));dsimp only [cA,nA,lC,lN];refine Av (Wk.famNil (ty:=24) (q:=1) (n:=n) (N:=2000) AD 3 1 1000 _ rfl (by decide) (by omega) rfl) (TH (ι:={p:List (Int × Int) × List (Int × Int) // p.1 ++ p.2=Aw}) (fun ⟨(pre,suf),_⟩=>[(36,iL (pre.length:Int)),(6, .als 0 0 (BD n (DT Aw)).length),(9, .als 1 0 (List.replicate n ()).length)]) (fun ⟨(pre,suf),_⟩=>(1,⟨true,24,1,DC 1000 (Fp pre) n,false⟩) :: (0,⟨true,3,1,(BD n (DT Aw)).map AD,true⟩) :: Ji AD 3 1 1000 (Fp pre) n) (fun ⟨(pre,suf),_⟩=>suf.length) ⟨([],Aw),rfl⟩ rfl rfl ?_);rintro ⟨⟨pre,suf⟩,hp⟩ R2 hR2;dsimp only [cA,nA,lC,lN]
  simp only at hp
  have hpl:pre.length+suf.length=Aw.length:=by rw [← hp,List.length_append]
  rcases suf with _ | ⟨s,suf⟩
  ·rw [List.append_nil] at hp;simp only [lN] at hpl;subst pre;refine Ab fun K hK=>Y As (Ac hK (AG (fun c2=>?_) (fun c2=>?_)))
   ·omega
   refine AA (hR2 _ _ (Av (Wk.famFrz (q:=1) (base:=1000) (nx:=Fp Aw) (n:=n) (f:=AD) (b1:=[(0,⟨true,3,1,(BD n (DT Aw)).map AD,true⟩)]) Yj (fun _=>rfl) rfl (fun j hj=>(A8 ..).trans ((if_neg (by omega)).trans ((A8 ..).trans ((if_neg (by omega)).trans (HO hj))))) (fun r o h=>by obtain ⟨rfl,rfl⟩:=Iu h;exact ⟨rfl,by decide,by decide⟩) (by decide) rfl) (Av (Wk.frz 9 [_]) (Ab fun K hK=>Y Ad (Ac hK (Aj (Ab fun K hK=>Y Aa (Y Aa (Ac hK (Ev.block (Av (Wk.nown AD 12 3 1) (AC (ι:={out:List Int // M8 n Aw out∧out.length≤n}) [2000,0] [9,54] (fun ⟨out,_⟩=>[(55,iL (out.length:Int)),(12, .als 0 0 (out).length),(6, .als 1 0 (BD n (wO Aw out)).length)]) (fun ⟨out,_⟩=>[(0,⟨true,3,1,(out).map AD,true⟩),(1,⟨true,3,1,(BD n (wO Aw out)).map AD,true⟩)]) (fun ⟨out,_⟩=>n - out.length) ⟨[],⟨List.nodup_nil,fun i hi=>absurd hi (by simp),fun pre i suf hp=>absurd hp (by simp)⟩,Nat.zero_le _⟩ (.c (.c .n)) (Ag (h:=(Ag (he:=(by rw [X8]))))) (Ae (h:=(Ae (h:=(Ae (he:=(by simp [CH]))))))) ?_))))))))))));rintro ⟨out,hg,hol⟩ R4 hR4;dsimp only [cA,nA,lC,lN];have hwl:=CH (n:=n) (w:=wO Aw out)
   by_cases hkl:out.length < n
   rotate_left
   ·skip;refine Ab fun K hK=>Y As (Ac hK (AG (fun c3=>?_) (fun c3=>?_)))
    ·omega
    refine AA (hR4 _ _ (Ab fun K hK=>Y Aa (Y Ad (Y Ad (Ac hK (Av (Wk.frz 4 [_]) (Ai (Cx ?_))))))));skip;exact ⟨(out,true),⟨fun _=>⟨hg,(show out.length=n by omega)⟩,(fun h=>Bool.noConfusion h)⟩,rfl,rfl⟩
   obtain ⟨j,hj⟩:∃ j,Gj (BD n (wO Aw out)) 0=j:=⟨_,rfl⟩;have hjf:=JL (BD n (wO Aw out)) 0 (by rw [hwl];omega);rw [hj] at hjf;refine Ab fun K hK=>Y As (Ac hK (AG (fun c4=>?_) (fun c4=>?_)))
   ·refine Aj (Ev.block (Ab fun K hK=>Y Aa (Ay (hF:=hjf) (hv:=(by simp [C7,BA,St.ev,St.get,A8])) (h:=Y Ad (Ac hK (Aj (Ab fun K hK=>Y Aa (Y As (Ac hK (Az (fun c5=>?_) (fun c5=>?_)))))))))))
    ·refine Ab fun K hK=>Y Ad (Y Ad (Ac hK (Av (Wk.nsh AD 4 1) (Ai (hR4 _ _ (Cx ?_))))));skip;exact ⟨([],false),⟨(fun h=>Bool.noConfusion h),fun _=>⟨rfl,UY hE hg (by omega) (VT (by rw [hj];assumption))⟩⟩,rfl,rfl⟩
    refine Am ?_;have hjz:=VS hj (by omega);have hjr:0≤j∧j < n:=⟨by omega,hjz.1⟩;have hjn:=(MK hjz.2).1;have hat2:=EF (w:=wO Aw out) hjr
    have hnx:((List.range n).map (Fp Aw))[j.toNat]?= some (FS Aw j):=by rw [List.getElem?_map,List.getElem?_range (by omega)];simp only [Option.map_some,Fp,Int.toNat_of_nonneg hjr.1]
    refine Ab fun K hK=>Y Aa (Y Aa (Y (BT am_el24 am_cl3) (DH (-1) [_] am_in3 am_cl3 (hl:=(by exact at_ hat2 (by omega))) (h:=Ac hK (Aj (Ab fun K hK=>Y Aa (Y Aa (Y (AQ am_el459 am_cl24 (hl:=(by exact Ba hnx (by omega)))) (Y (AO am_ag24) (Y (A5 am_el24) (Y Aa (Ac hK (Ev.block (AC (ι:={q:List Int × List Int // q.1 ++ q.2=FS Aw j}) [1,0] [9,13,54,55,67,68] (fun ⟨(pre2,suf2),_⟩=>[(69,iL (pre2.length:Int)),(6, .als 0 0 (BD n (wI Aw out j pre2)).length),(12, .als 1 0 (out).length)]) (fun ⟨(pre2,suf2),_⟩=>[(0,⟨true,3,1,(BD n (wI Aw out j pre2)).map AD,true⟩),(1,⟨true,3,1,(out).map AD,true⟩)]) (fun ⟨(pre2,suf2),_⟩=>suf2.length) ⟨([],FS Aw j),rfl⟩ (.c (.c (.c (.c (.c (.c .n)))))) (Ag (he:=(by rw [X7 hjr])) (h:=(Ag))) (Ae (h:=(Ae (he:=(by simp [CH])) (h:=(Ae))))) ?_))))))))))))));rintro ⟨⟨pre2,suf2⟩,hp2⟩ R6 hR6;dsimp only [cA,nA,lC,lN]
    simp only at hp2
    have hpl2:pre2.length+suf2.length=(FS Aw j).length:=by rw [← hp2,List.length_append]
    have hnl:=OQ Aw j;have hwl2:=CH (n:=n) (w:=wI Aw out j pre2)
    rcases suf2 with _ | ⟨k,suf2⟩
    ·rw [List.append_nil] at hp2;simp only [List.length_nil] at hpl2;subst pre2;refine Ab fun K hK=>Y As (Ac hK (AG (fun c6=>?_) (fun c6=>?_)))
     ·omega
     refine AA (hR6 _ _ (Ah fun K hK=>Y Aa (Y Aa (Aq (Bf [[_]] true am_el24 am_ze3 am_cl3) (AW [_,_] am_el24 am_ze3 am_cl3 am_by3 (hh:=A3) (hr:=(A7 [_])) (h:=Y Ad (Ac hK ?_)))))));show Ev _ _ _ _;refine Ah fun K hK=>Y Ax (Y Aa (Ac hK (hR4 _ _ (A4 [3,0] [9,54] ⟨out ++ [j],Tb hg hjr hjz.2,by rw [List.length_append];simp only [List.length_cons,List.length_nil];omega⟩ ?_ (Ag (h:=(Ag (he:=(by rw [X6 hg hjn]))))) (Ae (he:=(by congr 2;simp)) (h:=(Ae (h:=(Ae (he:=(by simp [CH]))))))) (.c (.c .n))))));skip;all_goals (dsimp only;rw [List.length_append];simp only [List.length_cons,List.length_nil];omega)
    simp only [lC] at hpl2
    have hidx2:(FS Aw j)[pre2.length]?= some k:=by rw [← hp2];simp
    have hke:(j,k) ∈ Aw:=OR.1 (by rw [← hp2];simp);have hkr:0≤k∧k < n:=(hE _ hke).2
    have hkj:k≠j:=fun e=>by subst e;exact hjn ((MK hjz.2).2 _ hke rfl)
    have hat3:=EF (w:=wI Aw out j pre2) hkr;have hib2:=YC Aw out j pre2 k;refine Ab fun K hK=>Y As (Ac hK (AG (fun c7=>?_) (fun c7=>?_)))
    ·refine Aj (Ev.block (Ab fun K hK=>Y (AQ am_el24 am_cl3 (hl:=(by exact Ba hidx2 (by omega)))) (Y (AO am_ag3) (Y Ad (Ac hK (Ah fun K hK=>Y Aa (Y Aa (Y (BT am_el24 am_cl3) (Y (Ee am_ag3 (hl:=(by exact at_ hat3 (by omega)))) (Y BK (Y (BT am_el24 am_cl3) (DH (wI Aw out j pre2 k - 1) [_] am_in3 am_cl3 (hl:=(by exact at_ hat3 (by omega))) (h:=Ac hK ?_)))))))))))));show Ev _ _ _ _;refine Ah fun K hK=>Y Ax (Y Aa (Ac hK (hR6 _ _ (A4 [0,1] [9,13,54,55,67,68] ⟨(pre2 ++ [k],suf2),by rw [← hp2];simp⟩ B9 (Ag (he:=(by rw [Ww hkr hkj])) (h:=(Ag))) (Ae (he:=(by congr 2;simp)) (h:=(Ae (he:=(by simp [CH])) (h:=(Ae))))) (.c (.c (.c (.c (.c (.c .n))))))))));skip
    omega
   omega
  simp only [lC] at hpl;have hidx:=BM hp;have hse:=hE s (by rw [← hp];simp);obtain ⟨s1,s2⟩:=s
  dsimp only at hse
  obtain ⟨i,hi⟩:∃ i:Nat,s1=i:=⟨s1.toNat,by omega⟩
  have hin:i < n:=by omega
  have hrow:(DC 1000 (Fp pre) n)[s1.toNat]?= some [.als (1000+i) 0 (Fp pre i).length]:=by rw [hi,Int.toNat_natCast];exact IN hin
  have hnl:(Fp pre i).length≤pre.length:=OQ pre i;subst hi;refine Ab fun K hK=>Y As (Ac hK (AG (fun c8=>?_) (fun c8=>?_)))
  rotate_left
  ·exact absurd c8 (by omega)
  refine Aj (Ev.block (Ab fun K hK=>Y (AQ am_el132 am_cl274 (hl:=(by exact Ba hidx (by omega)))) (Y (Bv _ am_ag274 am_cl274) (Aq (AT am_ze274) (Ar _ true (_ :: _ :: _) am_in274 am_cl274 (h:=Ac hK (Av (Wk.frzv 11 (_ :: _ :: _)) (Ll (m:=14) (L0:= #[false,false,false,false,false,false,false,false,false,false,false,false,false,false]) rfl (by kernel_rfl) (by exact rfl) fun K hK=>(CL (i:=0) rfl (h:=(QF (i:=1) am_ar274 am_cl3 rfl (h:=(EZ (i:=2) am_ag3 rfl (h:=(CL (i:=3) rfl (h:=(QF (i:=4) am_ar274 am_cl3 rfl (h:=(EZ (i:=5) am_ag3 rfl (h:=(QF (i:=8) am_ar274 am_cl3 rfl (h:=(EZ (i:=9) am_ag3 rfl (h:=(.done ?_)))))))))))))))))))))))))
  have hfin:∀ σ',Wk σ' ⟨[(36,iL (pre.length:Int)),(6, .als 0 0 (BD n (DT Aw)).length),(9, .als 1 0 (List.replicate n ()).length),(0,iL n),(34, .sh 2 (Aw.map pairC)),(35,iL (Aw.length:Int))],(1,⟨true,24,1,DC 1000 (Fp (pre ++ [((i:Int),s2)])) n,false⟩) :: (0,⟨true,3,1,(BD n (DT Aw)).map AD,true⟩) :: Ji AD 3 1 1000 (Fp (pre ++ [((i:Int),s2)])) n,2000,86,0⟩→K σ':=fun σ' hw=>hK σ' (by
   refine Av hw (Ah fun K hK=>Y Ax (Y Aa (Ac hK (hR2 _ _ ?_))))
   exact ⟨⟨(pre ++ [((i:Int),s2)],suf),by rw [← hp];simp⟩,by dsimp only;simp only [List.length_cons];omega,Wk.slots ⟨congrArg (fun z=>some (iL z)) (show (pre.length:Int)+1=((pre ++ [((i:Int),s2)]).length:Int) by simp),rfl,rfl,rfl,rfl,rfl,trivial⟩⟩)
  refine By (i:=6) (j:=10) trivial rfl rfl (Y (BT am_el459 am_cl24 (h0:=by omega) (h1:=by rw [List.length_replicate];omega)) (Af ?_)) (Aq (Bf [[_]] true am_el24 am_ze3 am_cl3) (Af ?_))
  ·refine By (i:=7) (j:=10) trivial rfl rfl (Y (R5 (.als (1000+i) 0 (Fp pre i).length) am_ag24 (hr:=hrow) (hc:=rfl)) (Af ?_)) (Aq (Bf [[_]] true am_el24 am_ze3 am_cl3) (Af ?_))
   ·refine HT.one (i:=10) trivial rfl (Aq (Bf [[_]] true am_el24 am_ze3 am_cl3) (Af (HT.one (i:=11) trivial rfl (AW (_ :: _ :: _ :: _) am_el24 am_ze3 am_cl3 am_by3 (hh:=A3 (f:=AD) (ho:=(by (repeat first | rw [A8,if_neg (by omega)] | rw [Cj,if_neg (by omega)]);exact HO hin)) (hm:=rfl)) (hr:=(A7 [s2])) (hm1:=by simp only [List.length_cons,List.length_nil];omega) (hm2:=by simp only [List.length_cons,List.length_nil];omega) (hb':=by simp only [St.drop1];rw [Gg (by omega),Gg (by omega),Gg (by omega)]) (h:=Af (HT.one (i:=12) trivial rfl (Y (BT am_el459 am_cl24 (h0:=by omega) (h1:=by rw [List.length_replicate];omega)) (Af (HT.one (i:=13) trivial rfl (Og rfl am_in24 am_cl24 rfl rfl rfl hrow rfl rfl rfl rfl rfl rfl (Af (Bc trivial (by kernel_rfl) (hfin _ ?_)))))))))))));rw [Le (i:=i) rfl]
    exact Wk.famPut (base:=1000) (n:=n) (i:=i) (r':=2002) (l:=Fp pre i ++ [s2]) (nx:=Fp pre) (f:=AD) (b1:=[(0,⟨true,3,1,(BD n (DT Aw)).map AD,true⟩)]) rfl rfl hin (fun j hj hne=>by (repeat first | rw [A8,if_neg (by omega)] | rw [Cj,if_neg (by omega)]);exact HO hj) (fun r o h=>by obtain ⟨rfl,rfl⟩:=Iu h;exact ⟨rfl,rfl,by decide⟩) (by decide) (by omega) (by omega) (by decide) ⟨rfl,rfl,rfl,rfl,rfl,rfl,trivial⟩ rfl
   refine HT.one (i:=7) trivial rfl (Y (R5 (.als (1000+i) 0 (Fp pre i).length) am_ag24 (hr:=hrow) (hc:=rfl)) (Af (HT.one (i:=11) trivial rfl (AW (_ :: _ :: _ :: _) am_el24 am_ze3 am_cl3 am_by3 (hh:=A3 (f:=AD) (ho:=(by (repeat first | rw [A8,if_neg (by omega)] | rw [Cj,if_neg (by omega)]);exact HO hin)) (hm:=rfl)) (hr:=(A7 [s2])) (hm1:=by simp only [List.length_cons,List.length_nil];omega) (hm2:=by simp only [List.length_cons,List.length_nil];omega) (hb':=by simp only [St.drop1];rw [Gg (by omega),Gg (by omega),Gg (by omega)]) (h:=Af (HT.one (i:=12) trivial rfl (Y (BT am_el459 am_cl24 (h0:=by omega) (h1:=by rw [List.length_replicate];omega)) (Af (HT.one (i:=13) trivial rfl (Og rfl am_in24 am_cl24 rfl rfl rfl hrow rfl rfl rfl rfl rfl rfl (Af (Bc trivial (by kernel_rfl) (hfin _ ?_)))))))))))));rw [Le (i:=i) rfl]
   exact Wk.famPut (base:=1000) (n:=n) (i:=i) (r':=2002) (l:=Fp pre i ++ [s2]) (nx:=Fp pre) (f:=AD) (b1:=[(0,⟨true,3,1,(BD n (DT Aw)).map AD,true⟩)]) rfl rfl hin (fun j hj hne=>by (repeat first | rw [A8,if_neg (by omega)] | rw [Cj,if_neg (by omega)]);exact HO hj) (fun r o h=>by obtain ⟨rfl,rfl⟩:=Iu h;exact ⟨rfl,rfl,by decide⟩) (by decide) (by omega) (by omega) (by decide) ⟨rfl,rfl,rfl,rfl,rfl,rfl,trivial⟩ rfl
  refine HT.one (i:=6) trivial rfl (Y (BT am_el459 am_cl24 (h0:=by omega) (h1:=by rw [List.length_replicate];omega)) (Af (HT.one (i:=7) trivial rfl (Y (R5 (.als (1000+i) 0 (Fp pre i).length) am_ag24 (hr:=hrow) (hc:=rfl)) (Af (HT.one (i:=11) trivial rfl (AW (_ :: _ :: _ :: _) am_el24 am_ze3 am_cl3 am_by3 (hh:=A3 (f:=AD) (ho:=(by (repeat first | rw [A8,if_neg (by omega)] | rw [Cj,if_neg (by omega)]);exact HO hin)) (hm:=rfl)) (hr:=(A7 [s2])) (hm1:=by simp only [List.length_cons,List.length_nil];omega) (hm2:=by simp only [List.length_cons,List.length_nil];omega) (hb':=by simp only [St.drop1];rw [Gg (by omega),Gg (by omega),Gg (by omega)]) (h:=Af (HT.one (i:=12) trivial rfl (Y (BT am_el459 am_cl24 (h0:=by omega) (h1:=by rw [List.length_replicate];omega)) (Af (HT.one (i:=13) trivial rfl (Og rfl am_in24 am_cl24 rfl rfl rfl hrow rfl rfl rfl rfl rfl rfl (Af (Bc trivial (by kernel_rfl) (hfin _ ?_))))))))))))))));rw [Le (i:=i) rfl]
  exact Wk.famPut (base:=1000) (n:=n) (i:=i) (r':=2002) (l:=Fp pre i ++ [s2]) (nx:=Fp pre) (f:=AD) (b1:=[(0,⟨true,3,1,(BD n (DT Aw)).map AD,true⟩)]) rfl rfl hin (fun j hj hne=>by (repeat first | rw [A8,if_neg (by omega)] | rw [Cj,if_neg (by omega)]);exact HO hj) (fun r o h=>by obtain ⟨rfl,rfl⟩:=Iu h;exact ⟨rfl,rfl,by decide⟩) (by decide) (by omega) (by omega) (by decide) ⟨rfl,rfl,rfl,rfl,rfl,rfl,trivial⟩ rfl
 simp only [lC] at hpl;have hidx:=BM hp;have hse:=hE s (by rw [← hp];simp);have hwl:=CH (n:=n) (w:=DT pre);have hat:=EF (w:=DT pre) hse.2;have hib:=Xe pre s.2;refine Ab fun K hK=>Y As (Ac hK (AG (fun c8=>?_) (fun c8=>?_)))
 ·refine Aj (Ev.block (Ab fun K hK=>Y (AQ am_el132 am_cl274 (hl:=(by exact Ba hidx (by omega)))) (Y (Bv _ am_ag274 am_cl274) (Aq (AT am_ze274) (Ar _ true [_] am_in274 am_cl274 (h:=Ac hK (Ah fun K hK=>Y Aa (Y (Bs am_el274 am_ar274 am_cl3) (Y (Ao am_ag3) (Y (BT am_el24 am_cl3) (Y (Ee am_ag3 (hl:=(by exact at_ hat (by omega)))) (Y Ax (Y (BT am_el24 am_cl3) (DH (DT pre s.2+1) [_] am_in3 am_cl3 (hl:=(by exact at_ hat (by omega))) (h:=Ac hK ?_)))))))))))))));show Ev _ _ _ _;refine Ah fun K hK=>Y Ax (Y Aa (Ac hK (hR0 _ _ (A4 [0] [0,1,18,19] ⟨(pre ++ [s],suf),Bu hp,trivial⟩ B9 (Ag (he:=(by rw [Qe hse.2]))) (Ae (he:=(by congr 2;simp)) (h:=(Ae (he:=(by simp [CH]))))) (.c (.c (.c (.c .n))))))));skip
 omega
end Go.Proofs.YtaololdbooblkaaGreatDoor
