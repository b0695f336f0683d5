/-
  Part 2 of the proof: the abstract machine, proved sound over the model.
  Conditions: none.
-/
import Derived.Calls
import Derived.Orders
import Derived.Laws.AppendOwn
import Derived.Laws.OwnMore
import Derived.Laws.MakeOwn
import Derived.Laws.Small
import Derived.Laws.Entries
import Derived.Laws.Cells
import Derived.MapKept
import Derived.Test.YtaololdbooblkaaGreatDoorX1
set_option linter.unusedVariables false
set_option linter.unusedSimpArgs false
set_option linter.unusedSectionVars false
namespace Go.AM
inductive AV where
 |top
 |lit (v:Value)
 |agg (cs:List AV)
 |tup (vs:List AV)
 |sh (sz:Nat) (rows:List (List AV))
 |sadr (row:List AV) (j:Nat)
 |als (r lo n:Nat)
 |adr (r i j:Nat)
 |fn (f:Fn) (first captured:List AV)
 |hd (r:Nat)
 |shm (sz:Nat) (rows:List (List AV))
 |rem (sz:Nat) (last rest:List (List AV))
 deriving Inhabited
structure Obj where
 slc:Bool
 elem:TypeId
 sz:Nat
 rows:List (List AV)
 cl:Bool
 deriving Inhabited
structure Env where
 w:World
 H:Nat→Value
 Z:Nat→Nat
 D:Nat→Prop
 S:Nat→Prop
def Env.clear (E:Env):Env:={ E with D:=fun _=>False }
def Env.by (E:Env):Bool→Env
 |true=>E.clear
 |false=>E
def baseOf:Value→Option Addr
 |.slice A _ _=>A
 |.pointer A=>A
 |_=>none
def blockOf:Value→Option Nat
 |.slice A _ _=>A.map (·.block)
 |.pointer A=>A.map (·.block)
 |.map b=>b
 |.chan b=>b
 |_=>none
theorem DA {v:Value} {a:Addr} (h:baseOf v=some a):blockOf v=some a.block:=by
 cases v <;> simp [baseOf,blockOf] at h ⊢ <;> exact ⟨a,h,rfl⟩
def isUnit:Value→Bool
 |.agg cs=>Nat.beq cs.size 0
 |_=>false
theorem Na {v:Value} (h:isUnit v=true):v= .agg #[]:=by
 unfold isUnit at h
 split at h
 ·rw [Nat.beq_eq] at h;rw [Array.eq_empty_of_size_eq_zero h]
 cases h
def FU (v:Value):List Value:=bif isUnit v then [] else [v]
def D7 (e:MapEntry):List Value:=e.key :: goInt e.born :: FU e.val
def C1 (es:List MapEntry):List Value:=(es.map D7).flatten
structure MapWf (sz:Nat) (es:Array MapEntry) (clk:Nat):Prop where
 st:Go.MapKept.Stamped es clk
 len:∀ e ∈ es.toList,(D7 e).length=sz
def KD (m clk:Nat) (seen:Array Nat):Value:= .func (.func 0) #[.map (some m),goInt clk] (seen.map fun n:Nat=>goInt n)
def itn:Value:= .func (.func 1) #[] #[]
theorem VU {m m' clk clk':Nat} {seen seen':Array Nat} (h:KD m clk seen=KD m' clk' seen'):m=m'∧clk=clk'∧seen=seen':=by
 simp only [KD,Value.func.injEq,goInt,Array.mk.injEq,List.cons.injEq,Value.map.injEq,Option.some.injEq,Value.int.injEq,true_and,and_true] at h;obtain ⟨⟨h1,h2⟩,h3⟩:=h;refine ⟨h1,Int.ofNat.inj h2,?_⟩;have h4:=congrArg Array.toList h3;simp only [Array.toList_map] at h4
 apply Array.ext'
 exact (List.map_inj_right (f:=fun n:Nat=>Value.int .i64 (n:Int)) (fun {x y} e=>Int.ofNat.inj (Value.int.inj e).2)).1 h4
def Qi (h:Value) (sz lo n:Nat) (x:Value):Prop :=
 ∃ A0 n0 c0 A c,h= .slice A0 n0 c0∧x= .slice A n c∧n≤c∧(lo=0→A=A0∧c=c0)∧(0 < n→∃ a0,A0=some a0∧a0.spot=none∧A=some (a0.add (lo * sz)))
def holds (w:World) (a:Addr) (xs:List Value):Prop:=∀ j u,xs[j]?= some u→w.cell? (a.add j)=some u
mutual
def FV (E:Env):AV→Value→Prop
 |.top,_=>True
 |.lit v,x=>x=v
 |.agg cs,x=>∃ xs,x= .agg xs∧FVc E cs xs.toList
 |.tup cs,x=>∃ xs,x= .tuple xs∧FVs E cs xs.toList
 |.sh sz rows,x=>∃ A c xs,x= .slice A rows.length c∧rows.length≤c∧FVr E.clear sz rows xs∧(rows≠[]→∃ a,A=some a∧a.spot=none∧E.S a.block∧holds E.w a xs)
 |.sadr row j,x=>∃ a xs,x= .pointer (some (a.add j))∧a.spot=none∧E.S a.block∧FVc E.clear row xs∧holds E.w a xs
 |.als r lo n,x=>E.D r∧Qi (E.H r) (E.Z r) lo n x
 |.adr r i j,x=>E.D r∧∃ a0,baseOf (E.H r)=some a0∧a0.spot=none∧x= .pointer (some (a0.add (i * E.Z r+j)))
 |.fn f first caps,x=>∃ xs ys,x= .func f xs ys∧FVs E first xs.toList∧FVs E caps ys.toList
 |.hd r,x=>E.D r∧((∃ b,E.H r= .map (some b)∧x= .map (some b))∨∃ b,E.H r= .chan (some b)∧x= .pointer (some ⟨b,0,none⟩))
 |.shm sz rows,x=>(x= .map none∧rows=[])∨∃ b es clk,x= .map (some b)∧E.S b∧E.w.heap[b]?= some (.map es clk)∧MapWf sz es clk∧FVr E.clear sz rows (C1 es.toList)
 |.rem sz last rest,x=>(x=itn∧last=[]∧rest=[])∨∃ m es clk seen left le,x=KD m clk seen∧E.S m∧E.w.heap[m]?= some (.map es clk)∧MapWf sz es clk∧left.Perm (es.toList.filter fun e=> !seen.contains e.born)∧(∀ e ∈ le,e ∈ es.toList∧seen.back?= some e.born)∧FVr E.clear sz last (C1 le)∧FVr E.clear sz rest (C1 left)
def FVs (E:Env):List AV→List Value→Prop
 |[],xs=>xs=[]
 |c :: cs,xs=>∃ y ys,xs=y :: ys∧FV E c y∧FVs E cs ys
def FVc (E:Env):List AV→List Value→Prop
 |[],xs=>xs=[]
 |c :: cs,xs=>∃ y ys,xs=y :: ys∧y.oneCell'=true∧FV E c y∧FVc E cs ys
def FVr (E:Env) (sz:Nat):List (List AV)→List Value→Prop
 |[],xs=>xs=[]
 |row :: rows,xs=>∃ ys zs,xs=ys ++ zs∧row.length=sz∧FVc E row ys∧FVr E sz rows zs
end
structure Env.le (E E':Env):Prop where
 stay:∀ b,E.S b→E'.S b∧E'.w.heap[b]?= E.w.heap[b]?
 root:∀ r,E.D r→E'.D r∧E'.H r=E.H r∧E'.Z r=E.Z r
theorem Dm (a:Addr) (n:Nat):(a.add n).block=a.block:=by unfold Addr.add;split <;> rfl
theorem holds.le {E E':Env} (h:E.le E') {a:Addr} {xs:List Value} (hs:E.S a.block) (hh:holds E.w a xs):holds E'.w a xs:=by
 intro j u hu;have:=hh j u hu
 rwa [World.cell?_of_block (w:=E.w) (w':=E'.w)]
 rw [Dm];exact (h.stay _ hs).2
theorem Env.le.clear {E E':Env} (h:E.le E'):E.clear.le E'.clear:=⟨h.stay,fun _ hr=>hr.elim⟩
theorem Env.clear_le (E:Env):E.clear.le E:=⟨fun b hb=>⟨hb,rfl⟩,fun _ hr=>hr.elim⟩
theorem Env.le_refl (E:Env):E.le E:=⟨fun b hb=>⟨hb,rfl⟩,fun r hr=>⟨hr,rfl,rfl⟩⟩
theorem Env.by_le (E:Env) (c:Bool):(E.by c).le E:=by
 cases c
 ·exact Env.le_refl E
 exact Env.clear_le E
theorem Env.le.by {E E':Env} (h:E.le E') (c:Bool):(E.by c).le (E'.by c):=by
 cases c
 ·exact h
 exact h.clear
mutual
theorem FV.le:∀ (v:AV) {E E':Env} (_:E.le E') (x:Value),FV E v x→FV E' v x
 |.top,_,_,_,_,_=>by simp [FV]
 |.lit v,_,_,h,x,hx=>by simpa [FV] using hx
 |.agg cs,_,_,h,x,hx=>by
  simp only [FV] at hx ⊢;obtain ⟨xs,e,hc⟩:=hx;exact ⟨xs,e,FVc.le cs h _ hc⟩
 |.tup cs,_,_,h,x,hx=>by
  simp only [FV] at hx ⊢;obtain ⟨xs,e,hc⟩:=hx;exact ⟨xs,e,FVs.le cs h _ hc⟩
 |.sh sz rows,_,_,h,x,hx=>by
  simp only [FV] at hx ⊢;obtain ⟨A,c,xs,e,hc,hr,ha⟩:=hx;refine ⟨A,c,xs,e,hc,FVr.le sz rows h.clear _ hr,fun hne=>?_⟩;obtain ⟨a,e1,e2,e3,e4⟩:=ha hne;exact ⟨a,e1,e2,(h.stay _ e3).1,holds.le h e3 e4⟩
 |.sadr row j,_,_,h,x,hx=>by
  simp only [FV] at hx ⊢;obtain ⟨a,xs,e,e2,e3,hr,e4⟩:=hx;exact ⟨a,xs,e,e2,(h.stay _ e3).1,FVc.le row h.clear _ hr,holds.le h e3 e4⟩
 |.als r lo n,_,_,h,x,hx=>by
  simp only [FV] at hx ⊢;obtain ⟨h1,h2,h3⟩:=h.root r hx.1;rw [h2,h3];exact ⟨h1,hx.2⟩
 |.adr r i j,_,_,h,x,hx=>by
  simp only [FV] at hx ⊢;obtain ⟨h1,h2,h3⟩:=h.root r hx.1;rw [h2,h3];exact ⟨h1,hx.2⟩
 |.fn f first caps,_,_,h,x,hx=>by
  simp only [FV] at hx ⊢;obtain ⟨xs,ys,e,h1,h2⟩:=hx;exact ⟨xs,ys,e,FVs.le first h _ h1,FVs.le caps h _ h2⟩
 |.hd r,_,_,h,x,hx=>by
  simp only [FV] at hx ⊢;obtain ⟨h1,h2,h3⟩:=h.root r hx.1;rw [h2];exact ⟨h1,hx.2⟩
 |.shm sz rows,_,_,h,x,hx=>by
  simp only [FV] at hx ⊢
  rcases hx with hx | ⟨b,es,clk,e,h1,h2,h3,h4⟩
  ·exact .inl hx
  ·exact .inr ⟨b,es,clk,e,(h.stay _ h1).1,(h.stay _ h1).2.trans h2,h3,FVr.le sz rows h.clear _ h4⟩
 |.rem sz last rest,_,_,h,x,hx=>by
  simp only [FV] at hx ⊢
  rcases hx with hx | ⟨b,es,clk,seen,left,le,e,h1,h2,h3,h4,h5,h6,h7⟩
  ·exact .inl hx
  exact .inr ⟨b,es,clk,seen,left,le,e,(h.stay _ h1).1,(h.stay _ h1).2.trans h2,h3,h4,h5,FVr.le sz last h.clear _ h6,FVr.le sz rest h.clear _ h7⟩
theorem FVs.le:∀ (cs:List AV) {E E':Env} (_:E.le E') (xs:List Value),FVs E cs xs→FVs E' cs xs
 |[],_,_,_,xs,hx=>by simpa [FVs] using hx
 |c :: cs,_,_,h,xs,hx=>by
  simp only [FVs] at hx ⊢;obtain ⟨y,ys,e,h1,h2⟩:=hx;exact ⟨y,ys,e,FV.le c h y h1,FVs.le cs h ys h2⟩
theorem FVc.le:∀ (cs:List AV) {E E':Env} (_:E.le E') (xs:List Value),FVc E cs xs→FVc E' cs xs
 |[],_,_,_,xs,hx=>by simpa [FVc] using hx
 |c :: cs,_,_,h,xs,hx=>by
  simp only [FVc] at hx ⊢;obtain ⟨y,ys,e,h0,h1,h2⟩:=hx;exact ⟨y,ys,e,h0,FV.le c h y h1,FVc.le cs h ys h2⟩
theorem FVr.le (sz:Nat):∀ (rows:List (List AV)) {E E':Env} (_:E.le E') (xs:List Value),FVr E sz rows xs→FVr E' sz rows xs
 |[],_,_,_,xs,hx=>by simpa [FVr] using hx
 |row :: rows,_,_,h,xs,hx=>by
  simp only [FVr] at hx ⊢;obtain ⟨ys,zs,e,h0,h1,h2⟩:=hx;exact ⟨ys,zs,e,h0,FVc.le row h ys h1,FVr.le sz rows h zs h2⟩
end
mutual
def closedAV:AV→Bool
 |.als _ _ _=>false
 |.adr _ _ _=>false
 |.hd _=>false
 |.shm _ _=>true
 |.rem _ _ _=>true
 |.agg cs=>closedL cs
 |.tup cs=>closedL cs
 |.fn _ first caps=>closedL first && closedL caps
 |.top=>true
 |.lit _=>true
 |.sh _ _=>true
 |.sadr _ _=>true
def closedL:List AV→Bool
 |[]=>true
 |c :: cs=>closedAV c && closedL cs
end
mutual
theorem FV.closed {E:Env}:∀ {v:AV} {x:Value},closedAV v=true→FV E v x→FV E.clear v x
 |.als _ _ _,_,h,_=>by simp [closedAV] at h
 |.adr _ _ _,_,h,_=>by simp [closedAV] at h
 |.hd _,_,h,_=>by simp [closedAV] at h
 |.shm _ _,_,_,hx=>by simpa [FV,Env.clear] using hx
 |.rem _ _ _,_,_,hx=>by simpa [FV,Env.clear] using hx
 |.top,_,_,_=>by simp [FV]
 |.lit _,_,_,hx=>by simpa [FV] using hx
 |.sh _ _,_,_,hx=>by simpa [FV,Env.clear] using hx
 |.sadr _ _,_,_,hx=>by simpa [FV,Env.clear] using hx
 |.agg cs,x,h,hx=>by
  simp only [closedAV] at h;simp only [FV] at hx ⊢;obtain ⟨xs,e,hc⟩:=hx;exact ⟨xs,e,FVc.closed h hc⟩
 |.tup cs,x,h,hx=>by
  simp only [closedAV] at h;simp only [FV] at hx ⊢;obtain ⟨xs,e,hc⟩:=hx;exact ⟨xs,e,FVs.closed h hc⟩
 |.fn f first caps,x,h,hx=>by
  simp only [closedAV,Bool.and_eq_true] at h;simp only [FV] at hx ⊢;obtain ⟨xs,ys,e,h1,h2⟩:=hx;exact ⟨xs,ys,e,FVs.closed h.1 h1,FVs.closed h.2 h2⟩
theorem FVc.closed {E:Env}:∀ {cs:List AV} {xs:List Value},closedL cs=true→FVc E cs xs→FVc E.clear cs xs
 |[],_,_,hx=>by simpa [FVc] using hx
 |c :: cs,xs,h,hx=>by
  simp only [closedL,Bool.and_eq_true] at h;simp only [FVc] at hx ⊢;obtain ⟨y,ys,e,h0,h1,h2⟩:=hx;exact ⟨y,ys,e,h0,FV.closed h.1 h1,FVc.closed h.2 h2⟩
theorem FVs.closed {E:Env}:∀ {cs:List AV} {xs:List Value},closedL cs=true→FVs E cs xs→FVs E.clear cs xs
 |[],_,_,hx=>by simpa [FVs] using hx
 |c :: cs,xs,h,hx=>by
  simp only [closedL,Bool.and_eq_true] at h;simp only [FVs] at hx ⊢;obtain ⟨y,ys,e,h1,h2⟩:=hx;exact ⟨y,ys,e,FV.closed h.1 h1,FVs.closed h.2 h2⟩
end
def closedR:List (List AV)→Bool
 |[]=>true
 |r :: rs=>closedL r && closedR rs
theorem FVr.closed {E:Env} {sz:Nat}:∀ {rows:List (List AV)} {xs:List Value},closedR rows=true→FVr E sz rows xs→FVr E.clear sz rows xs
 |[],_,_,hx=>by simpa [FVr] using hx
 |r :: rs,xs,h,hx=>by
  simp only [closedR,Bool.and_eq_true] at h;simp only [FVr] at hx ⊢;obtain ⟨ys,zs,e,h0,h1,h2⟩:=hx;exact ⟨ys,zs,e,h0,FVc.closed h.1 h1,FVr.closed h.2 h2⟩
theorem FVc.by_closed {E:Env} {cs:List AV} {xs:List Value} (h:FVc E cs xs):FVc (E.by (closedL cs)) cs xs:=by
 cases hc:closedL cs
 ·exact h
 exact FVc.closed hc h
theorem FVr.by_closed {E:Env} {sz:Nat} {rows:List (List AV)} {xs:List Value} (h:FVr E sz rows xs):FVr (E.by (closedR rows)) sz rows xs:=by
 cases hc:closedR rows
 ·exact h
 exact FVr.closed hc h
section cells
variable {E:Env}
theorem FVc.length:∀ {cs:List AV} {xs:List Value},FVc E cs xs→xs.length=cs.length
 |[],xs,h=>by simp only [FVc] at h;simp [h]
 |c :: cs,xs,h=>by
  simp only [FVc] at h;obtain ⟨y,ys,rfl,_,_,h2⟩:=h
  simp [FVc.length h2]
theorem FVs.length:∀ {cs:List AV} {xs:List Value},FVs E cs xs→xs.length=cs.length
 |[],xs,h=>by simp only [FVs] at h;simp [h]
 |c :: cs,xs,h=>by
  simp only [FVs] at h;obtain ⟨y,ys,rfl,_,h2⟩:=h
  simp [FVs.length h2]
theorem FVc.get:∀ {cs:List AV} {xs:List Value},FVc E cs xs→∀ {j:Nat} {c:AV},cs[j]?= some c→∃ y,xs[j]?= some y∧y.oneCell'=true∧FV E c y
 |[],xs,h,j,c,hj=>by simp at hj
 |c :: cs,xs,h,j,d,hj=>by
  simp only [FVc] at h;obtain ⟨y,ys,rfl,h0,h1,h2⟩:=h
  cases j with
  |zero=>simp at hj;subst hj;exact ⟨y,rfl,h0,h1⟩
  |succ j=>simpa using FVc.get h2 (by simpa using hj)
theorem FVs.get:∀ {cs:List AV} {xs:List Value},FVs E cs xs→∀ {j:Nat} {c:AV},cs[j]?= some c→∃ y,xs[j]?= some y∧FV E c y
 |[],xs,h,j,c,hj=>by simp at hj
 |c :: cs,xs,h,j,d,hj=>by
  simp only [FVs] at h;obtain ⟨y,ys,rfl,h1,h2⟩:=h
  cases j with
  |zero=>simp at hj;subst hj;exact ⟨y,rfl,h1⟩
  |succ j=>simpa using FVs.get h2 (by simpa using hj)
theorem FVc.one:∀ {cs:List AV} {xs:List Value},FVc E cs xs→∀ u ∈ xs,u.oneCell'=true
 |[],xs,h=>by simp only [FVc] at h;simp [h]
 |c :: cs,xs,h=>by
  simp only [FVc] at h;obtain ⟨y,ys,rfl,h0,h1,h2⟩:=h;intro u hu
  rcases List.mem_cons.1 hu with rfl | hu
  ·exact h0
  ·exact FVc.one h2 u hu
theorem FVc.drop:∀ (n:Nat) {cs:List AV} {xs:List Value},FVc E cs xs→FVc E (cs.drop n) (xs.drop n)
 |0,cs,xs,h=>by simpa using h
 |n+1,[],xs,h=>by simp only [FVc] at h;simp [h,FVc]
 |n+1,c :: cs,xs,h=>by
  simp only [FVc] at h;obtain ⟨y,ys,rfl,h0,h1,h2⟩:=h
  simpa using FVc.drop n h2
theorem FVc.take:∀ (n:Nat) {cs:List AV} {xs:List Value},FVc E cs xs→FVc E (cs.take n) (xs.take n)
 |0,cs,xs,h=>by simp [FVc]
 |n+1,[],xs,h=>by simp only [FVc] at h;simp [h,FVc]
 |n+1,c :: cs,xs,h=>by
  simp only [FVc] at h;obtain ⟨y,ys,rfl,h0,h1,h2⟩:=h;simp only [List.take_succ_cons,FVc];exact ⟨y,_,rfl,h0,h1,FVc.take n h2⟩
theorem FVc.append:∀ {cs ds:List AV} {xs ys:List Value},FVc E cs xs→FVc E ds ys→FVc E (cs ++ ds) (xs ++ ys)
 |[],ds,xs,ys,h,h'=>by simp only [FVc] at h;simpa [h] using h'
 |c :: cs,ds,xs,ys,h,h'=>by
  simp only [FVc] at h;obtain ⟨y,zs,rfl,h0,h1,h2⟩:=h;simp only [List.cons_append,FVc];exact ⟨y,_,rfl,h0,h1,FVc.append h2 h'⟩
theorem FVs.append:∀ {cs ds:List AV} {xs ys:List Value},FVs E cs xs→FVs E ds ys→FVs E (cs ++ ds) (xs ++ ys)
 |[],ds,xs,ys,h,h'=>by simp only [FVs] at h;simpa [h] using h'
 |c :: cs,ds,xs,ys,h,h'=>by
  simp only [FVs] at h;obtain ⟨y,zs,rfl,h1,h2⟩:=h;simp only [List.cons_append,FVs];exact ⟨y,_,rfl,h1,FVs.append h2 h'⟩
theorem FVr.length {sz:Nat}:∀ {rows:List (List AV)} {xs:List Value},FVr E sz rows xs→xs.length=rows.length * sz
 |[],xs,h=>by simp only [FVr] at h;simp [h]
 |row :: rows,xs,h=>by
  simp only [FVr] at h;obtain ⟨ys,zs,rfl,h0,h1,h2⟩:=h;rw [List.length_append,FVr.length h2,h1.length,h0,List.length_cons,Nat.succ_mul,Nat.add_comm]
theorem FVr.one {sz:Nat}:∀ {rows:List (List AV)} {xs:List Value},FVr E sz rows xs→∀ u ∈ xs,u.oneCell'=true
 |[],xs,h=>by simp only [FVr] at h;simp [h]
 |row :: rows,xs,h=>by
  simp only [FVr] at h;obtain ⟨ys,zs,rfl,h0,h1,h2⟩:=h;intro u hu
  rcases List.mem_append.1 hu with hu | hu
  ·exact h1.one u hu
  ·exact FVr.one h2 u hu
theorem FVr.get {sz:Nat}:∀ {rows:List (List AV)} {xs:List Value},FVr E sz rows xs→∀ {i:Nat} {row:List AV},rows[i]?= some row →
 row.length=sz∧FVc E row ((xs.drop (i * sz)).take sz)
 |[],xs,h,i,row,hi=>by simp at hi
 |row :: rows,xs,h,i,r,hi=>by
  simp only [FVr] at h;obtain ⟨ys,zs,rfl,h0,h1,h2⟩:=h
  have hl:ys.length=sz:=by rw [h1.length,h0]
  cases i with
  |zero =>
   simp at hi;subst hi
   refine ⟨h0,?_⟩;simp only [Nat.zero_mul,List.drop_zero];rw [List.take_append_of_le_length (by omega),List.take_of_length_le (by omega)];exact h1
  |succ i =>
   have:=FVr.get h2 (i:=i) (row:=r) (by simpa using hi);refine ⟨this.1,?_⟩;rw [Nat.succ_mul,Nat.add_comm, ← List.drop_drop, ← hl,List.drop_left,hl];exact this.2
theorem FVr.append {sz:Nat}:∀ {rows rows':List (List AV)} {xs ys:List Value},FVr E sz rows xs→FVr E sz rows' ys→FVr E sz (rows ++ rows') (xs ++ ys)
 |[],rows',xs,ys,h,h'=>by simp only [FVr] at h;simpa [h] using h'
 |row :: rows,rows',xs,ys,h,h'=>by
  simp only [FVr] at h;obtain ⟨us,zs,rfl,h0,h1,h2⟩:=h;simp only [List.cons_append,FVr];exact ⟨us,_,by rw [List.append_assoc],h0,h1,FVr.append h2 h'⟩
theorem FVr.drop {sz:Nat}:∀ (n:Nat) {rows:List (List AV)} {xs:List Value},FVr E sz rows xs→FVr E sz (rows.drop n) (xs.drop (n * sz))
 |0,rows,xs,h=>by simpa using h
 |n+1,[],xs,h=>by simp only [FVr] at h;simp [h,FVr]
 |n+1,row :: rows,xs,h=>by
  simp only [FVr] at h;obtain ⟨ys,zs,rfl,h0,h1,h2⟩:=h
  have hl:ys.length=sz:=by rw [h1.length,h0]
  have e:(ys ++ zs).drop ((n+1) * sz)=zs.drop (n * sz):=by
   rw [show (n+1) * sz=ys.length+n * sz by rw [hl,Nat.succ_mul];omega, ← List.drop_drop,List.drop_left]
  rw [e]
  simpa using FVr.drop n h2
theorem FVr.take {sz:Nat}:∀ (n:Nat) {rows:List (List AV)} {xs:List Value},FVr E sz rows xs→FVr E sz (rows.take n) (xs.take (n * sz))
 |0,rows,xs,h=>by simp [FVr]
 |n+1,[],xs,h=>by simp only [FVr] at h;simp [h,FVr]
 |n+1,row :: rows,xs,h=>by
  simp only [FVr] at h;obtain ⟨ys,zs,rfl,h0,h1,h2⟩:=h
  have hl:ys.length=sz:=by rw [h1.length,h0]
  simp only [List.take_succ_cons,FVr];refine ⟨ys,zs.take (n * sz),?_,h0,h1,FVr.take n h2⟩;rw [Nat.succ_mul,Nat.add_comm,List.take_append,hl];rw [List.take_of_length_le (by omega)]
  congr 2
  omega
def splice {α:Type} (xs:List α) (k:Nat) (ys:List α):List α:=xs.take k ++ ys ++ xs.drop (k+ys.length)
theorem He {α:Type} {xs ys:List α} {k:Nat} (h:k+ys.length≤xs.length):(splice xs k ys).length=xs.length:=by
 simp [splice];omega
theorem FVc.splice {cs ds:List AV} {xs ys:List Value} (h:FVc E cs xs) (h':FVc E ds ys) (k:Nat):FVc E (splice cs k ds) (AM.splice xs k ys):=by
 unfold AM.splice
 rw [h'.length];exact ((h.take k).append h').append (h.drop _)
theorem FVr.set {sz:Nat} {rows:List (List AV)} {xs:List Value} (h:FVr E sz rows xs) {i j:Nat} {row ds:List AV} {ys:List Value} (hi:rows[i]?= some row) (hd:FVc E ds ys)
 (hj:j+ds.length≤row.length):FVr E sz (rows.set i (splice row j ds)) (splice xs (i * sz+j) ys):=by
 have hg:=h.get hi;have hlt:i < rows.length:=(List.getElem?_eq_some_iff.1 hi).1
 have hsp:rows.set i (AM.splice row j ds)=rows.take i ++ ([AM.splice row j ds] ++ rows.drop (i+1)):=by
  rw [List.set_eq_take_append_cons_drop,if_pos hlt];rfl
 have hxl:=h.length;have hyl:=hd.length
 have hmul:i * sz+sz≤xs.length:=by
  rw [hxl, ← Nat.succ_mul];exact Nat.mul_le_mul_right _ hlt
 have hx:AM.splice xs (i * sz+j) ys=xs.take (i * sz) ++ (AM.splice ((xs.drop (i * sz)).take sz) j ys ++ xs.drop ((i+1) * sz)):=by
  have hrl:=hg.1
  apply List.ext_getElem?
  intro k;simp only [AM.splice,Nat.succ_mul];simp only [List.getElem?_append,List.length_append,List.length_take,List.length_drop,List.getElem?_take,List.getElem?_drop]
  have e1:min (i * sz+j) xs.length=i * sz+j:=by omega
  have e2:min (i * sz) xs.length=i * sz:=by omega
  have e3:min j (min sz (xs.length - i * sz))=j:=by omega
  have e4:min sz (xs.length - i * sz)=sz:=by omega
  rw [e1,e2,e3,e4]
  by_cases c1:k < i * sz
  ·simp [c1,show k < i * sz+j+ys.length by omega,show k < i * sz+j by omega]
  by_cases c2:k < i * sz+j
  ·simp [c1,c2,show k < i * sz+j+ys.length by omega,show k - i * sz < j by omega,show k - i * sz < j+ys.length+(sz - (j+ys.length)) by omega,show k - i * sz < j+ys.length by omega,show i * sz+(k - i * sz)=k by omega,show k - i * sz < sz by omega]
  by_cases c3:k < i * sz+j+ys.length
  ·simp [c1,c2,c3,show ¬ k - i * sz < j by omega,show k - i * sz < j+ys.length+(sz - (j+ys.length)) by omega,show k - i * sz < j+ys.length by omega,show k - (i * sz+j)=k - i * sz - j by omega]
  by_cases c4:k - i * sz < sz
  ·simp [c1,c2,c3,show ¬ k - i * sz < j by omega,show k - i * sz < j+ys.length+(sz - (j+ys.length)) by omega,show ¬ k - i * sz < j+ys.length by omega,
    show j+ys.length+(k - i * sz - (j+ys.length)) < sz by omega,show i * sz+j+ys.length+(k - (i * sz+j+ys.length))=k by omega,show i * sz+(j+ys.length+(k - i * sz - (j+ys.length)))=k by omega]
  simp [c1,c2,c3,show ¬ k - i * sz < j+ys.length+(sz - (j+ys.length)) by omega,show i * sz+j+ys.length+(k - (i * sz+j+ys.length))=k by omega,
   show i * sz+sz+(k - i * sz - (j+ys.length+(sz - (j+ys.length))))=k by omega]
 rw [hsp,hx];refine (h.take i).append (FVr.append ?_ (h.drop _));simp only [FVr];exact ⟨_,[],by simp,by rw [He hj];exact hg.1,hg.2.splice hd j,rfl⟩
end cells
structure St where
 slots:List (Nat × AV)
 objs:List (Nat × Obj)
 next:Nat
 nt:Nat
 env:Nat
 deriving Inhabited
def Al {α:Type}:List (Nat × α)→Nat→Option α
 |[],_=>none
 |(k,v) :: l,n=>bif Nat.beq k n then some v else Al l n
def Ct {α:Type}:List (Nat × α)→Nat→List (Nat × α)
 |[],_=>[]
 |p :: l,n=>bif Nat.beq p.1 n then Ct l n else p :: Ct l n
theorem A8 {α:Type} (k:Nat) (v:α) (l:List (Nat × α)) (n:Nat):Al ((k,v) :: l) n=if k=n then some v else Al l n:=by
 simp only [Al]
 by_cases h:k=n
 ·have hb:Nat.beq k n=true:=by rw [Nat.beq_eq];exact h
  simp [h,hb]
 have hb:Nat.beq k n=false:=by
  cases hc:Nat.beq k n
  ·rfl
  rw [Nat.beq_eq] at hc;exact absurd hc h
 simp [h,hb]
theorem AZ {α:Type} (l m:List (Nat × α)) (n:Nat):Al (l ++ m) n=(Al l n).or (Al m n):=by
 induction l with
 |nil=>simp [Al]
 |cons p l ih =>
  obtain ⟨k,v⟩:=p;rw [List.cons_append,A8,A8,ih]
  split <;> simp
theorem Cj {α:Type} (l:List (Nat × α)) (k n:Nat):Al (Ct l k) n=if k=n then none else Al l n:=by
 induction l with
 |nil=>simp [Ct,Al]
 |cons p l ih =>
  obtain ⟨j,v⟩:=p;simp only [Ct]
  by_cases h:j=k
  ·have hb:Nat.beq j k=true:=by rw [Nat.beq_eq];exact h
   simp only [hb,cond_true];rw [ih,A8,h]
   split <;> simp
  have hb:Nat.beq j k=false:=by
   cases hc:Nat.beq j k
   ·rfl
   rw [Nat.beq_eq] at hc;exact absurd hc h
  simp only [hb,cond_false];rw [A8,A8,ih]
  by_cases h2:j=n
  ·have:k≠n:=fun e=>h (h2.trans e.symm)
   simp [h2,this]
  simp [h2]
def St.get (σ:St) (s:Nat):AV:=match Al σ.slots s with | some v=>v | none=> .top
def lookG:List (Nat × List Value)→Nat→Option (List Value)
 |[],_=>none
 |p :: l,g=>if p.1=g then some p.2 else lookG l g
theorem lookG_mem:∀ {l:List (Nat × List Value)} {g:Nat} {xs:List Value},lookG l g=some xs→(g,xs) ∈ l
 |p :: l,g,xs,h=>by
  rw [lookG] at h
  split at h
  ·rename_i e
   simp only [Option.some.injEq] at h;rw [← e, ← h]
   simp
  ·exact List.mem_cons_of_mem _ (lookG_mem h)
def Vo (g:Nat):AV:=match lookG laidG g with
 |some xs=> .sadr (xs.map .lit) 0
 |none=> .lit (.pointer (some ⟨g,0,none⟩))
def LaidOK (w:World) (S:Nat→Prop):Prop:=(∀ p ∈ laidG,S p.1∧(∃ t fz,w.heap[p.1]?= some (.cells p.2.toArray t fz))∧∀ v ∈ p.2,v.oneCell'=true) ∧
 ∀ g ∈ laidE,S g∧∃ t fz te pe,w.heap[g]?= some (.cells #[.iface te pe] t fz)
theorem LaidOK.sup {w:World} {S S':Nat→Prop} (h:LaidOK w S) (hS:∀ b,S b→S' b):LaidOK w S':=⟨fun p hp=>⟨hS _ (h.1 p hp).1,(h.1 p hp).2⟩,fun g hg=>⟨hS _ (h.2 g hg).1,(h.2 g hg).2⟩⟩
theorem LaidOK.le {E E':Env} (h:LaidOK E.w E.S) (hle:E.le E'):LaidOK E'.w E'.S:=⟨fun p hp=>⟨(hle.stay _ (h.1 p hp).1).1,by
 obtain ⟨t,fz,e⟩:=(h.1 p hp).2.1
 exact ⟨t,fz,(hle.stay _ (h.1 p hp).1).2.trans e⟩,(h.1 p hp).2.2⟩,fun g hg=>⟨(hle.stay _ (h.2 g hg).1).1,by
 obtain ⟨t,fz,te,pe,e⟩:=(h.2 g hg).2
 exact ⟨t,fz,te,pe,(hle.stay _ (h.2 g hg).1).2.trans e⟩⟩⟩
theorem LaidOK.heap {w w':World} {S:Nat→Prop} (h:LaidOK w S) (hw:∀ c,S c→w'.heap[c]?= w.heap[c]?):LaidOK w' S:=⟨fun p hp=>⟨(h.1 p hp).1,by
 obtain ⟨t,fz,e⟩:=(h.1 p hp).2.1
 exact ⟨t,fz,(hw _ (h.1 p hp).1).trans e⟩,(h.1 p hp).2.2⟩,fun g hg=>⟨(h.2 g hg).1,by
 obtain ⟨t,fz,te,pe,e⟩:=(h.2 g hg).2
 exact ⟨t,fz,te,pe,(hw _ (h.2 g hg).1).trans e⟩⟩⟩
theorem LaidOK.holds {w:World} {S:Nat→Prop} (h:LaidOK w S) {g:Nat} {xs:List Value} (hg:(g,xs) ∈ laidG):holds w ⟨g,0,none⟩ xs:=by
 obtain ⟨t,fz,e⟩:=(h.1 _ hg).2.1;intro j u hu
 have ea:Addr.add ⟨g,0,none⟩ j=⟨g,j,none⟩:=by
  by_cases hj:j=0
  ·subst hj;rfl
  simp [Addr.add,hj]
 rw [ea];simp only [World.cell?,e]
 simpa using hu
theorem FVc.lits {E:Env}:∀ {xs:List Value},(∀ v ∈ xs,v.oneCell'=true)→FVc E (xs.map .lit) xs
 |[],_=>rfl
 |v :: xs,h=>by
  simp only [List.map_cons,FVc];exact ⟨v,xs,rfl,h v (by simp),by simp [FV],FVc.lits fun u hu=>h u (by simp [hu])⟩
theorem LaidOK.addr {E:Env} (h:LaidOK E.w E.S) (g:Nat):FV E (Vo g) (.pointer (some ⟨g,0,none⟩)):=by
 unfold Vo
 cases hl:lookG laidG g with
 |none=>simp [FV]
 |some xs =>
  obtain ⟨h1,h2,h3⟩:=h.1 _ (lookG_mem hl);simp only [FV];exact ⟨⟨g,0,none⟩,xs,by simp [Addr.add],rfl,h1,FVc.lits h3,h.holds (lookG_mem hl)⟩
def St.ev (σ:St):Operand→AV
 |.tmp t=>σ.get t
 |.const v=> .lit v
 |.global g=>Vo g
 |.func f=> .fn (.func f) [] []
def ObjOK (w:World) (hd:Value) (xs:List Value) (o:Obj):Prop :=
 match o.slc with
 |true=>(hd= .slice none 0 0∧o.rows=[]∧xs=[]) ∨
   (∃ b cap cur,hd= .slice (some ⟨b,0,none⟩) o.rows.length cap∧w.heap[b]?= some (.cells cur o.elem (0,0))∧o.rows.length≤cap∧cap≤maxLen∧cur.size=cap * o.sz ∧
     cur.toList.take (o.rows.length * o.sz)=xs) ∨
   ∃ b es clk,hd= .map (some b)∧w.heap[b]?= some (.map es clk)∧MapWf o.sz es clk∧C1 es.toList=xs
 |false=>(∃ b,hd= .pointer (some ⟨b,0,none⟩)∧o.rows.length=1∧w.heap[b]?= some (.cells xs.toArray o.elem (0,0))) ∨
   ∃ b it,hd= .chan (some b)∧o.rows.length=1∧w.heap[b]?= some it∧((it= .mapIter none 0 #[] 0∧xs=[itn])∨∃ m clk seen,it= .mapIter (some m) clk seen clk∧xs=[KD m clk seen])
def Tp (w w':World):Prop:=w'.tape=w.tape∧w.drawn≤w'.drawn
theorem Tp.refl (w:World):Tp w w:=⟨rfl,Nat.le_refl _⟩
theorem Tp.trans {w w' w'':World} (h:Tp w w') (h':Tp w' w''):Tp w w'':=⟨h'.1.trans h.1,Nat.le_trans h.2 h'.2⟩
structure Keep (own:Nat→Prop) (w w':World):Prop where
 os:w'.os=w.os
 tape:Tp w w'
 output:w'.output=w.output
 size:w.heap.size≤w'.heap.size
 block:∀ b,b < w.heap.size→¬ own b→w'.heap[b]?= w.heap[b]?
theorem Keep.refl (own:Nat→Prop) (w:World):Keep own w w:=⟨rfl,Tp.refl w,rfl,Nat.le_refl _,fun _ _ _=>rfl⟩
structure Ctx where
 w0:World
 own:Nat→Prop
 H0:Nat→Value
 k:Nat
 S0:Nat→Prop
 Z0:Nat→Nat
 dfr:List Deferred
structure Rel (C:Ctx) (E:Env) (X:Nat→List Value) (σ:St) (a:Act):Prop where
 slots:∀ s v,Al σ.slots s=some v→FV E v (a.tmps.getD s undef)
 size:a.tmps.size=σ.nt
 defers:a.defers=C.dfr
 objs:∀ r o,Al σ.objs r=some o→E.D r∧E.Z r=o.sz∧ObjOK E.w (E.H r) (X r) o∧FVr (E.by o.cl) o.sz o.rows (X r)
 apart:∀ r r' o o' b,Al σ.objs r=some o→Al σ.objs r'=some o'→blockOf (E.H r)=some b→blockOf (E.H r')=some b→r=r'
 stay:∀ b,E.S b→b < E.w.heap.size∧∀ r o,Al σ.objs r=some o→blockOf (E.H r)≠some b
 fresh:∀ r,E.D r→r < σ.next
 kept:Keep C.own C.w0 E.w
 mine:∀ r o b,Al σ.objs r=some o→blockOf (E.H r)=some b→C.own b∨C.w0.heap.size≤b
 env:∀ r,r < C.k→E.H r=C.H0 r∧E.Z r=C.Z0 r
 envD:∀ r,r < C.k→E.D r
 base:∀ b,C.S0 b→E.S b
 grow:∀ b,E.S b→C.S0 b∨C.w0.heap.size≤b∨C.own b
 envk:C.k=σ.env
 glob:LaidOK E.w E.S
theorem ObjOK.lt {w:World} {hd:Value} {xs:List Value} {o:Obj} (h:ObjOK w hd xs o) {b:Nat} (hb:blockOf hd=some b):b < w.heap.size:=by
 unfold ObjOK at h
 split at h
 ·rcases h with ⟨rfl,_⟩ | ⟨b',cap,cur,rfl,hg,_⟩ | ⟨b',es,clk,rfl,hg,_⟩
  ·simp [blockOf,baseOf] at hb
  all_goals
   simp [blockOf,baseOf] at hb
   subst hb;exact (Array.getElem?_eq_some_iff.1 hg).1
 rcases h with ⟨b',rfl,_,hg⟩ | ⟨b',it,rfl,_,hg,_⟩
 all_goals
  simp [blockOf,baseOf] at hb
  subst hb;exact (Array.getElem?_eq_some_iff.1 hg).1
theorem ObjOK.asMap {E:Env} {r:Nat} {x:Value} {xs:List Value} {o:Obj} (h:ObjOK E.w (E.H r) xs o) (hs:o.slc=true) (hx:FV E (.hd r) x):∃ b es clk,E.H r= .map (some b)∧E.w.heap[b]?= some (.map es clk)∧MapWf o.sz es clk∧C1 es.toList=xs∧x= .map (some b):=by
 simp only [FV] at hx
 unfold ObjOK at h
 rw [hs] at h
 simp only at h
 rcases hx with ⟨_,⟨b,hH,rfl⟩ | ⟨b,hH,rfl⟩⟩ <;> rcases h with ⟨h,_⟩ | ⟨b',cap,cur,h,_⟩ | ⟨b',es,clk,h,hg,h1,h2⟩ <;> rw [hH] at h <;> try (cases h;done)
 simp only [Value.map.injEq,Option.some.injEq] at h;subst h;exact ⟨b,es,clk,hH,hg,h1,h2,rfl⟩
theorem ObjOK.asIter {E:Env} {r:Nat} {x:Value} {xs:List Value} {o:Obj} (h:ObjOK E.w (E.H r) xs o) (hs:o.slc=false) (hx:FV E (.hd r) x):∃ b it,E.H r= .chan (some b)∧E.w.heap[b]?= some it∧x= .pointer (some ⟨b,0,none⟩)∧o.rows.length=1∧((it= .mapIter none 0 #[] 0∧xs=[itn])∨∃ m clk seen,it= .mapIter (some m) clk seen clk∧xs=[KD m clk seen]):=by
 simp only [FV] at hx
 unfold ObjOK at h
 rw [hs] at h
 simp only at h
 rcases hx with ⟨_,⟨b,hH,rfl⟩ | ⟨b,hH,rfl⟩⟩ <;> rcases h with ⟨b',h,_⟩ | ⟨b',it,h,h1,hg,h2⟩ <;> rw [hH] at h <;> try (cases h;done)
 simp only [Value.chan.injEq,Option.some.injEq] at h;subst h;exact ⟨b,it,hH,hg,rfl,h1,h2⟩
theorem ObjOK.kept {w w':World} {hd:Value} {xs:List Value} {o:Obj} (h:ObjOK w hd xs o) (hk:∀ b,blockOf hd=some b→w'.heap[b]?= w.heap[b]?):ObjOK w' hd xs o:=by
 unfold ObjOK at h ⊢
 split at h
 ·rcases h with h | ⟨b',cap,cur,rfl,hg,rest⟩ | ⟨b',es,clk,rfl,hg,rest⟩
  ·exact .inl h
  ·exact .inr (.inl ⟨b',cap,cur,rfl,by rw [hk b' rfl];exact hg,rest⟩)
  exact .inr (.inr ⟨b',es,clk,rfl,by rw [hk b' rfl];exact hg,rest⟩)
 rcases h with ⟨b',rfl,h1,hg⟩ | ⟨b',it,rfl,h1,hg,rest⟩
 ·exact .inl ⟨b',rfl,h1,by rw [hk b' rfl];exact hg⟩
 exact .inr ⟨b',it,rfl,h1,by rw [hk b' rfl];exact hg,rest⟩
theorem Rel.ev {C:Ctx} {E:Env} {X:Nat→List Value} {σ:St} {a:Act} (h:Rel C E X σ a) (x:Operand):FV E (σ.ev x) (a.eval x):=by
 cases x with
 |tmp t =>
  simp only [St.ev,St.get,Act.eval]
  cases hf:Al σ.slots t with
  |none=>simp [FV]
  |some v=>exact h.slots t v hf
 |const v=>simp [St.ev,FV,Act.eval]
 |global g=>simpa [St.ev,Act.eval] using h.glob.addr g
 |func f=>simp [St.ev,FV,FVs,Act.eval]
structure LocalPost (E:Env) (v:AV) (new:List (Nat × Obj)) (y:Value) (E':Env) (X':Nat→List Value):Prop where
 keep:Keep (fun _=>False) E.w E'.w
 le:E.le E'
 dom:∀ r,E'.D r→E.D r∨∃ o,Al new r=some o
 stay:∀ b,E'.S b→E.S b∨(E.w.heap.size≤b∧b < E'.w.heap.size∧∀ r o,Al new r=some o→blockOf (E'.H r)≠some b)
 objs:∀ r o,Al new r=some o→E'.D r∧¬ E.D r∧E'.Z r=o.sz∧ObjOK E'.w (E'.H r) (X' r) o∧FVr (E'.by o.cl) o.sz o.rows (X' r)∧∀ b,blockOf (E'.H r)=some b→E.w.heap.size≤b
 apart:∀ r r' o o' b,Al new r=some o→Al new r'=some o'→blockOf (E'.H r)=some b→blockOf (E'.H r')=some b→r=r'
 val:FV E' v y
def Local (P:Program) (σ:St) (o:Oper) (v:AV) (new:List (Nat × Obj)):Prop :=
 ∀ C E X a,Rel C E X σ a→(∀ r ob,Al new r=some ob→¬ E.D r)→∀ (K:Act→World→Prop) (Q:Exit→Act→World→Prop),
  (∀ y E' X',LocalPost E v new y E' X'→K (a.put o.dst y) E'.w)→o.wp P a E.w K Q
def St.ext (σ:St) (dst:Option Nat) (v:AV) (new:List (Nat × Obj)) (n':Nat):St :=
 { σ with slots:=(match dst with | some d=>(d,v) :: σ.slots | none=>σ.slots),objs:=new ++ σ.objs,next:=n' }
def St.put (σ:St) (dst:Option Nat) (v:AV):St:={ σ with slots:=(match dst with | some d=>(d,v) :: σ.slots | none=>σ.slots) }
theorem NE {a:Act} {d:Nat} {y:Value} (h:d < a.tmps.size):(a.put (some d) y).tmps.getD d undef=y:=by
 simp [Act.put,Array.getD,h]
theorem Mz {a:Act} {d s:Nat} {y:Value} (h:d≠s):(a.put (some d) y).tmps.getD s undef=a.tmps.getD s undef:=by
 simp only [Act.put]
 by_cases hs:s < a.tmps.size
 ·simp [Array.getD,hs,h]
 simp [Array.getD,hs]
theorem Pk (a:Act) (d:Option Nat) (y:Value):(a.put d y).tmps.size=a.tmps.size:=by
 cases d <;> simp [Act.put]
theorem L1 (a:Act) (d:Option Nat) (y:Value):(a.put d y).defers=a.defers:=by
 cases d <;> rfl
theorem N2 {E E':Env} {σ:St} {a:Act} (hle:E.le E') (h:∀ s v,Al σ.slots s=some v→FV E v (a.tmps.getD s undef)) {dst:Option Nat} {v:AV} {y:Value} (hv:FV E' v y)
 (hd:∀ d,dst=some d→d < a.tmps.size) :
 ∀ s u,Al (match dst with | some d=>(d,v) :: σ.slots | none=>σ.slots) s=some u→FV E' u ((a.put dst y).tmps.getD s undef):=by
 intro s u hu
 cases dst with
 |none=>exact FV.le _ hle _ (h s u hu)
 |some d =>
  simp only [A8] at hu
  by_cases e:d=s
  ·subst e;simp only [if_true,Option.some.injEq] at hu;subst hu;rw [NE (hd d rfl)];exact hv
  rw [if_neg e] at hu;rw [Mz e];exact FV.le _ hle _ (h s u hu)
theorem Rel.ext {C:Ctx} {E E':Env} {X X':Nat→List Value} {σ:St} {a:Act} (h:Rel C E X σ a) {v:AV} {new:List (Nat × Obj)} {y:Value} (p:LocalPost E v new y E' X')
 (dst:Option Nat) (n':Nat) (hd:∀ d,dst=some d→d < σ.nt) (hn:∀ r o,Al new r=some o→r < n') (hle:σ.next≤n') :
 ∃ X'',Rel C E' X'' (σ.ext dst v new n') (a.put dst y):=by
 have hob:∀ r o,Al (new ++ σ.objs) r=some o→(Al new r=some o)∨(Al new r=none∧Al σ.objs r=some o):=by
  intro r o hr;rw [AZ] at hr
  cases hf:Al new r with
  |none=>rw [hf] at hr;exact .inr ⟨rfl,by simpa using hr⟩
  |some o'=>rw [hf] at hr;exact .inl (by simpa using hr)
 have hlt:∀ r o b,Al σ.objs r=some o→blockOf (E.H r)=some b→b < E.w.heap.size:=fun r o b hr hb=>(h.objs r o hr).2.2.1.lt hb;have hkeep:∀ b,b < E.w.heap.size→E'.w.heap[b]?= E.w.heap[b]?:=fun b hb=>p.keep.block b hb (fun h=>h);have hH:∀ r o,Al σ.objs r=some o→E'.H r=E.H r:=fun r o hr=>(p.le.root r (h.objs r o hr).1).2.1;refine ⟨fun r=>if (Al new r).isSome then X' r else X r,?_,?_,?_,?_,?_,?_,?_,?_,?_,?_,?_,?_,?_,h.envk,h.glob.le p.le⟩
 ·exact N2 p.le h.slots p.val (fun d e=>by rw [h.size];exact hd d e)
 ·rw [Pk];exact h.size
 ·rw [L1];exact h.defers
 ·intro r o hr
  rcases hob r o hr with hr | ⟨hr0,hr⟩
  ·obtain ⟨h1,_,h2,h3,h4,_⟩:=p.objs r o hr;simp only [hr,Option.isSome_some,if_true];exact ⟨h1,h2,h3,h4⟩
  obtain ⟨h1,h2,h3,h4⟩:=h.objs r o hr;obtain ⟨g1,g2,g3⟩:=p.le.root r h1;simp only [hr0,Option.isSome_none,Bool.false_eq_true,if_false];rw [g2,g3];exact ⟨g1,h2,h3.kept (fun b hb=>hkeep b (h3.lt hb)),FVr.le _ _ (p.le.by o.cl) _ h4⟩
 ·intro r r' o o' b hr hr' hb hb'
  rcases hob r o hr with hr | ⟨hr0,hr⟩ <;> rcases hob r' o' hr' with hr' | ⟨hr0',hr'⟩
  ·exact p.apart r r' o o' b hr hr' hb hb'
  ·have h1:=(p.objs r o hr).2.2.2.2.2 b hb;rw [hH r' o' hr'] at hb';have h2:=hlt r' o' b hr' hb';omega
  ·have h1:=(p.objs r' o' hr').2.2.2.2.2 b hb';rw [hH r o hr] at hb;have h2:=hlt r o b hr hb;omega
  rw [hH r o hr] at hb;rw [hH r' o' hr'] at hb';exact h.apart r r' o o' b hr hr' hb hb'
 ·intro b hb
  rcases p.stay b hb with hs | ⟨h1,h2,h3⟩
  ·obtain ⟨g1,g2⟩:=h.stay b hs;refine ⟨Nat.lt_of_lt_of_le g1 p.keep.size,fun r o hr e=>?_⟩
   rcases hob r o hr with hr | ⟨hr0,hr⟩
   ·have:=(p.objs r o hr).2.2.2.2.2 b e;omega
   rw [hH r o hr] at e;exact g2 r o hr e
  refine ⟨h2,fun r o hr e=>?_⟩
  rcases hob r o hr with hr | ⟨hr0,hr⟩
  ·exact h3 r o hr e
  rw [hH r o hr] at e;have:=hlt r o b hr e;omega
 ·intro r hr
  rcases p.dom r hr with hr | ⟨o,hr⟩
  ·exact Nat.lt_of_lt_of_le (h.fresh r hr) hle
  exact hn r o hr
 ·refine ⟨p.keep.os.trans h.kept.os,h.kept.tape.trans p.keep.tape,p.keep.output.trans h.kept.output,Nat.le_trans h.kept.size p.keep.size,fun b hb hno=>?_⟩;rw [hkeep b (Nat.lt_of_lt_of_le hb h.kept.size)];exact h.kept.block b hb hno
 ·intro r o b hr hb
  rcases hob r o hr with hr | ⟨hr0,hr⟩
  ·exact .inr (Nat.le_trans h.kept.size ((p.objs r o hr).2.2.2.2.2 b hb))
  rw [hH r o hr] at hb;exact h.mine r o b hr hb
 ·intro r hk;obtain ⟨_,g2,g3⟩:=p.le.root r (h.envD r hk);rw [g2,g3];exact h.env r hk
 ·intro r hk;exact (p.le.root r (h.envD r hk)).1
 ·intro b hb;exact (p.le.stay b (h.base b hb)).1
 intro b hb
 rcases p.stay b hb with hs | ⟨h1,_,_⟩
 ·exact h.grow b hs
 exact .inr (.inl (Nat.le_trans h.kept.size h1))
def Br (P:Program) {α:Type}:Sem α→Option α
 |.pure a=>some a
 |.program k=>Br P (k P)
 |_=>none
theorem Jp {P:Program} {α:Type} {v:α}:∀ (s:Sem α),Br P s=some v→∀ w,s.run P w= .ok v w
 |.pure a,h,w=>by simp only [Br,Option.some.injEq] at h;subst h;rfl
 |.program k,h,w=>by simp only [Br] at h;simp only [Sem.run];exact Jp (k P) h w
 |.load ..,h,w=>by simp [Br] at h
 |.store ..,h,w=>by simp [Br] at h
 |.new ..,h,w=>by simp [Br] at h
 |.shape ..,h,w=>by simp [Br] at h
 |.freeze ..,h,w=>by simp [Br] at h
 |.frozen ..,h,w=>by simp [Br] at h
 |.getObj ..,h,w=>by simp [Br] at h
 |.setObj ..,h,w=>by simp [Br] at h
 |.choose ..,h,w=>by simp [Br] at h
 |.sys ..,h,w=>by simp [Br] at h
 |.mark ..,h,w=>by simp [Br] at h
 |.halt ..,h,w=>by simp [Br] at h
theorem Bj (P:Program) {α:Type} (a:α):Br P (Pure.pure a)=some a:=rfl
theorem Ka (P:Program) {α β:Type} (f:α→Sem β):∀ (x:Sem α),Br P (x.bind f)=(Br P x).bind fun a=>Br P (f a)
 |.pure a=>rfl
 |.program k=>by simp only [Sem.bind,Br];exact Ka P f (k P)
 |.load .. | .store .. | .new .. | .shape .. | .freeze .. | .frozen .. | .getObj .. | .setObj .. | .choose .. | .sys .. | .mark .. | .halt ..=>rfl
theorem Bb (P:Program) {α β:Type} (x:Sem α) (f:α→Sem β):Br P (x >>= f)=(Br P x).bind fun a=>Br P (f a):=Ka P f x
mutual
def toVal:AV→Option Value
 |.lit v=>some v
 |.agg cs=>(toVals cs).map fun xs=> .agg xs.toArray
 |_=>none
def toVals:List AV→Option (List Value)
 |[]=>some []
 |c :: cs=>match toVal c,toVals cs with
  |some x,some xs=>some (x :: xs)
  |_,_=>none
end
mutual
theorem FV.toVal {E:Env}:∀ {v:AV} {x x':Value},AM.toVal v=some x'→FV E v x→x=x'
 |.lit v,x,x',h,hx=>by simp only [AM.toVal,Option.some.injEq] at h;simp only [FV] at hx;rw [hx,h]
 |.agg cs,x,x',h,hx=>by
  simp only [AM.toVal,Option.map_eq_some_iff] at h;obtain ⟨xs,h1,rfl⟩:=h;simp only [FV] at hx;obtain ⟨ys,rfl,hy⟩:=hx;have:=FVc.toVals h1 hy;rw [← this]
 |.top,_,_,h,_=>by simp [AM.toVal] at h
 |.tup _,_,_,h,_=>by simp [AM.toVal] at h
 |.sh _ _,_,_,h,_=>by simp [AM.toVal] at h
 |.sadr _ _,_,_,h,_=>by simp [AM.toVal] at h
 |.als _ _ _,_,_,h,_=>by simp [AM.toVal] at h
 |.adr _ _ _,_,_,h,_=>by simp [AM.toVal] at h
 |.fn _ _ _,_,_,h,_=>by simp [AM.toVal] at h
theorem FVc.toVals {E:Env}:∀ {cs:List AV} {xs xs':List Value},AM.toVals cs=some xs'→FVc E cs xs→xs=xs'
 |[],xs,xs',h,hx=>by simp only [AM.toVals,Option.some.injEq] at h;simp only [FVc] at hx;rw [hx,h]
 |c :: cs,xs,xs',h,hx=>by
  simp only [FVc] at hx;obtain ⟨y,ys,rfl,_,h1,h2⟩:=hx;simp only [AM.toVals] at h
  split at h
  ·rename_i a b ha hb
   simp only [Option.some.injEq] at h;subst h;rw [FV.toVal ha h1,FVc.toVals hb h2]
  ·cases h
end
theorem FVs.toVals {E:Env}:∀ {cs:List AV} {xs xs':List Value},AM.toVals cs=some xs'→FVs E cs xs→xs=xs'
 |[],xs,xs',h,hx=>by simp only [AM.toVals,Option.some.injEq] at h;simp only [FVs] at hx;rw [hx,h]
 |c :: cs,xs,xs',h,hx=>by
  simp only [FVs] at hx;obtain ⟨y,ys,rfl,h1,h2⟩:=hx;simp only [AM.toVals] at h
  split at h
  ·rename_i a b ha hb
   simp only [Option.some.injEq] at h;subst h;rw [FV.toVal ha h1,FVs.toVals hb h2]
  ·cases h
theorem Rel.evs {C:Ctx} {E:Env} {X:Nat→List Value} {σ:St} {a:Act} (h:Rel C E X σ a):∀ (l:List Operand),FVs E (l.map σ.ev) (l.map a.eval)
 |[]=>by simp [FVs]
 |x :: l=>by simp only [List.map_cons,FVs];exact ⟨_,_,rfl,h.ev x,h.evs l⟩
theorem Ie {P:Program} {o:Oper} {a:Act} {w w':World} {K:Act→World→Prop} {Q:Exit→Act→World→Prop} {y:Value}
 (h:(execOp a.eval o).run P w= .ok (.value y) w') (hk:K (a.put o.dst y) w'):o.wp P a w K Q:=by
 unfold Oper.wp
 rw [h];exact hk
theorem Local.value {P:Program} {σ:St} {o:Oper} {v:AV}
 (h:∀ C E X a,Rel C E X σ a→∃ y,(execOp a.eval o).run P E.w= .ok (.value y) E.w∧FV E v y):Local P σ o v []:=by
 intro C E X a hr _ K Q hk;obtain ⟨y,h1,h2⟩:=h C E X a hr;refine Ie h1 (hk y E X ⟨Keep.refl _ _,⟨fun b hb=>⟨hb,rfl⟩,fun r hr=>⟨hr,rfl,rfl⟩⟩,fun r hr=> .inl hr,fun b hb=> .inl hb,?_,?_,h2⟩)
 ·intro r o hr;simp [Al] at hr
 intro r r' o o' b hr;simp [Al] at hr
def BQ {α:Type} (f:Nat→α) (n:Nat) (x:α):Nat→α:=fun k=>if k=n then x else f k
theorem Local.allocO {P:Program} {σ:St} {o:Oper} {v:AV} {id:Nat} {ob:Obj}
 (h:∀ C E X a,Rel C E X σ a→∃ y hd xs O,(execOp a.eval o).run P E.w= .ok (.value y) (E.w.alloc O)∧blockOf hd=some E.w.heap.size ∧
   ObjOK (E.w.alloc O) hd xs ob∧FVr (E.by ob.cl) ob.sz ob.rows xs∧∀ E':Env,E'.D id→E'.H id=hd→E'.Z id=ob.sz→FV E' v y):Local P σ o v [(id,ob)]:=by
 intro C E X a hr hf K Q hk;obtain ⟨y,hd,xs,O,h1,h2,h3,h4,h5⟩:=h C E X a hr;have hid:¬ E.D id:=hf id ob (by simp [A8]);have hne:∀ r,E.D r→r≠id:=fun r hd e=>hid (e ▸ hd)
 let E':Env:={ w:=E.w.alloc O,H:=BQ E.H id hd,Z:=BQ E.Z id ob.sz,D:=fun r=>E.D r∨r=id,S:=E.S }
 have hold:∀ b,b < E.w.heap.size→(E.w.alloc O).heap[b]?= E.w.heap[b]?:=fun b hb=>heap_alloc_old _ _ _ hb;have hle:E.le E':=⟨fun b hb=>⟨hb,hold b (hr.stay b hb).1⟩,fun r hd=>⟨.inl hd,by simp [E',BQ,hne r hd],by simp [E',BQ,hne r hd]⟩⟩
 have h1':∀ r ob',Al [(id,ob)] r=some ob'→r=id∧ob'=ob:=by
  intro r ob' hfr;rw [A8] at hfr
  split at hfr
  ·simp at hfr;exact ⟨by omega,hfr.symm⟩
  simp [Al] at hfr
 refine Ie h1 (hk y E' (fun _=>xs) ⟨⟨rfl,Tp.refl _,rfl,by simp [E'],fun b hb _=>hold b hb⟩,hle,?_,fun b hb=> .inl hb,?_,?_,?_⟩)
 ·rintro r (hd | rfl)
  ·exact .inl hd
  exact .inr ⟨ob,by simp [A8]⟩
 ·intro r ob' hfr;obtain ⟨rfl,rfl⟩:=h1' r ob' hfr;refine ⟨.inr rfl,hid,by simp [E',BQ],by simpa [E',BQ] using h3,FVr.le _ _ (hle.by _) _ h4,?_⟩;intro b hb;simp only [E',BQ,if_true] at hb;rw [h2] at hb
  simp at hb;omega
 ·intro r r' ob1 ob2 b hr hr' _ _;rw [(h1' r ob1 hr).1,(h1' r' ob2 hr').1]
 exact h5 E' (.inr rfl) (by simp [E',BQ]) (by simp [E',BQ])
theorem Local.alloc {P:Program} {σ:St} {o:Oper} {v:AV} {id:Nat} {ob:Obj}
 (h:∀ C E X a,Rel C E X σ a→∃ y xs cs T,(execOp a.eval o).run P E.w= .ok (.value y) (E.w.alloc (.cells cs T))∧blockOf y=some E.w.heap.size ∧
   ObjOK (E.w.alloc (.cells cs T)) y xs ob∧FVr (E.by ob.cl) ob.sz ob.rows xs∧∀ E':Env,E'.D id→E'.H id=y→E'.Z id=ob.sz→FV E' v y):Local P σ o v [(id,ob)] :=
 Local.allocO fun C E X a hr=>by
  obtain ⟨y,xs,cs,T,h1⟩:=h C E X a hr;exact ⟨y,y,xs, .cells cs T,h1⟩
theorem Local.move {P:Program} {σ:St} {o:Oper} {x:Operand} (ho:o.op= .move x∨o.op= .assign x):Local P σ o (σ.ev x) [] :=
 Local.value fun C E X a hr=>⟨a.eval x,by unfold execOp;rcases ho with ho | ho <;> simp [ho],hr.ev x⟩
theorem Local.pick {P:Program} {σ:St} {o:Oper} {c x y:Operand} {t:Bool} (ho:o.op= .pick c x y) (hc:σ.ev c= .lit (.bool t)) :
 Local P σ o (if t then σ.ev x else σ.ev y) [] :=
 Local.value fun C E X a hr=>by
  have h:=hr.ev c;rw [hc] at h;simp only [FV] at h;refine ⟨if t then a.eval x else a.eval y,?_,?_⟩
  ·unfold execOp
   simp [ho,h,asBool]
  ·cases t
   ·simpa using hr.ev y
   ·simpa using hr.ev x
theorem Local.scalar {P:Program} {σ:St} {o:Oper} {z:Value}
 (h:∀ C E X a,Rel C E X σ a→∃ s:Sem Value,(execOp a.eval o)=(do pure (.value (← s)))∧Br P s=some z):Local P σ o (.lit z) [] :=
 Local.value fun C E X a hr=>by
  obtain ⟨s,h1,h2⟩:=h C E X a hr;refine ⟨z,?_,by simp [FV]⟩;rw [h1]
  simp [Jp s h2 E.w]
theorem Fk {P:Program} {t:TypeId} {d:TypeDesc} (h:P.underlying t=some d):∃ i,P.info? t=some i:=by
 cases hi:P.info? t with
 |some i=>exact ⟨i,rfl⟩
 |none=>simp [Program.underlying,hi] at h
theorem B8 {P:Program} {t:TypeId} {i:TypeInfo} (h:P.info? t=some i):P.cellsOf t=i.size:=by simp [Program.cellsOf,h]
theorem Cl {P:Program} {t:TypeId} {i:TypeInfo} (h:P.info? t=some i) (w:World):(sizeOf t).run P w= .ok i.size w:=by simp [sizeOf,typeInfo,h]
def isAggD:TypeDesc→Bool
 |.struct _ | .array _ _=>true
 |_=>false
def Bi (P:Program) (t:TypeId):Option Bool:=(P.underlying t).map isAggD
theorem Ga {P:Program} {t:TypeId} {b:Bool} (h:Bi P t=some b) (w:World):(isAgg t).run P w= .ok b w:=by
 unfold Bi at h
 cases hu:P.underlying t with
 |none=>simp [hu] at h
 |some d =>
  simp only [hu,Option.map_some,Option.some.injEq] at h;subst h;simp only [isAgg,Sem.run_bind,run_underlying hu,Result.andThen_ok]
  cases d <;> rfl
theorem KR (a:Addr) (h:a.spot=none) (n:Nat):a.add n=⟨a.block,a.off+n,none⟩:=by
 obtain ⟨b,o,s⟩:=a
 simp only at h
 subst h;exact Addr.add_lit b o n
theorem Fa (a:Addr) (h:a.spot=none) (m n:Nat):(a.add m).add n=a.add (m+n):=by
 rw [KR a h,KR a h,Addr.add_lit,Nat.add_assoc]
theorem Dp (a:Addr) (h:a.spot=none) (n:Nat):(a.add n).spot=none:=by rw [KR a h]
theorem holds.drop {w:World} {a:Addr} {xs:List Value} (h:holds w a xs) (hs:a.spot=none) (k:Nat):holds w (a.add k) (xs.drop k):=by
 intro j u hu;rw [Fa a hs];exact h _ _ (by simpa using hu)
theorem holds.take {w:World} {a:Addr} {xs:List Value} (h:holds w a xs) (k:Nat):holds w a (xs.take k):=by
 intro j u hu;rw [List.getElem?_take] at hu
 split at hu
 ·exact h _ _ hu
 cases hu
theorem ObjOK.block {w:World} {hd:Value} {xs:List Value} {o:Obj} (h:ObjOK w hd xs o) {a0:Addr} (ha:baseOf hd=some a0) :
 ∃ b cur,a0=⟨b,0,none⟩∧w.heap[b]?= some (.cells cur o.elem (0,0))∧cur.toList.take xs.length=xs∧xs.length≤cur.size:=by
 unfold ObjOK at h
 split at h
 ·rcases h with ⟨rfl,_⟩ | ⟨b',cap,cur,rfl,hg,hl,hm,hs,ht⟩ | ⟨b',es,clk,rfl,_⟩
  ·simp [baseOf] at ha
  rotate_left
  ·simp [baseOf] at ha
  simp [baseOf] at ha
  subst ha
  have hle:o.rows.length * o.sz≤cur.size:=by rw [hs];exact Nat.mul_le_mul_right _ hl
  have hlen:xs.length=o.rows.length * o.sz:=by rw [← ht];simp;omega
  exact ⟨b',cur,rfl,hg,by rw [hlen,ht],by rw [hlen];exact hle⟩
 rcases h with ⟨b',rfl,_,hg⟩ | ⟨b',it,rfl,_⟩
 ·simp [baseOf] at ha
  subst ha;exact ⟨b',xs.toArray,rfl,hg,by simp,by simp⟩
 simp [baseOf] at ha
theorem ObjOK.holds {w:World} {hd:Value} {xs:List Value} {o:Obj} (h:ObjOK w hd xs o) {a0:Addr} (ha:baseOf hd=some a0):a0.spot=none∧AM.holds w a0 xs:=by
 obtain ⟨b,cur,rfl,hg,ht,hl⟩:=h.block ha;refine ⟨rfl,fun j u hu=>?_⟩;rw [Addr.add_lit,cell_of_row w b _ cur _ _ hg,Nat.zero_add];rw [← ht,List.getElem?_take] at hu
 split at hu
 ·simpa using hu
 cases hu
def CM (σ:St):AV→Option (List AV)
 |.adr r i j=>(Al σ.objs r).bind fun o=>(o.rows[i]?).map fun row=>row.drop j
 |.sadr row j=>some (row.drop j)
 |_=>none
theorem Rel.cellsFrom {C:Ctx} {E:Env} {X:Nat→List Value} {σ:St} {a:Act} (h:Rel C E X σ a) {v:AV} {x:Value} {cs:List AV} (hc:AM.CM σ v=some cs) (hx:FV E v x) :
 ∃ ad ys,x= .pointer (some ad)∧ad.spot=none∧FVc E cs ys∧holds E.w ad ys:=by
 cases v <;> try (simp [AM.CM] at hc;done)
 case adr r i j =>
  simp only [AM.CM,Option.bind_eq_some_iff,Option.map_eq_some_iff] at hc;obtain ⟨o,ho,row,hrow,rfl⟩:=hc;simp only [FV] at hx;obtain ⟨_,a0,hb,hs,rfl⟩:=hx;obtain ⟨_,hz,hok,hr⟩:=h.objs r o ho;obtain ⟨_,hh⟩:=hok.holds hb;have hg:=hr.get hrow;refine ⟨_,(((X r).drop (i * o.sz)).take o.sz).drop j,rfl,Dp _ hs _,FVc.le _ (E.by_le o.cl) _ (hg.2.drop j),?_⟩;rw [hz, ← Fa a0 hs];exact ((hh.drop hs (i * o.sz)).take o.sz).drop (Dp _ hs _) j
 case sadr row j =>
  simp only [AM.CM,Option.some.injEq] at hc;subst hc;simp only [FV] at hx;obtain ⟨ad,xs,rfl,hs,_,hc,hh⟩:=hx;exact ⟨_,xs.drop j,rfl,Dp _ hs _,FVc.le _ E.clear_le _ (hc.drop j),hh.drop hs j⟩
def EI (P:Program) (σ:St) (t:TypeId) (v:AV):Option AV :=
 match Bi P t,CM σ v with
 |some true,some cs=>bif Nat.ble (P.cellsOf t) cs.length then some (.agg (cs.take (P.cellsOf t))) else none
 |some false,some (c :: _)=>some c
 |_,_=>none
theorem CG {m n:Nat} (h:Nat.ble m n=true):m≤n:=Nat.le_of_ble_eq_true h
theorem Rel.loadAV {P:Program} {C:Ctx} {E:Env} {X:Nat→List Value} {σ:St} {a:Act} (h:Rel C E X σ a) {t:TypeId} {v u:AV} {x:Value} (hl:AM.EI P σ t v=some u) (hx:FV E v x) :
 ∃ y,(Instr.loadAt t x).run P E.w= .ok y E.w∧FV E u y:=by
 unfold AM.EI at hl
 split at hl
 ·rename_i cs ht hc
  obtain ⟨ad,ys,rfl,hs,hcs,hh⟩:=h.cellsFrom hc hx
  cases hble:Nat.ble (P.cellsOf t) cs.length with
  |false=>simp [hble] at hl
  |true =>
   simp only [hble,cond_true,Option.some.injEq] at hl;subst hl;have hle:=CG hble
   unfold Bi at ht
   cases hu:P.underlying t with
   |none=>simp [hu] at ht
   |some d =>
    obtain ⟨i,hi⟩:=Fk hu;have hsz:=B8 hi
    have hlen:(ys.take i.size).length=i.size:=by rw [List.length_take,hcs.length, ← hsz];omega
    have hrun:=run_loadCells_list (P:=P) (w:=E.w) ad (ys.take i.size) (hh.take _);rw [hlen] at hrun;refine ⟨.agg (ys.take i.size).toArray,?_,?_⟩
    ·simp [Instr.loadAt,Instr.sureAddr,loadVar,Ga (P:=P) (t:=t) (b:=true) (by unfold Bi;exact ht),Cl hi,hrun]
    simp only [FV];exact ⟨_,rfl,by rw [hsz];exact hcs.take _⟩
 ·rename_i c cs ht hc
  simp only [Option.some.injEq] at hl;subst hl;obtain ⟨ad,ys,rfl,hs,hcs,hh⟩:=h.cellsFrom hc hx;obtain ⟨y,hy,_,hv⟩:=hcs.get (j:=0) (c:=c) rfl;have hcell:=hh 0 y hy;rw [Addr.add_zero'] at hcell;refine ⟨y,?_,hv⟩
  simp [Instr.loadAt,Instr.sureAddr,loadVar,Ga ht,hcell]
 cases hl
theorem Local.load {P:Program} {σ:St} {o:Oper} {t:TypeId} {x:Operand} {u:AV} (ho:o.op= .load t x) (h:EI P σ t (σ.ev x)=some u):Local P σ o u [] :=
 Local.value fun C E X a hr=>by
  obtain ⟨y,h1,h2⟩:=hr.loadAV h (hr.ev x);exact ⟨y,by unfold execOp;simp [ho,h1],h2⟩
def Gu (k:Nat):AV→Option AV
 |.adr r i j=>some (.adr r i (j+k))
 |.sadr row j=>some (.sadr row (j+k))
 |_=>none
theorem FV.shift {E:Env} {k:Nat} {v u:AV} {x:Value} (h:AM.Gu k v=some u) (hx:FV E v x):∃ a,x= .pointer (some a)∧FV E u (.pointer (some (a.add k))):=by
 cases v <;> try (simp [AM.Gu] at h;done)
 case adr r i j =>
  simp only [AM.Gu,Option.some.injEq] at h;subst h;simp only [FV] at hx ⊢;obtain ⟨hd,a0,hb,hs,rfl⟩:=hx;exact ⟨_,rfl,hd,a0,hb,hs,by rw [Fa a0 hs,Nat.add_assoc]⟩
 case sadr row j =>
  simp only [AM.Gu,Option.some.injEq] at h;subst h;simp only [FV] at hx ⊢;obtain ⟨ad,xs,rfl,hs,hst,hc,hh⟩:=hx;exact ⟨_,rfl,ad,xs,by rw [Fa ad hs],hs,hst,hc,hh⟩
def AX (P:Program) (s:TypeId) (f:Nat):Option (Nat × TypeId) :=
 match P.underlying s with
 |some (.struct fs)=>(fs[f]?).map fun fl=>(fl.offset,fl.type)
 |_=>none
theorem Local.fieldAddr {P:Program} {σ:St} {o:Oper} {s:TypeId} {x:Operand} {f:Nat} {off:Nat} {ty:TypeId} {u:AV} (ho:o.op= .fieldAddr s x f) (hf:AX P s f=some (off,ty))
 (hz:P.cellsOf ty≠0) (h:Gu off (σ.ev x)=some u):Local P σ o u [] :=
 Local.value fun C E X a hr=>by
  obtain ⟨ad,hx,hu⟩:=FV.shift h (hr.ev x)
  unfold AX at hf
  split at hf
  ·rename_i fs hus
   simp only [Option.map_eq_some_iff] at hf;obtain ⟨fl,hfl,he⟩:=hf;simp only [Prod.mk.injEq] at he;obtain ⟨rfl,rfl⟩:=he
   cases hi:P.info? fl.type with
   |none=>simp [Program.cellsOf,hi] at hz
   |some i =>
    rw [B8 hi] at hz;refine ⟨_,?_,hu⟩
    unfold execOp
    simp [ho,Instr.fieldAt,run_underlying hus,hfl,hx,Instr.sureAddr,fieldPlace,Cl hi,hz]
  ·cases hf
def A9 (P:Program) (t:TypeId):Option TypeId :=
 match P.underlying t with
 |some (.slice e)=>some e
 |_=>none
theorem BL {P:Program} {t e:TypeId} (h:A9 P t=some e):P.underlying t=some (.slice e):=by
 unfold A9 at h
 split at h
 ·simp only [Option.some.injEq] at h;subst h;assumption
 cases h
def EL (σ:St) (sz:Nat) (v:AV) (n:Int):Option AV :=
 match v with
 |.als r lo m=>(Al σ.objs r).bind fun o=>bif Nat.beq o.sz sz then (if 0≤n∧n < m then some (.adr r (lo+n.toNat) 0) else none) else none
 |.sh s rows=>bif Nat.beq s sz then (if 0≤n then (rows[n.toNat]?).map fun row=> .sadr row 0 else none) else none
 |_=>none
theorem Local.indexAddr {P:Program} {σ:St} {o:Oper} {t e:TypeId} {x ix:Operand} {k:IntKind} {n:Int} {u:AV} (ho:o.op= .indexAddr t x ix) (ht:A9 P t=some e)
 (hn:σ.ev ix= .lit (.int k n)) (hpos:P.cellsOf e≠0) (h:EL σ (P.cellsOf e) (σ.ev x) n=some u):Local P σ o u [] :=
 Local.value fun C E X a hr=>by
  have hix:=hr.ev ix;rw [hn] at hix;simp only [FV] at hix;have hu:=BL ht
  cases hi:P.info? e with
  |none=>simp [Program.cellsOf,hi] at hpos
  |some i =>
  rw [B8 hi] at h hpos;have hx:=hr.ev x
  revert hx h
  generalize σ.ev x=v
  intro h hx
  cases v <;> try (simp [EL] at h;done)
  case als r lo m =>
   simp only [EL,Option.bind_eq_some_iff] at h;obtain ⟨ob,hob,h⟩:=h
   cases hb:Nat.beq ob.sz i.size with
   |false=>simp [hb] at h
   |true =>
    rw [Nat.beq_eq] at hb;simp only [hb,Nat.beq_refl,cond_true] at h
    split at h
    ·rename_i hlt
     simp only [Option.some.injEq] at h;subst h;obtain ⟨_,hz,_,_⟩:=hr.objs r ob hob;simp only [FV] at hx ⊢;obtain ⟨hd,A0,n0,c0,A,c,hH,hx,hmc,_,hA⟩:=hx;obtain ⟨a0,rfl,hs,rfl⟩:=hA (by omega);refine ⟨.pointer (some (a0.add ((lo+n.toNat) * E.Z r+0))),?_,hd,a0,by rw [hH];rfl,hs,rfl⟩
     unfold execOp
     simp only [ho,Instr.indexAt,hix,asIntOf,hx,Sem.run_bind,Sem.run_pure,Result.andThen_ok,run_underlying hu,hlt,and_self,if_true,Cl hi];rw [Fa a0 hs,hz,hb,Nat.add_zero,Nat.add_mul]
    ·cases h
  case sh s rows =>
   simp only [EL] at h
   cases hb:Nat.beq s i.size with
   |false=>simp [hb] at h
   |true =>
    rw [Nat.beq_eq] at hb;simp only [hb,Nat.beq_refl,cond_true] at h
    split at h
    ·rename_i hn0
     simp only [Option.map_eq_some_iff] at h;obtain ⟨row,hrow,rfl⟩:=h;have hlt:n.toNat < rows.length:=(List.getElem?_eq_some_iff.1 hrow).1;simp only [FV] at hx ⊢;obtain ⟨A,c,xs,hx,hcap,hrr,hA⟩:=hx;obtain ⟨a0,rfl,hs,hS,hh⟩:=hA (by intro e;rw [e] at hlt;simp at hlt);have hg:=hrr.get hrow;refine ⟨.pointer (some (a0.add (n.toNat * i.size))),?_,a0.add (n.toNat * i.size),(xs.drop (n.toNat * s)).take s,?_,Dp _ hs _,by rw [Dm];exact hS,hg.2,?_⟩
     ·unfold execOp
      have hlt':0≤n∧n < (rows.length:Int):=by omega
      simp only [ho,Instr.indexAt,hix,asIntOf,hx,Sem.run_bind,Sem.run_pure,Result.andThen_ok,run_underlying hu,hlt',and_self,if_true,Cl hi]
     ·rw [Addr.add_zero']
     ·rw [hb];exact (hh.drop hs _).take _
    ·cases h
theorem Local.indexArr {P:Program} {σ:St} {o:Oper} {t e:TypeId} {len:Nat} {x ix:Operand} {k:IntKind} {n:Int} {u:AV} (ho:o.op= .indexAddr t x ix) (ht:P.underlying t=some (.array len e))
 (hn:σ.ev ix= .lit (.int k n)) (hlt:0≤n∧n < len) (hpos:P.cellsOf e≠0) (h:Gu (n.toNat * P.cellsOf e) (σ.ev x)=some u):Local P σ o u [] :=
 Local.value fun C E X a hr=>by
  have hix:=hr.ev ix;rw [hn] at hix;simp only [FV] at hix
  cases hi:P.info? e with
  |none=>simp [Program.cellsOf,hi] at hpos
  |some i =>
  rw [B8 hi] at h hpos;obtain ⟨ad,hx,hu⟩:=FV.shift h (hr.ev x);refine ⟨_,?_,hu⟩
  unfold execOp
  simp only [ho,Instr.indexAt,hix,asIntOf,hx,Instr.sureAddr,Sem.run_bind,Sem.run_pure,Result.andThen_ok,run_underlying ht,hlt,and_self,if_true,Cl hi]
def lenAV:AV→Option Nat
 |.als _ _ n=>some n
 |.sh _ rows=>some rows.length
 |.lit (.slice none 0 0)=>some 0
 |_=>none
theorem FV.len {E:Env} {v:AV} {x:Value} {n:Nat} (h:lenAV v=some n) (hx:FV E v x):∃ A c,x= .slice A n c:=by
 cases v <;> try (simp [lenAV] at h;done)
 case als r lo m =>
  simp only [lenAV,Option.some.injEq] at h;subst h;simp only [FV] at hx;obtain ⟨_,A0,n0,c0,A,c,_,rfl,_⟩:=hx;exact ⟨A,c,rfl⟩
 case sh s rows =>
  simp only [lenAV,Option.some.injEq] at h;subst h;simp only [FV] at hx;obtain ⟨A,c,xs,rfl,_⟩:=hx;exact ⟨A,c,rfl⟩
 case lit y =>
  simp only [FV] at hx;subst hx
  unfold lenAV at h
  split at h
  ·rename_i h';cases h'
  ·rename_i h';cases h'
  ·rename_i h';simp only [AV.lit.injEq] at h';subst h';simp only [Option.some.injEq] at h;subst h;exact ⟨none,0,rfl⟩
  cases h
theorem Local.len {P:Program} {σ:St} {o:Oper} {t e:TypeId} {x:Operand} {n:Nat} (ho:o.op= .call { callee:= .builtin .len,args:= #[x],argTypes:= #[t] }) (ht:A9 P t=some e)
 (h:lenAV (σ.ev x)=some n):Local P σ o (.lit (.int .i64 n)) [] :=
 Local.value fun C E X a hr=>by
  obtain ⟨A,c,hx⟩:=FV.len h (hr.ev x);have hu:=BL ht;refine ⟨.int .i64 n,?_,by simp [FV]⟩
  unfold execOp
  simp [ho,resolve,invoke,builtin,Builtin.len_,hx,run_underlying hu,goInt]
def Ew (v:AV) (l h:Nat):Option AV :=
 match v with
 |.als r lo n=>if l≤h∧h≤n then some (.als r (lo+l) (h - l)) else none
 |.sh s rows=>if l≤h∧h≤rows.length then some (.sh s ((rows.drop l).take (h - l))) else none
 |_=>none
def CN (σ:St) (d:Nat):Option Operand→Option Nat
 |none=>some d
 |some x=>match σ.ev x with
  |.lit (.int _ n)=>if 0≤n then some n.toNat else none
  |_=>none
theorem DZ {P:Program} {w:World} {k:IntKind} {n:Int} {y:Nat} {code:BoundsCode} (h0:0≤n) (h1:n.toNat≤y):(Instr.sliceBound (.int k n) y code).run P w= .ok n.toNat w:=by
 simp [Instr.sliceBound,asIntOf,show 0≤n∧n≤(y:Int) by omega]
def IJ (x:Option Value) (d l:Nat):Prop:=(x=none∧l=d)∨∃ k n,x=some (.int k n)∧0≤n∧n.toNat=l
theorem Rel.bound {C:Ctx} {E:Env} {X:Nat→List Value} {σ:St} {a:Act} (hr:Rel C E X σ a) {d l:Nat} {x:Option Operand} (h:CN σ d x=some l):IJ (x.map a.eval) d l:=by
 cases x with
 |none=>simp only [CN,Option.some.injEq] at h;exact .inl ⟨rfl,h.symm⟩
 |some y =>
  simp only [CN] at h
  split at h
  ·rename_i k m hy
   split at h
   ·rename_i h0
    simp only [Option.some.injEq] at h;have:=hr.ev y;rw [hy] at this;simp only [FV] at this;exact .inr ⟨k,m,by simp [this],h0,h⟩
   cases h
  cases h
theorem Rel.bounds {C:Ctx} {E:Env} {X:Nat→List Value} {σ:St} {a:Act} (hr:Rel C E X σ a) {d d' l h:Nat} {x y:Option Operand} (hl:CN σ d x=some l) (hh:CN σ d' y=some h) :
 IJ (x.map a.eval) d l∧IJ (y.map a.eval) d' h:=⟨hr.bound hl,hr.bound hh⟩
theorem Ma {P:Program} {w:World} {n c l h:Nat} {lo hi:Option Value} (hl:IJ lo 0 l) (hh:IJ hi n h) (hlh:l≤h) (hc:h≤c) :
 (Instr.sliceBounds true n c lo hi none).run P w= .ok (l,h,c) w:=by
 rcases hl with ⟨rfl,rfl⟩ | ⟨k,m,rfl,h0,rfl⟩ <;> rcases hh with ⟨rfl,rfl⟩ | ⟨k',m',rfl,h0',rfl⟩
 ·simp [Instr.sliceBounds]
 ·simp [Instr.sliceBounds,DZ h0' hc]
 ·simp [Instr.sliceBounds,DZ h0 hlh]
 simp [Instr.sliceBounds,DZ h0' hc,DZ h0 hlh]
theorem Local.slice {P:Program} {σ:St} {o:Oper} {t e:TypeId} {x:Operand} {lo hi:Option Operand} {n l h:Nat} {u:AV} (ho:o.op= .slice t x lo hi none) (ht:A9 P t=some e)
 (hpos:P.cellsOf e≠0) (hlen:lenAV (σ.ev x)=some n) (hl:CN σ 0 lo=some l) (hh:CN σ n hi=some h) (hz:∀ r a b,σ.ev x= .als r a b→∃ ob,Al σ.objs r=some ob∧ob.sz=P.cellsOf e)
 (hzs:∀ s rows,σ.ev x= .sh s rows→s=P.cellsOf e) (hu:Ew (σ.ev x) l h=some u):Local P σ o u [] :=
 Local.value fun C E X a hr=>by
  have hund:=BL ht
  cases hi':P.info? e with
  |none=>simp [Program.cellsOf,hi'] at hpos
  |some i =>
  have hsz:=B8 hi';have hx:=hr.ev x;obtain ⟨A,c,hxe⟩:=FV.len hlen hx
  have hlh:l≤h∧h≤n∧n≤c:=by
   revert hu hlen hx
   generalize σ.ev x=v
   intro hlen hu hx
   cases v <;> try (simp [Ew] at hu;done)
   case als r lo' m =>
    simp only [lenAV,Option.some.injEq] at hlen;subst hlen;simp only [Ew] at hu
    split at hu
    ·simp only [FV] at hx;obtain ⟨_,A0,n0,c0,A',c',_,hx',hmc,_⟩:=hx;rw [hxe] at hx';simp only [Value.slice.injEq] at hx';omega
    ·cases hu
   case sh s rows =>
    simp only [lenAV,Option.some.injEq] at hlen;subst hlen;simp only [Ew] at hu
    split at hu
    ·simp only [FV] at hx;obtain ⟨A',c',xs,hx',hcap,_⟩:=hx;rw [hxe] at hx';simp only [Value.slice.injEq] at hx';omega
    ·cases hu
  obtain ⟨hlh1,hlh2,hlh3⟩:=hlh;have hb:=hr.bounds hl hh;have hsb:=Ma (P:=P) (w:=E.w) (n:=n) (c:=c) hb.1 hb.2 hlh1 (by omega)
  have hrun:(execOp a.eval o).run P E.w= .ok (.value (.slice (if c=l then A else A.map (·.add (l * i.size))) (h - l) (c - l))) E.w:=by
   unfold execOp
   simp only [ho,Sem.run_bind,Instr.sliceAt,run_underlying hund,Result.andThen_ok,Option.map_none,hxe,Instr.slice,Sem.run_pure,Cl hi',hsb]
  refine ⟨_,hrun,?_⟩
  revert hu hlen hx hz hzs
  generalize σ.ev x=v
  intro hlen hz hzs hu hx
  cases v <;> try (simp [Ew] at hu;done)
  case als r lo' m =>
   simp only [lenAV,Option.some.injEq] at hlen;subst hlen;simp only [Ew] at hu
   split at hu
   ·simp only [Option.some.injEq] at hu;subst hu;obtain ⟨ob,hob,hobz⟩:=hz r lo' m rfl;obtain ⟨_,hZ,_,_⟩:=hr.objs r ob hob;simp only [FV] at hx ⊢;obtain ⟨hd,A0,n0,c0,A',c',hH,hx',hmc,hlo0,hA⟩:=hx;rw [hxe] at hx';simp only [Value.slice.injEq,true_and] at hx';obtain ⟨rfl,rfl⟩:=hx';refine ⟨hd,A0,n0,c0,_,_,hH,rfl,by omega,?_,?_⟩
    ·intro hz0;obtain ⟨rfl,rfl⟩:=hlo0 (by omega)
     have:l=0:=by omega
     subst this;refine ⟨?_,by omega⟩
     split
     ·rfl
     ·simp only [Nat.zero_mul]
      cases A <;> simp [Addr.add_zero']
    ·intro hp;obtain ⟨a0,rfl,hs,rfl⟩:=hA (by omega);refine ⟨a0,rfl,hs,?_⟩;rw [if_neg (by omega),Option.map_some,Fa a0 hs,hZ,hobz,hsz,Nat.add_mul]
   ·cases hu
  case sh s rows =>
   simp only [lenAV,Option.some.injEq] at hlen;subst hlen;simp only [Ew] at hu
   split at hu
   ·simp only [Option.some.injEq] at hu;subst hu;have hss:=hzs s rows rfl;simp only [FV] at hx ⊢;obtain ⟨A',c',xs,hx',hcap,hrr,hA⟩:=hx;rw [hxe] at hx';simp only [Value.slice.injEq,true_and] at hx';obtain ⟨rfl,rfl⟩:=hx'
    have hlen':((rows.drop l).take (h - l)).length=h - l:=by simp;omega
    refine ⟨if c=l then A else A.map (·.add (l * i.size)),c - l,((xs.drop (l * s)).take ((h - l) * s)),by rw [hlen'],by rw [hlen'];omega,(hrr.drop l).take _,fun hne=>?_⟩
    have hne':rows≠[]:=by rintro rfl;simp at hne
    have hpos':0 < h - l:=by
     rcases Nat.eq_zero_or_pos (h - l) with h0 | h0
     ·rw [h0] at hne;simp at hne
     ·exact h0
    obtain ⟨a0,rfl,hs,hS,hhold⟩:=hA hne';refine ⟨a0.add (l * i.size),by rw [if_neg (by omega)];rfl,Dp _ hs _,by rw [Dm];exact hS,?_⟩;rw [hss,hsz];exact (hhold.drop hs _).take _
   ·cases hu
def cellsAV:AV→Option (List AV)
 |.agg cs=>some cs
 |.top=>none
 |.tup _=>none
 |.hd _=>none
 |.rem _ _ _=>none
 |.lit v=>bif v.oneCell' then some [.lit v] else none
 |v=>some [v]
theorem FV.cells {E:Env} {v:AV} {x:Value} {cs:List AV} (h:cellsAV v=some cs) (hx:FV E v x):FVc E cs x.cells.toList:=by
 have one:∀ u:AV,FV E u x→x.oneCell'=true→x.cells= #[x]→FVc E [u] x.cells.toList:=by
  intro u hu h1 h2;rw [h2];simp only [FVc];exact ⟨x,[],rfl,h1,hu,rfl⟩
 cases v with
 |top=>simp [cellsAV] at h
 |tup vs=>simp [cellsAV] at h
 |hd r=>simp [cellsAV] at h
 |shm s rows =>
  simp only [cellsAV,Option.some.injEq] at h;subst h;have hx':=hx;simp only [FV] at hx'
  rcases hx' with ⟨rfl,_⟩ | ⟨b,es,clk,rfl,_⟩
  ·exact one _ hx rfl rfl
  exact one _ hx rfl rfl
 |rem s la rows=>simp [cellsAV] at h
 |agg ds =>
  simp only [cellsAV,Option.some.injEq] at h;subst h;simp only [FV] at hx;obtain ⟨xs,rfl,hc⟩:=hx;exact hc
 |lit y =>
  simp only [cellsAV] at h
  cases hy:y.oneCell' with
  |false=>simp [hy] at h
  |true =>
   simp only [hy,cond_true,Option.some.injEq] at h;subst h;have hx':=hx;simp only [FV] at hx';subst hx';refine one _ hx hy ?_
   cases x <;> first | rfl | simp [Value.oneCell'] at hy
 |sh s rows =>
  simp only [cellsAV,Option.some.injEq] at h;subst h;have hx':=hx;simp only [FV] at hx';obtain ⟨A,c,xs,rfl,_⟩:=hx';exact one _ hx rfl rfl
 |sadr row j =>
  simp only [cellsAV,Option.some.injEq] at h;subst h;have hx':=hx;simp only [FV] at hx';obtain ⟨a,xs,rfl,_⟩:=hx';exact one _ hx rfl rfl
 |als r lo n =>
  simp only [cellsAV,Option.some.injEq] at h;subst h;have hx':=hx;simp only [FV] at hx';obtain ⟨_,A0,n0,c0,A,c,_,rfl,_⟩:=hx';exact one _ hx rfl rfl
 |adr r i j =>
  simp only [cellsAV,Option.some.injEq] at h;subst h;have hx':=hx;simp only [FV] at hx';obtain ⟨_,a0,_,_,rfl⟩:=hx';exact one _ hx rfl rfl
 |fn f first caps =>
  simp only [cellsAV,Option.some.injEq] at h;subst h;have hx':=hx;simp only [FV] at hx';obtain ⟨xs,ys,rfl,_⟩:=hx';exact one _ hx rfl rfl
theorem Oc (E:Env):∀ (xs:List Value),(∀ u ∈ xs,u.oneCell'=true)→FVc E (xs.map .lit) xs
 |[],_=>by simp [FVc]
 |x :: xs,h=>by
  simp only [List.map_cons,FVc];exact ⟨x,xs,rfl,h x (by simp),by simp [FV],Oc E xs fun u hu=>h u (by simp [hu])⟩
def AK (P:Program) (t:TypeId):Option (List AV) :=
 (P.info? t).bind fun i=>i.zero.bind fun z=>bif z.cells.toList.all (·.oneCell') then some (z.cells.toList.map .lit) else none
theorem Ca {P:Program} {t:TypeId} {cs:List AV} (h:AK P t=some cs) :
 ∃ i z,P.info? t=some i∧i.zero=some z∧cs=z.cells.toList.map .lit∧(∀ w,(zeroValue t).run P w= .ok z w)∧∀ E,FVc E cs z.cells.toList:=by
 unfold AK at h
 simp only [Option.bind_eq_some_iff] at h;obtain ⟨i,hi,z,hz,h⟩:=h
 cases hall:z.cells.toList.all (·.oneCell') with
 |false=>simp [hall] at h
 |true =>
  simp only [hall,cond_true,Option.some.injEq] at h;subst h;refine ⟨i,z,hi,hz,rfl,fun w=>by simp [zeroValue,typeInfo,hi,hz],fun E=>Oc E _ ?_⟩;exact List.all_eq_true.1 hall
theorem Local.alloc1 {P:Program} {σ:St} {o:Oper} {t:TypeId} {id:Nat} {cs:List AV} (ho:o.op= .alloc t) (h:AK P t=some cs) :
 Local P σ o (.adr id 0 0) [(id,⟨false,t,cs.length,[cs],true⟩)] :=
 Local.alloc fun C E X a hr=>by
  obtain ⟨i,z,hi,hz,hcs,hrun,hfv⟩:=Ca h;have hlen:=(hfv E).length;refine ⟨.pointer (some ⟨E.w.heap.size,0,none⟩),z.cells.toList,z.cells,t,?_,rfl,Or.inl ⟨E.w.heap.size,rfl,rfl,?_⟩,?_,?_⟩
  ·unfold execOp
   simp [ho,Instr.alloc,hrun,newVar,newRow]
  ·simpa using heap_alloc_new E.w (.cells z.cells t)
  ·simp only [FVr];exact ⟨_,[],(List.append_nil _).symm,trivial,hfv _,rfl⟩
  ·intro E' hd hH hZ;simp only [FV];exact ⟨hd,(⟨E.w.heap.size,0,none⟩:Addr),by rw [hH];rfl,by simp [Addr.add_zero']⟩
theorem Local.box {P:Program} {σ:St} {o:Oper} {t:TypeId} {x:Operand} {id:Nat} {cs:List AV} (ho:o.op= .box t x) (h:cellsAV (σ.ev x)=some cs) :
 Local P σ o (.adr id 0 0) [(id,⟨false,t,cs.length,[cs],closedL cs⟩)] :=
 Local.alloc fun C E X a hr=>by
  have hc:=FV.cells h (hr.ev x);refine ⟨.pointer (some ⟨E.w.heap.size,0,none⟩),(a.eval x).cells.toList,(a.eval x).cells,t,?_,rfl,Or.inl ⟨E.w.heap.size,rfl,rfl,?_⟩,?_,?_⟩
  ·unfold execOp
   simp [ho,Instr.box,newVar,newRow]
  ·simpa using heap_alloc_new E.w (.cells (a.eval x).cells t)
  ·simp only [FVr];exact ⟨_,[],(List.append_nil _).symm,trivial,hc.by_closed,rfl⟩
  ·intro E' hd hH hZ;simp only [FV];exact ⟨hd,(⟨E.w.heap.size,0,none⟩:Addr),by rw [hH];rfl,by simp [Addr.add_zero']⟩
def FD (place:Nat→Option (Nat × Nat)) (cells:List AV):List (Nat × AV)→Option (List AV)
 |[]=>some cells
 |(i,v) :: rest=>(place i).bind fun p=>(cellsAV v).bind fun cs =>
  bif Nat.beq cs.length p.2 && Nat.ble (p.1+cs.length) cells.length then FD place (splice cells p.1 cs) rest else none
theorem JI (off:Nat):∀ (vs:List Value) (j:Nat) (cells:Array Value),off+j+vs.length≤cells.size →
 ((vs.zipIdx j).foldl (fun cs (p:Value × Nat)=>cs.setIfInBounds (off+p.2) p.1) cells).toList=splice cells.toList (off+j) vs
 |[],j,cells,h=>by simp [splice]
 |v :: vs,j,cells,h=>by
  simp only [List.length_cons] at h;rw [List.zipIdx_cons,List.foldl_cons,JI off vs (j+1) _ (by simp;omega)];simp only [Array.toList_setIfInBounds,splice,List.length_cons]
  apply List.ext_getElem?
  intro k;simp only [List.getElem?_append,List.length_append,List.length_take,List.getElem?_take,List.getElem?_drop,List.length_set,Array.length_toList,List.getElem?_set,List.getElem?_cons,List.length_cons]
  have e1:min (off+(j+1)) cells.size=off+(j+1):=by omega
  have e2:min (off+j) cells.size=off+j:=by omega
  rw [e1,e2]
  by_cases c1:k < off+j
  ·simp [c1,show k < off+(j+1)+vs.length by omega,show k < off+(j+1) by omega,show ¬ off+j=k by omega,show k < off+j+(vs.length+1) by omega]
  ·by_cases c2:k=off+j
   ·subst c2
    simp [show off+j < off+(j+1)+vs.length by omega,show off+j < off+(j+1) by omega,show off+j < off+j+(vs.length+1) by omega,show off+j < cells.size by omega]
   ·by_cases c3:k < off+(j+1)+vs.length
    ·simp [c1,c3,show ¬ k < off+(j+1) by omega,show k < off+j+(vs.length+1) by omega,show ¬ k - (off+j)=0 by omega,show k - (off+j) - 1=k - (off+(j+1)) by omega]
    ·simp [c1,c3,show ¬ off+j=k by omega,show ¬ k < off+j+(vs.length+1) by omega,show ¬ off+j=off+(j+1)+vs.length+(k - (off+(j+1)+vs.length)) by omega,
      show off+(j+1)+vs.length+(k - (off+(j+1)+vs.length))=k by omega,show off+j+(vs.length+1)+(k - (off+j+(vs.length+1)))=k by omega]
def K6 (E:Env):List (Nat × AV)→List (Nat × Value)→Prop
 |[],l=>l=[]
 |(i,v) :: r,l=>∃ x l',l=(i,x) :: l'∧FV E v x∧K6 E r l'
theorem Qp {E:Env} {place:Nat→Option (Nat × Nat)}:∀ {parts:List (Nat × AV)} {cparts:List (Nat × Value)} {cells cs':List AV} {cc:Array Value},FD place cells parts=some cs' →
 K6 E parts cparts→FVc E cells cc.toList→∃ cc',Instr.fill place cc cparts=some cc'∧FVc E cs' cc'.toList
 |[],cparts,cells,cs',cc,h,hp,hc=>by
  simp only [FD,Option.some.injEq] at h;subst h;simp only [K6] at hp;subst hp;exact ⟨cc,rfl,hc⟩
 |(i,v) :: rest,cparts,cells,cs',cc,h,hp,hc=>by
  simp only [K6] at hp;obtain ⟨x,l',rfl,hx,hp⟩:=hp;simp only [FD,Option.bind_eq_some_iff] at h;obtain ⟨⟨off,size⟩,hpl,vs,hvs,h⟩:=h
  cases hb:(Nat.beq vs.length size && Nat.ble (off+vs.length) cells.length) with
  |false=>simp [hb] at h
  |true =>
   simp only [hb,cond_true] at h;simp only [Bool.and_eq_true,Nat.beq_eq] at hb;obtain ⟨hb1,hb2⟩:=hb;have hb2:=CG hb2;have hcv:=FV.cells hvs hx
   have hl:x.cells.size=vs.length:=by rw [← Array.length_toList,hcv.length]
   have hcl:cc.size=cells.length:=by rw [← Array.length_toList,hc.length]
   have hspl:=JI off x.cells.toList 0 cc (by rw [Array.length_toList,hl,hcl];omega);have hc2:=FVc.splice hc hcv off
   obtain ⟨cc',h1,h2⟩:=Qp (cc:=(x.cells.zipIdx.foldl (fun cs (p:Value × Nat)=>cs.setIfInBounds (off+p.2) p.1) cc)) h hp (by
    rw [← Array.foldl_toList,Array.toList_zipIdx,hspl,Nat.add_zero]
    exact hc2)
   refine ⟨cc',?_,h2⟩;simp only [Instr.fill,hpl];rw [if_neg (by simp;omega)];exact h1
def G2 (P:Program) (t:TypeId):Option (Nat→Option (Nat × Nat)) :=
 match P.underlying t with
 |some (.array _ e)=>(P.info? e).map fun ie=>fun i=>some (i * ie.size,ie.size)
 |some (.struct fields)=>(fields.toList.mapM (fun f=>(P.info? f.type).map fun i=>(f.offset,i.size))).map fun places=>fun i=>places.toArray[i]?
 |_=>none
theorem Mn {E:Env} {C:Ctx} {X:Nat→List Value} {σ:St} {a:Act} (hr:Rel C E X σ a):∀ (l:List (Nat × Operand)),K6 E (l.map fun p=>(p.1,σ.ev p.2)) (l.map fun p=>(p.1,a.eval p.2))
 |[]=>by simp [K6]
 |(i,x) :: l=>by
  simp only [List.map_cons,K6];exact ⟨_,_,rfl,hr.ev x,Mn hr l⟩
theorem Local.build {P:Program} {σ:St} {o:Oper} {t:TypeId} {parts:Array (Nat × Operand)} {place:Nat→Option (Nat × Nat)} {zs cs:List AV} (ho:o.op= .build t parts) (hz:AK P t=some zs)
 (hp:G2 P t=some place) (h:FD place zs (parts.toList.map fun p=>(p.1,σ.ev p.2))=some cs):Local P σ o (.agg cs) [] :=
 Local.value fun C E X a hr=>by
  obtain ⟨i,z,hi,hzz,rfl,_,hfv⟩:=Ca hz;obtain ⟨cc,h1,h2⟩:=Qp (E:=E) h (Mn hr parts.toList) (cc:=z.cells) (hfv E)
  have hb:P.built t (parts.map fun p=>(p.1,a.eval p.2)).toList=some cc:=by
   unfold Program.built
   unfold G2 at hp
   rw [Array.toList_map]
   cases hu:P.underlying t with
   |none=>simp [hu] at hp
   |some d =>
    simp only [hi]
    cases d <;> try (simp [hu] at hp;done)
    case array n e =>
     simp only [hu,Option.map_eq_some_iff] at hp;obtain ⟨ie,hie,rfl⟩:=hp;simp only [hzz,hie];exact h1
    case struct fields =>
     simp only [hu,Option.map_eq_some_iff] at hp;obtain ⟨places,hpl,rfl⟩:=hp;simp only [hzz,hpl];exact h1
  refine ⟨.agg cc,?_,by simp only [FV];exact ⟨_,rfl,h2⟩⟩
  unfold execOp
  simp [ho,run_build E.w t _ cc hb]
def GS (sz:Nat):Nat→List (Nat × AV)→Option (List (List AV))
 |_,[]=>some []
 |k,(i,v) :: rest=>(cellsAV v).bind fun cs=>bif Nat.beq i k && Nat.beq cs.length sz then (GS sz (k+1) rest).map fun rs=>cs :: rs else none
theorem Nx {E:Env} {sz:Nat}:∀ {parts:List (Nat × AV)} {k:Nat} {rows:List (List AV)} {cparts:List (Nat × Value)} {cc:Array Value},GS sz k parts=some rows→K6 E parts cparts →
 cc.size=(k+rows.length) * sz →
 ∃ cc' ys,Instr.fill (fun i=>some (i * sz,sz)) cc cparts=some cc'∧cc'.toList=cc.toList.take (k * sz) ++ ys∧FVr E sz rows ys∧rows.length=cparts.length
 |[],k,rows,cparts,cc,h,hp,hs=>by
  simp only [GS,Option.some.injEq] at h;subst h;simp only [K6] at hp;subst hp;refine ⟨cc,[],rfl,?_,by simp [FVr],rfl⟩;rw [List.append_nil,List.take_of_length_le]
  simp at hs
  simp [hs]
 |(i,v) :: rest,k,rows,cparts,cc,h,hp,hs=>by
  simp only [K6] at hp;obtain ⟨x,l',rfl,hx,hp⟩:=hp;simp only [GS,Option.bind_eq_some_iff] at h;obtain ⟨cs,hcs,h⟩:=h
  cases hb:(Nat.beq i k && Nat.beq cs.length sz) with
  |false=>simp [hb] at h
  |true =>
   simp only [hb,cond_true,Option.map_eq_some_iff] at h;simp only [Bool.and_eq_true,Nat.beq_eq] at hb;obtain ⟨rfl,hb2⟩:=hb;obtain ⟨rs,hrs,rfl⟩:=h;have hcv:=FV.cells hcs hx
   have hl:x.cells.size=sz:=by rw [← Array.length_toList,hcv.length,hb2]
   have hle:i * sz+sz≤cc.size:=by
    rw [hs, ← Nat.succ_mul];exact Nat.mul_le_mul_right _ (by simp)
   have hspl:=JI (i * sz) x.cells.toList 0 cc (by rw [Array.length_toList,hl];omega);rw [Nat.add_zero] at hspl
   generalize hcc2:(x.cells.zipIdx.foldl (fun cs (p:Value × Nat)=>cs.setIfInBounds (i * sz+p.2) p.1) cc)=cc2
   have hcl2:cc2.toList=splice cc.toList (i * sz) x.cells.toList:=by
    rw [← hcc2, ← Array.foldl_toList,Array.toList_zipIdx,hspl]
   have hsz2:cc2.size=(i+1+rs.length) * sz:=by
    rw [← Array.length_toList,hcl2,He (by rw [Array.length_toList,Array.length_toList,hl];omega),Array.length_toList,hs]
    congr 1
    simp;omega
   obtain ⟨cc',ys,h1,h2,h3,h4⟩:=Nx hrs hp hsz2;refine ⟨cc',x.cells.toList ++ ys,?_,?_,?_,by simp [h4]⟩
   ·simp only [Instr.fill];rw [if_neg (by simp;omega),hcc2];exact h1
   ·rw [h2,hcl2, ← List.append_assoc]
    congr 1
    simp only [splice];rw [Nat.succ_mul,List.take_append_of_le_length (by simp;omega),List.take_append,List.take_take];rw [List.length_take,Array.length_toList,show min (i * sz) cc.size=i * sz by omega,show min (i * sz+sz) (i * sz)=i * sz by omega];rw [List.take_of_length_le (l:=x.cells.toList) (by rw [Array.length_toList,hl];omega)]
   ·simp only [FVr];exact ⟨_,ys,rfl,hb2,hcv,h3⟩
theorem Local.buildSlice {P:Program} {σ:St} {o:Oper} {t e:TypeId} {len:Nat} {parts:Array (Nat × Operand)} {id:Nat} {zs:List AV} {rows:List (List AV)} (ho:o.op= .buildSlice t len parts)
 (ht:A9 P t=some e) (hz:AK P e=some zs) (hzl:zs.length=P.cellsOf e) (hpos:P.cellsOf e≠0) (hrows:GS (P.cellsOf e) 0 (parts.toList.map fun p=>(p.1,σ.ev p.2))=some rows) (hlen:rows.length=len) (hmax:len * P.cellsOf e≤2 ^ 24) :
 Local P σ o (.als id 0 len) [(id,⟨true,e,P.cellsOf e,rows,closedR rows⟩)] :=
 Local.alloc fun C E X a hr=>by
  obtain ⟨i,z,hi,hzz,rfl,hzr,hfv⟩:=Ca hz;have hsz:=B8 hi;rw [hsz] at hrows hmax hpos hzl;simp only [List.length_map,Array.length_toList] at hzl
  generalize hcc:(Array.range (len * i.size)).map (fun k=>z.cells[k % z.cells.size]!)=cc
  have hccs:cc.size=(0+rows.length) * i.size:=by rw [← hcc,hlen];simp
  obtain ⟨cc',ys,h1,h2,h3,h4⟩:=Nx (E:=E) (cc:=cc) hrows (Mn hr parts.toList) hccs;simp only [Nat.zero_mul,List.take_zero,List.nil_append] at h2;have hund:=BL ht
  have hcl:cc'.size=len * i.size:=by rw [← Array.length_toList,h2,h3.length,hlen]
  refine ⟨.slice (some ⟨E.w.heap.size,0,none⟩) len len,ys,cc',e,?_,rfl,?_,by rw [hsz];exact h3.by_closed,?_⟩
  ·unfold execOp
   simp only [ho,Instr.buildSlice,Sem.run_bind,run_underlying hund,Result.andThen_ok,Cl hi,Sem.run_ite];rw [if_neg (by omega)]
   have hfl:Instr.fill (fun k=>some (k * i.size,i.size)) cc (parts.map fun x=>(x.1,a.eval x.2)).toList=some cc':=by
    rw [Array.toList_map];exact h1
   by_cases h0:len * i.size=0
   ·have hl0:len=0:=by
     rcases Nat.mul_eq_zero.1 h0 with h | h
     ·exact h
     ·exact absurd h hpos
    have hcc0:cc= #[]:=by rw [← hcc,h0];simp
    rw [hcc0] at hfl;simp only [h0,if_true,Sem.run_pure,Result.andThen_ok,Array.range_zero',List.map_toArray,List.map_nil,Array.map_empty,hfl]
    simp [newRow]
   ·simp only [h0,if_false,Sem.run_bind,hzr,Result.andThen_ok,Sem.run_pure,hcc,hfl]
    simp [newRow]
  ·refine Or.inr (Or.inl ⟨E.w.heap.size,len,cc',by rw [hlen],heap_alloc_new E.w _,by rw [hlen];exact Nat.le_refl _,?_,by rw [hsz,hcl],?_⟩)
   ·have:len≤len * i.size:=Nat.le_mul_of_pos_right _ (Nat.pos_of_ne_zero hpos);simp only [maxLen];omega
   ·rw [h2,hsz,List.take_of_length_le];rw [h3.length];exact Nat.le_refl _
  ·intro E' hd hH hZ;simp only [FV];refine ⟨hd,_,_,_,_,_,hH,rfl,Nat.le_refl _,fun _=>⟨rfl,rfl⟩,fun _=>⟨_,rfl,rfl,?_⟩⟩
   simp [Addr.add_zero']
theorem Local.makeFunc {P:Program} {σ:St} {o:Oper} {f:Fn} {first caps:Array Operand} (ho:o.op= .makeFunc f first caps) :
 Local P σ o (.fn f (first.toList.map σ.ev) (caps.toList.map σ.ev)) [] :=
 Local.value fun C E X a hr=>by
  refine ⟨.func f (first.map a.eval) (caps.map a.eval),by unfold execOp;simp [ho,Instr.makeFunc],?_⟩;simp only [FV];exact ⟨_,_,rfl,by rw [Array.toList_map];exact hr.evs _,by rw [Array.toList_map];exact hr.evs _⟩
theorem Local.extract {P:Program} {σ:St} {o:Oper} {x:Operand} {k:Nat} {vs:List AV} {v:AV} (ho:o.op= .extract x k) (hx:σ.ev x= .tup vs) (h:vs[k]?= some v):Local P σ o v [] :=
 Local.value fun C E X a hr=>by
  have hv:=hr.ev x;rw [hx] at hv;simp only [FV] at hv;obtain ⟨xs,he,hs⟩:=hv;obtain ⟨y,hy,hfv⟩:=hs.get h;refine ⟨y,?_,hfv⟩
  unfold execOp
  have:xs[k]?= some y:=by simpa using hy
  simp [ho,Instr.extract,he,this]
def JZ (P:Program) (t:TypeId) (cs:List AV) (off:Nat):Option AV :=
 match Bi P t with
 |some true=>some (.agg ((cs.drop off).take (P.cellsOf t)))
 |some false=>cs[off]?
 |none=>none
theorem Local.field {P:Program} {σ:St} {o:Oper} {s ty:TypeId} {x:Operand} {f off:Nat} {cs:List AV} {v:AV} (ho:o.op= .field s x f) (hf:AX P s f=some (off,ty)) (hx:σ.ev x= .agg cs)
 (h:JZ P ty cs off=some v):Local P σ o v [] :=
 Local.value fun C E X a hr=>by
  have hv:=hr.ev x;rw [hx] at hv;simp only [FV] at hv;obtain ⟨xs,he,hs⟩:=hv
  unfold AX at hf
  split at hf
  ·rename_i fs hus
   simp only [Option.map_eq_some_iff] at hf;obtain ⟨fl,hfl,hpe⟩:=hf;simp only [Prod.mk.injEq] at hpe;obtain ⟨rfl,rfl⟩:=hpe
   unfold JZ at h
   split at h
   ·rename_i ht
    simp only [Option.some.injEq] at h;subst h;have ht':=ht
    unfold Bi at ht'
    cases hu:P.underlying fl.type with
    |none=>simp [hu] at ht'
    |some d =>
    obtain ⟨i,hi⟩:=Fk hu;refine ⟨.agg (xs.extract fl.offset (fl.offset+i.size)),?_,?_⟩
    ·unfold execOp
     simp [ho,Instr.field,run_underlying hus,hfl,he,asAgg,part,Ga ht,Cl hi]
    ·simp only [FV];refine ⟨_,rfl,?_⟩;rw [B8 hi]
     have e:(xs.extract fl.offset (fl.offset+i.size)).toList=(xs.toList.drop fl.offset).take i.size:=by
      simp [List.extract_eq_take_drop]
     rw [e];exact (hs.drop _).take _
   ·rename_i ht
    obtain ⟨y,hy,_,hfv⟩:=hs.get h
    have hy':xs[fl.offset]?= some y:=by simpa using hy
    refine ⟨y,?_,hfv⟩
    unfold execOp
    simp [ho,Instr.field,run_underlying hus,hfl,he,asAgg,part,Ga ht,hy']
   ·cases h
  ·cases hf
theorem Local.nilCheck {P:Program} {σ:St} {o:Oper} {x:Operand} (ho:o.op= .nilCheck x) (h:(∃ r i j,σ.ev x= .adr r i j)∨(∃ row j,σ.ev x= .sadr row j)):Local P σ o (σ.ev x) [] :=
 Local.value fun C E X a hr=>by
  have hv:=hr.ev x
  have:∃ ad,a.eval x= .pointer (some ad):=by
   rcases h with ⟨r,i,j,h⟩ | ⟨row,j,h⟩
   ·rw [h] at hv;simp only [FV] at hv;obtain ⟨_,a0,_,_,he⟩:=hv;exact ⟨_,he⟩
   ·rw [h] at hv;simp only [FV] at hv;obtain ⟨a0,xs,he,_⟩:=hv;exact ⟨_,he⟩
  obtain ⟨ad,he⟩:=this;refine ⟨_,?_,hv⟩
  unfold execOp
  simp [ho,he]
def Writer (P:Program) (σ:St) (o:Oper) (σ':St):Prop :=
 ∀ C E X a,Rel C E X σ a→∀ (K:Act→World→Prop) (Q:Exit→Act→World→Prop),(∀ E' X' a',Rel C E' X' σ' a'→K a' E'.w)→o.wp P a E.w K Q
theorem Writer.of_local {P:Program} {σ:St} {o:Oper} {v:AV} {new:List (Nat × Obj)} (h:Local P σ o v new) {n':Nat} (hd:∀ d,o.dst=some d→d < σ.nt)
 (hn:∀ r ob,Al new r=some ob→σ.next≤r∧r < n') (hle:σ.next≤n'):Writer P σ o (σ.ext o.dst v new n'):=by
 intro C E X a hr K Q hk;refine h C E X a hr (fun r ob hf hD=>?_) K Q (fun y E' X' p=>?_)
 ·have:=hr.fresh r hD;have:=(hn r ob hf).1;omega
 obtain ⟨X'',hr'⟩:=hr.ext p o.dst n' hd (fun r ob hf=>(hn r ob hf).2) hle;exact hk E' X'' _ hr'
theorem MR {E:Env} {c c':Bool}:(E.by c).le (E.by (c && c'))∨c'=true:=by
 cases c
 ·exact .inl (Env.le_refl _)
 cases c'
 ·exact .inl E.clear_le
 exact .inr rfl
theorem FVr.by_and {E:Env} {sz:Nat} {rows:List (List AV)} {xs:List Value} {c:Bool} (c':Bool) (h:FVr (E.by c) sz rows xs):FVr (E.by (c && c')) sz rows xs:=by
 rcases MR (E:=E) (c:=c) (c':=c') with hl | rfl
 ·exact FVr.le _ _ hl _ h
 simpa using h
theorem FVc.by_and' {E:Env} {cs:List AV} {xs:List Value} {c:Bool} (c':Bool) (h:FVc (E.by c) cs xs):FVc (E.by (c' && c)) cs xs:=by
 rw [Bool.and_comm]
 rcases MR (E:=E) (c:=c) (c':=c') with hl | rfl
 ·exact FVc.le _ hl _ h
 simpa using h
theorem FVr.by_and' {E:Env} {sz:Nat} {rows:List (List AV)} {xs:List Value} {c:Bool} (c':Bool) (h:FVr (E.by c) sz rows xs):FVr (E.by (c' && c)) sz rows xs:=by
 rw [Bool.and_comm];exact h.by_and c'
theorem Rel.update {C:Ctx} {E:Env} {X:Nat→List Value} {σ:St} {a:Act} (h:Rel C E X σ a) {r:Nat} {o o':Obj} {b:Nat} {w':World} {xs':List Value} (ho:Al σ.objs r=some o)
 (hb:blockOf (E.H r)=some b) (hos:w'.os=E.w.os) (htp:Tp E.w w') (hou:w'.output=E.w.output) (hsz:w'.heap.size=E.w.heap.size) (hbl:∀ k,k≠b→w'.heap[k]?= E.w.heap[k]?)
 (hz:o'.sz=o.sz) (hok:ObjOK w' (E.H r) xs' o') (hrow:FVr (Env.by { E with w:=w' } o'.cl) o'.sz o'.rows xs') :
 Rel C { E with w:=w' } (BQ X r xs') { σ with objs:=(r,o') :: Ct σ.objs r } a∧E.le { E with w:=w' }:=by
 have hnb:∀ k,E.S k→k≠b:=fun k hk e=>(h.stay k hk).2 r o ho (e ▸ hb);have hle:E.le { E with w:=w' }:=⟨fun k hk=>⟨hk,hbl k (hnb k hk)⟩,fun r hr=>⟨hr,rfl,rfl⟩⟩
 have hf:∀ r' o1,Al ((r,o') :: Ct σ.objs r) r'=some o1→(r'=r∧o1=o')∨(r'≠r∧Al σ.objs r'=some o1):=by
  intro r' o1 hr';rw [A8,Cj] at hr'
  by_cases e:r=r'
  ·simp only [e,if_true,Option.some.injEq] at hr';exact .inl ⟨e.symm,hr'.symm⟩
  simp only [e,if_false] at hr';exact .inr ⟨fun e'=>e e'.symm,hr'⟩
 have hfo:∀ r' o1,Al ((r,o') :: Ct σ.objs r) r'=some o1→∃ o2,Al σ.objs r'=some o2:=by
  intro r' o1 hr'
  rcases hf r' o1 hr' with ⟨rfl,_⟩ | ⟨_,h2⟩
  ·exact ⟨o,ho⟩
  exact ⟨o1,h2⟩
 have hoth:∀ r' o1,r'≠r→Al σ.objs r'=some o1→∀ k,blockOf (E.H r')=some k→k≠b:=by
  intro r' o1 hne hr' k hk e;subst e;exact hne (h.apart r' r o1 o k hr' ho hk hb)
 refine ⟨⟨?_,h.size,h.defers,?_,?_,?_,h.fresh,?_,?_,?_,h.envD,h.base,h.grow,h.envk,h.glob.le hle⟩,hle⟩
 ·intro s v hv;exact FV.le _ hle _ (h.slots s v hv)
 ·intro r' o1 hr'
  rcases hf r' o1 hr' with ⟨rfl,rfl⟩ | ⟨hne,hr'⟩
  ·exact ⟨(h.objs _ o ho).1,(h.objs _ o ho).2.1.trans hz.symm,by simpa [BQ] using hok,by simpa [BQ] using hrow⟩
  obtain ⟨g1,g2,g3,g4⟩:=h.objs r' o1 hr';simp only [BQ,hne,if_false];exact ⟨g1,g2,g3.kept (fun k hk=>hbl k (hoth r' o1 hne hr' k hk)),FVr.le _ _ (hle.by _) _ g4⟩
 ·intro r1 r2 o1 o2 k h1 h2 hk1 hk2;obtain ⟨o1',h1'⟩:=hfo r1 o1 h1;obtain ⟨o2',h2'⟩:=hfo r2 o2 h2;exact h.apart r1 r2 o1' o2' k h1' h2' hk1 hk2
 ·intro k hk;refine ⟨by have:=(h.stay k hk).1;simp only [hsz];exact this,fun r' o1 hr'=>?_⟩;obtain ⟨o2,h2⟩:=hfo r' o1 hr';exact (h.stay k hk).2 r' o2 h2
 ·refine ⟨hos.trans h.kept.os,h.kept.tape.trans htp,hou.trans h.kept.output,by simp only [hsz];exact h.kept.size,fun k hk hno=>?_⟩
  have hkb:k≠b:=by
   rintro rfl
   rcases h.mine r o k ho hb with h1 | h1
   ·exact hno h1
   omega
  exact (hbl k hkb).trans (h.kept.block k hk hno)
 ·intro r' o1 k hr' hk;obtain ⟨o2,h2⟩:=hfo r' o1 hr';exact h.mine r' o2 k h2 hk
 exact h.env
theorem Rel.put {C:Ctx} {E:Env} {X:Nat→List Value} {σ:St} {a:Act} (h:Rel C E X σ a) (dst:Option Nat) (hd:∀ d,dst=some d→d < σ.nt) {v:AV} {y:Value} (hv:FV E v y) :
 Rel C E X (σ.put dst v) (a.put dst y) :=
 ⟨N2 (Env.le_refl E) h.slots hv (fun d e=>by rw [h.size];exact hd d e),by rw [Pk];exact h.size,by rw [L1];exact h.defers,h.objs,h.apart,h.stay,h.fresh,h.kept,h.mine,h.env,h.envD,h.base,h.grow,h.envk,h.glob⟩
def IY (P:Program) (σ:St) (t:TypeId) (v u:AV):Option St :=
 match v with
 |.adr r i j=>(Al σ.objs r).bind fun o=>(o.rows[i]?).bind fun row=>(cellsAV u).bind fun cs =>
  bif Nat.ble (j+cs.length) row.length && Nat.beq cs.length (P.cellsOf t) then
   some { σ with objs:=(r,{ o with rows:=o.rows.set i (splice row j cs),cl:=o.cl && closedL cs }) :: Ct σ.objs r } else none
 |_=>none
theorem K4 {P:Program} {w:World} {g k:Nat} {e:TypeId} {cur:Array Value} {vs:List Value} (hg:w.heap[g]?= some (.cells cur e (0,0))) (hl:k+vs.length≤cur.size) (h1:∀ v ∈ vs,v.oneCell'=true) :
 (storeCells ⟨g,k,none⟩ vs).run P w= .ok () (w.setRow g (splice cur.toList k vs).toArray):=by
 have:=run_storeCells_at P g k e vs 0 cur w hg (by simpa using hl) h1
 simpa [splice] using this
theorem Writer.store {P:Program} {σ σ':St} {o:Oper} {t:TypeId} {x y:Operand} (ho:o.op= .store t x y) (hi:∃ i,P.info? t=some i) (hd:∀ d,o.dst=some d→d < σ.nt)
 (h:IY P σ t (σ.ev x) (σ.ev y)=some σ'):Writer P σ o (σ'.put o.dst .top):=by
 intro C E X a hr K Q hk
 unfold IY at h
 split at h
 ·rename_i r i j hx
  simp only [Option.bind_eq_some_iff] at h;obtain ⟨ob,hob,row,hrow,cs,hcs,h⟩:=h
  cases hb:(Nat.ble (j+cs.length) row.length && Nat.beq cs.length (P.cellsOf t)) with
  |false=>simp [hb] at h
  |true =>
   simp only [hb,cond_true,Option.some.injEq] at h;simp only [Bool.and_eq_true,Nat.beq_eq] at hb;obtain ⟨hb1,hb2⟩:=hb;have hb1:=CG hb1;obtain ⟨inf,hinf⟩:=hi;have hsz:=B8 hinf;have hvx:=hr.ev x;rw [hx] at hvx;simp only [FV] at hvx;obtain ⟨_,a0,hbase,hsp,hxe⟩:=hvx;obtain ⟨_,hZ,hok,hrr⟩:=hr.objs r ob hob;obtain ⟨g,cur,rfl,hg,htake,hlen⟩:=hok.block hbase;have hcv:=FV.cells hcs (hr.ev y);have hbo:blockOf (E.H r)=some g:=DA hbase;have hi1:i < ob.rows.length:=(List.getElem?_eq_some_iff.1 hrow).1;have hrl:=(hrr.get hrow).1;have hxl:=hrr.length
   have hin:i * ob.sz+j+cs.length≤(X r).length:=by
    rw [hxl];have:=Nat.mul_le_mul_right ob.sz (show i+1≤ob.rows.length by omega);rw [Nat.succ_mul] at this;omega
   have hvl:(a.eval y).cells.toList.length=cs.length:=hcv.length;have hst:=K4 (P:=P) hg (k:=i * ob.sz+j) (vs:=(a.eval y).cells.toList) (by rw [hvl];omega) hcv.one
   generalize hw':E.w.setRow g (splice cur.toList (i * ob.sz+j) (a.eval y).cells.toList).toArray=w' at hst
   have hheap:w'.heap[g]?= some (.cells (splice cur.toList (i * ob.sz+j) (a.eval y).cells.toList).toArray ob.elem (0,0)):=by rw [← hw'];exact setRow_heap E.w g cur _ _ _ hg
   have hbl:∀ k,k≠g→w'.heap[k]?= E.w.heap[k]?:=fun k hk=>by rw [← hw'];exact setRow_other E.w g k _ hk
   have hclen:(splice cur.toList (i * ob.sz+j) (a.eval y).cells.toList).length=cur.size:=by
    rw [He (by rw [hvl,Array.length_toList (xs:=cur)];omega),Array.length_toList]
   have htk:(splice cur.toList (i * ob.sz+j) (a.eval y).cells.toList).take (X r).length=splice (X r) (i * ob.sz+j) (a.eval y).cells.toList:=by
    rw [← htake]
    generalize (a.eval y).cells.toList=vs at hvl
    generalize i * ob.sz+j=k at hin
    generalize (X r).length=m at *
    simp only [splice];rw [List.take_append,List.take_append,List.take_take,List.drop_take,List.take_take];simp only [List.length_append,List.length_take,Array.length_toList];rw [show min (min m cur.size) k=k by omega,show min m cur.size=m by omega,show min k m=k by omega,List.take_of_length_le (l:=vs) (by omega)];rw [show k+vs.length=min k cur.size+vs.length by omega]
   have hrow':∀ E':Env,E.le E'→FVr (E'.by (ob.cl && closedL cs)) ob.sz (ob.rows.set i (splice row j cs)) (splice (X r) (i * ob.sz+j) (a.eval y).cells.toList):=by
    intro E' hle;have h1:=(FVr.le _ _ (hle.by ob.cl) _ hrr).by_and (closedL cs);have h2:=(FVc.le _ (hle.by _) _ hcv.by_closed).by_and' ob.cl;exact h1.set hrow h2 hb1
   have hok':ObjOK w' (E.H r) (splice (X r) (i * ob.sz+j) (a.eval y).cells.toList) { ob with rows:=ob.rows.set i (splice row j cs),cl:=ob.cl && closedL cs }:=by
    unfold ObjOK at hok ⊢
    split at hok
    ·rename_i hslc
     rcases hok with ⟨_,h2,_⟩ | ⟨g',cap,cur',hH,hg',hl',hm',hs',ht'⟩ | ⟨g',es,clk,hH,_⟩
     ·rw [h2] at hi1;simp at hi1
     rotate_left
     ·rw [hH] at hbase
      simp [baseOf] at hbase
     rw [hH] at hbase
     simp [baseOf] at hbase
     subst hbase;rw [hg] at hg';simp only [Option.some.injEq,Go.Obj.cells.injEq,and_true] at hg';subst hg';simp only [hslc];refine .inr (.inl ⟨g',cap,_,by rw [hH];simp,hheap,by simpa using hl',hm',by rw [List.size_toArray,hclen];exact hs',?_⟩);simp only [List.length_set];rw [← hxl];exact htk
    rename_i hslc
    rcases hok with ⟨g',hH,h1,hg'⟩ | ⟨g',it,hH,_⟩
    rotate_left
    ·rw [hH] at hbase
     simp [baseOf] at hbase
    rw [hH] at hbase
    simp [baseOf] at hbase
    subst hbase;rw [hg] at hg';simp only [Option.some.injEq,Go.Obj.cells.injEq,and_true] at hg';simp only [hslc];refine .inl ⟨g',hH,by simpa using h1,?_⟩;rw [hheap]
    have:cur.toList=X r:=by rw [hg']
    rw [this]
   have hle:E.le { E with w:=w' }:=⟨fun k hk=>⟨hk,hbl k (fun e=>(hr.stay k hk).2 r ob hob (e ▸ hbo))⟩,fun r hr=>⟨hr,rfl,rfl⟩⟩;obtain ⟨hrel,_⟩:=hr.update (o':={ ob with rows:=ob.rows.set i (splice row j cs),cl:=ob.cl && closedL cs }) hob hbo (by rw [← hw'];rfl) (by rw [← hw'];exact ⟨rfl,Nat.le_refl _⟩) (by rw [← hw'];rfl) (by rw [← hw'];simp) hbl rfl hok' (hrow' _ hle);rw [h] at hrel
   have hnt:σ'.nt=σ.nt:=by rw [← h]
   have hput:=hrel.put o.dst (by rw [hnt];exact hd) (v:= .top) (y:=undef) (by simp [FV]);have:=hk _ _ _ hput
   unfold Oper.wp execOp
   have hcz:(a.eval y).cells.size=inf.size:=by rw [← Array.length_toList,hvl,hb2,hsz]
   simp only [ho,Instr.storeAt,hxe,Instr.sureAddr,Sem.run_bind,Sem.run_pure,Result.andThen_ok,storeVar,Cl hinf,hcz,ne_eq,not_true_eq_false,if_false,hZ,Addr.add_lit,Nat.zero_add,hst];exact this
 cases h
def IW (σ:St):AV→Option (Nat × List (List AV) × Bool)
 |.als r lo m=>(Al σ.objs r).map fun o=>(o.sz,(o.rows.drop lo).take m,o.cl)
 |.sh s rows=>some (s,rows,true)
 |_=>none
theorem Rel.rowsAV {C:Ctx} {E:Env} {X:Nat→List Value} {σ:St} {a:Act} (h:Rel C E X σ a) {v:AV} {x:Value} {s:Nat} {rows:List (List AV)} {c:Bool} (hv:AM.IW σ v=some (s,rows,c))
 (hl:∀ r lo m o,v= .als r lo m→Al σ.objs r=some o→lo+m≤o.rows.length) (hx:FV E v x) :
 ∃ A cap news,x= .slice A rows.length cap∧FVr (E.by c) s rows news∧(rows≠[]→∃ ad,A=some ad∧holds E.w ad news):=by
 cases v <;> try (simp [AM.IW] at hv;done)
 case als r lo m =>
  simp only [AM.IW,Option.map_eq_some_iff] at hv;obtain ⟨o,ho,he⟩:=hv;simp only [Prod.mk.injEq] at he;obtain ⟨rfl,rfl,rfl⟩:=he;simp only [FV] at hx;obtain ⟨_,A0,n0,c0,A,cc,hH,rfl,hm,_,hA⟩:=hx;obtain ⟨_,hZ,hok,hr⟩:=h.objs r o ho;have hlm:=hl r lo m o rfl ho
  have hlen:((o.rows.drop lo).take m).length=m:=by simp;omega
  refine ⟨A,cc,((X r).drop (lo * o.sz)).take (m * o.sz),by rw [hlen],(hr.drop lo).take m,fun hne=>?_⟩
  have hpos:0 < m:=by
   rcases Nat.eq_zero_or_pos m with h0 | h0
   ·rw [h0] at hne;simp at hne
   exact h0
  obtain ⟨a0,rfl,hs,rfl⟩:=hA hpos;refine ⟨_,rfl,?_⟩;obtain ⟨_,hh⟩:=hok.holds (a0:=a0) (by rw [hH];rfl);rw [hZ];exact (hh.drop hs _).take _
 case sh s' rows' =>
  simp only [AM.IW,Option.some.injEq,Prod.mk.injEq] at hv;obtain ⟨rfl,rfl,rfl⟩:=hv;simp only [FV] at hx;obtain ⟨A,cap,xs,rfl,_,hr,hA⟩:=hx;refine ⟨A,cap,xs,rfl,hr,fun hne=>?_⟩;obtain ⟨ad,rfl,_,_,hh⟩:=hA hne;exact ⟨ad,rfl,hh⟩
theorem Iy {P:Program} {w:World} (t u ty e d':TypeId) (i:TypeInfo) (ht:P.underlying t=some (.slice e)) (hu:P.underlying u=some (.slice d')) (hi:P.info? e=some i)
 (A B:Option Addr) (n c c':Nat) (hn:n≤c) :
 (Builtin.append_ #[t,u] ty #[.slice A n c, .slice B 0 c']).run P w= .ok (.slice A n c) w:=by
 have hf:(Builtin.firstCells i.size 0 (.slice B 0 c')).run P w= .ok #[] w:=by
  cases B <;> simp [Builtin.firstCells,loadCells,loadCellsFrom]
 cases A with
 |none=>simp [Builtin.append_,run_underlying ht,run_underlying hu,sizeOf,typeInfo,hi,Builtin.lenOf,hn,hf]
 |some a=>simp [Builtin.append_,run_underlying ht,run_underlying hu,sizeOf,typeInfo,hi,Builtin.lenOf,hn,hf,storeCells]
theorem MD {P:Program} {w:World} (t ty e:TypeId) (i:TypeInfo) (z:Value) (ht:P.underlying t=some (.slice e)) (hi:P.info? e=some i) (hz:i.zero=some z) (hzs:z.cells.size=i.size) (hsz:0 < i.size)
 (v:Value) (xs:List Value) (o:Obj) (hslc:o.slc=true) (hel:o.elem=e) (hosz:o.sz=i.size) (hok:ObjOK w v xs o) (hsl:∃ A0 n0 c0,v= .slice A0 n0 c0) (hxl:xs.length=o.rows.length * i.size)
 (A:Option Addr) (m c:Nat) (news:List Value) (rows2:List (List AV)) (hm:rows2.length=m) (hl:news.length=m * i.size) (hA:rows2≠[]→∃ ad,A=some ad∧holds w ad news) (h1:∀ u ∈ news,u.oneCell'=true)
 (h63:o.rows.length+m≤maxLen) (hbytes:(o.rows.length+m) * i.bytes≤140737488355328) (cl:Bool) :
 ∃ v' w',(Builtin.append_ #[t,t] ty #[v, .slice A m c]).run P w= .ok v' w'∧ObjOK w' v' (xs ++ news) ⟨true,e,i.size,o.rows ++ rows2,cl⟩ ∧
  w'.os=w.os∧Tp w w'∧w'.output=w.output∧w.heap.size≤w'.heap.size∧(∀ k,k < w.heap.size→blockOf v≠some k→w'.heap[k]?= w.heap[k]?) ∧
  (∀ k,blockOf v'=some k→(blockOf v=some k∨w.heap.size≤k)∧k < w'.heap.size)∧∃ A0 n0 c0,v'= .slice A0 n0 c0:=by
 have hokk:=hok
 unfold ObjOK at hok
 rw [hslc] at hok
 simp only at hok
 by_cases hm0:m=0
 ·subst hm0;have hr2:rows2=[]:=List.eq_nil_of_length_eq_zero hm;have hn2:news=[]:=List.eq_nil_of_length_eq_zero (by simpa using hl);subst hr2 hn2
  have hv:∃ A0 c0,v= .slice A0 o.rows.length c0∧o.rows.length≤c0:=by
   rcases hok with ⟨rfl,h,_⟩ | ⟨b,cap,cur,rfl,_,h,_⟩ | ⟨b,es,clk,rfl,_⟩
   ·exact ⟨none,0,by simp [h],by simp [h]⟩
   ·exact ⟨_,cap,rfl,h⟩
   obtain ⟨_,_,_,e⟩:=hsl;cases e
  obtain ⟨A0,c0,rfl,hle⟩:=hv;refine ⟨_,w,Iy (w:=w) t t ty e e i ht ht hi A0 A _ c0 c hle,?_,rfl,Tp.refl _,rfl,Nat.le_refl _,fun _ _ _=>rfl,fun k hk=>⟨.inl hk,hokk.lt hk⟩,_,_,_,rfl⟩
  unfold ObjOK
  simp only [List.append_nil];rw [← hel, ← hosz];exact hok
 have hne:rows2≠[]:=by rintro rfl;simp at hm;exact hm0 hm.symm
 obtain ⟨ad,rfl,hh⟩:=hA hne
 have hlen:(xs ++ news).length=(o.rows.length+m) * i.size:=by rw [List.length_append,hxl,hl,Nat.add_mul]
 have h63':o.rows.length+m≤9223372036854775807:=by simp only [maxLen] at h63;omega
 have grown:∀ (old:Nat) (cs:List Value),cs=xs →
  ObjOK (w.drew.alloc (.cells (cs.toArray ++ news.toArray ++ Builtin.zeroCells z.cells (grownCap w (o.rows.length+m) old e - (o.rows.length+m))) e))
   (.slice (some ⟨w.heap.size,0,none⟩) (o.rows.length+m) (grownCap w (o.rows.length+m) old e)) (xs ++ news) ⟨true,e,i.size,o.rows ++ rows2,cl⟩:=by
  rintro old _ rfl;have hge:=grownCap_ge w (o.rows.length+m) old e;have hcm:grownCap w (o.rows.length+m) old e≤maxLen:=grownCap_le_maxLen w _ old e h63
  unfold ObjOK
  simp only [List.length_append,hm];refine .inr (.inl ⟨_,_,_,rfl,heap_alloc_new w.drew _,hge,hcm,?_,?_⟩)
  ·simp only [Array.size_append,List.size_toArray,size_zeroCells,hzs,hxl,hl, ← Nat.add_mul]
   congr 1
   omega
  ·simp only [Array.toList_append,List.append_assoc];rw [← List.append_assoc, ← hlen];exact List.take_left
 rcases hok with ⟨rfl,hr0,rfl⟩ | ⟨g,cap,cur,rfl,hg,hnc,hcm,hcs,htake⟩ | ⟨b,es,clk,rfl,_⟩
 rotate_right
 ·obtain ⟨_,_,_,e⟩:=hsl;cases e
 ·have hr:=run_append_nil (P:=P) w t ty e i z ht hi hz ad m c news hl hh (by omega) (by omega) (by rw [hr0] at hbytes;simp at hbytes;omega);have hgr:=grown 0 [] rfl;rw [hr0] at hgr ⊢;simp only [List.length_nil,Nat.zero_add,List.nil_append,Array.empty_append] at hgr ⊢;refine ⟨_,_,hr,hgr,rfl,⟨rfl,Nat.le_succ _⟩,rfl,by simp,fun k hk _=>heap_alloc_old w.drew _ k hk,fun k hk=>?_,_,_,_,rfl⟩
  simp [blockOf,baseOf] at hk
  subst hk;exact ⟨.inr (Nat.le_refl _),by simp⟩
 by_cases hroom:o.rows.length+m≤cap
 ·rw [hosz] at hcs htake
  have hfit:o.rows.length * i.size+news.length≤cur.size:=by rw [hl,hcs, ← Nat.add_mul];exact Nat.mul_le_mul_right _ hroom
  rw [hel] at hg;have hr:=run_append_room (P:=P) w t ty e i ht hi g _ cap cur hg ad m c news hl hh h1 hroom hfit;refine ⟨_,_,hr,?_,rfl,⟨rfl,Nat.le_refl _⟩,rfl,by simp,fun k hk hne=>setRow_other w g k _ (fun e'=>hne (by simp [blockOf,baseOf,e'])),fun k hk=>⟨.inl hk,?_⟩,_,_,_,rfl⟩
  ·unfold ObjOK
   simp only [List.length_append,hm];refine .inr (.inl ⟨g,cap,_,rfl,setRow_heap w g cur _ e _ hg,hroom,hcm,?_,?_⟩)
   ·simp only [List.size_toArray,List.length_append,List.length_take,List.length_drop,Array.length_toList];omega
   rw [htake, ← hlen];exact List.take_left
  have:=hokk.lt (b:=k) (by simpa [blockOf,baseOf] using hk)
  simpa using this
 have hhold:∀ j u,xs[j]?= some u→w.cell? ((⟨g,0,none⟩:Addr).add j)=some u:=(hokk.holds (a0:=⟨g,0,none⟩) rfl).2;have hr:=run_append_grow (P:=P) w t ty e i z ht hi hz ⟨g,0,none⟩ _ cap xs hxl hhold ad m c news hl hh (by omega) (by omega) (growslice_fits (by omega) hbytes);have hgr:=grown cap xs rfl;refine ⟨_,_,hr,hgr,rfl,⟨rfl,Nat.le_succ _⟩,rfl,by simp,fun k hk _=>heap_alloc_old w.drew _ k hk,fun k hk=>?_,_,_,_,rfl⟩
 simp [blockOf,baseOf] at hk
 subst hk;exact ⟨.inr (Nat.le_refl _),by simp⟩
def Fj (σ:St) (e sz:Nat):AV→Option (Option Nat × List (List AV) × Bool)
 |.als r lo n=>(Al σ.objs r).bind fun o=>bif o.slc && Nat.beq o.elem e && Nat.beq o.sz sz && Nat.beq lo 0 then (if n=o.rows.length then some (some r,o.rows,o.cl) else none) else none
 |.lit (.slice none 0 0)=>some (none,[],true)
 |_=>none
def St.drop1 (σ:St):Option Nat→List (Nat × Obj)
 |some r=>Ct σ.objs r
 |none=>σ.objs
theorem Rel.head {C:Ctx} {E:Env} {X:Nat→List Value} {σ:St} {a:Act} (hr:Rel C E X σ a) {x:Operand} {e:TypeId} {i:TypeInfo} {hr0:Option Nat} {rows1:List (List AV)} {c1:Bool} (h1:Fj σ e i.size (σ.ev x)=some (hr0,rows1,c1)) :
 ∃ (v:Value) (xs:List Value) (o1:Obj),a.eval x=v∧o1.slc=true∧o1.elem=e∧o1.sz=i.size∧o1.rows=rows1∧ObjOK E.w v xs o1∧FVr (E.by c1) i.size rows1 xs ∧
  (∀ b,blockOf v=some b→∃ r ob,hr0=some r∧Al σ.objs r=some ob∧blockOf (E.H r)=some b)∧∃ A0 n0 c0,v= .slice A0 n0 c0:=by
 have hx:=hr.ev x
 revert h1 hx
 generalize σ.ev x=u
 intro h1 hx
 unfold Fj at h1
 split at h1
 ·rename_i r lo n
  simp only [Option.bind_eq_some_iff] at h1;obtain ⟨ob,hob,h1⟩:=h1
  cases hbb:(ob.slc && Nat.beq ob.elem e && Nat.beq ob.sz i.size && Nat.beq lo 0) with
  |false=>simp [hbb] at h1
  |true =>
   simp only [hbb,cond_true] at h1;simp only [Bool.and_eq_true,Nat.beq_eq] at hbb;obtain ⟨⟨⟨hb1,hb2⟩,hb3⟩,rfl⟩:=hbb
   split at h1
   ·rename_i hn
    simp only [Option.some.injEq,Prod.mk.injEq] at h1;obtain ⟨rfl,rfl,rfl⟩:=h1;obtain ⟨_,hZ,hok,hfr⟩:=hr.objs r ob hob;simp only [FV] at hx;obtain ⟨_,A0,n0,c0,A',c',hH,hxe,_,h0,_⟩:=hx;obtain ⟨rfl,rfl⟩:=h0 rfl
    have hn0:n0=ob.rows.length:=by
     have hok':=hok
     unfold ObjOK at hok'
     rw [hb1] at hok'
     simp only at hok'
     rcases hok' with ⟨h,h',_⟩ | ⟨b,cap',cur,h,_⟩ | ⟨b,es,clk,h,_⟩
     rotate_right
     ·rw [hH] at h;cases h
     ·rw [hH] at h;simp only [Value.slice.injEq] at h;rw [h',List.length_nil];exact h.2.1
     rw [hH] at h;simp only [Value.slice.injEq] at h;exact h.2.1
    have hHe:a.eval x=E.H r:=by rw [hxe,hH,hn,hn0]
    refine ⟨E.H r,X r,ob,hHe,hb1,hb2,hb3,rfl,hok,by rw [← hb3];exact hfr,fun b hbk=>⟨r,ob,rfl,hob,hbk⟩,_,_,_,hH⟩
   cases h1
 ·rename_i u'
  simp only [Option.some.injEq,Prod.mk.injEq] at h1;obtain ⟨rfl,rfl,rfl⟩:=h1;simp only [FV] at hx;refine ⟨.slice none 0 0,[],⟨true,e,i.size,[],true⟩,hx,rfl,rfl,rfl,rfl,?_,by simp [FVr],fun b hbk=>by simp [blockOf,baseOf] at hbk,_,_,_,rfl⟩
  unfold ObjOK
  exact .inl ⟨rfl,rfl,rfl⟩
 cases h1
theorem Rel.appended {C:Ctx} {E:Env} {X:Nat→List Value} {σ:St} {a:Act} (hr:Rel C E X σ a) {hr0:Option Nat} {e:TypeId} {i:TypeInfo} {v v':Value} {w':World} {xs news:List Value} {o1:Obj} {rows2:List (List AV)} {c1 c2:Bool}
 (hfr1:FVr (E.by c1) i.size o1.rows xs) (hblk:∀ b,blockOf v=some b→∃ r ob,hr0=some r∧Al σ.objs r=some ob∧blockOf (E.H r)=some b) (hrn:FVr (E.by c2) i.size rows2 news) (hok':ObjOK w' v' (xs ++ news) ⟨true,e,i.size,o1.rows ++ rows2,c1 && c2⟩)
 (e1:w'.os=E.w.os) (e2:Tp E.w w') (e3:w'.output=E.w.output) (e4:E.w.heap.size≤w'.heap.size) (e5:∀ k,k < E.w.heap.size→blockOf v≠some k→w'.heap[k]?= E.w.heap[k]?)
 (e6:∀ k,blockOf v'=some k→(blockOf v=some k∨E.w.heap.size≤k)∧k < w'.heap.size) (hsl':∃ A0 n0 c0,v'= .slice A0 n0 c0) :
 ∃ E' X',E'.w=w'∧Rel C E' X' { σ with objs:=(σ.next,⟨true,e,i.size,o1.rows ++ rows2,c1 && c2⟩) :: σ.drop1 hr0,next:=σ.next+1 } a∧FV E' (.als σ.next 0 (o1.rows.length+rows2.length)) v':=by
 let N:=σ.next
 have hN:¬ E.D N:=fun hD=>Nat.lt_irrefl _ (hr.fresh N hD);have hne:∀ r,E.D r→r≠N:=fun r hD e=>hN (e ▸ hD)
 let E':Env:={ w:=w',H:=BQ E.H N v',Z:=BQ E.Z N i.size,D:=fun r=>E.D r∨r=N,S:=E.S }
 have hnS:∀ k,E.S k→blockOf v≠some k:=by
  intro k hk e;obtain ⟨r,ob,_,hob,hbk⟩:=hblk k e;exact (hr.stay k hk).2 r ob hob hbk
 have hle:E.le E':=⟨fun k hk=>⟨hk,e5 k (hr.stay k hk).1 (hnS k hk)⟩,fun r hD=>⟨.inl hD,by simp [E',BQ,hne r hD],by simp [E',BQ,hne r hD]⟩⟩
 have hold:∀ r ob,Al (σ.drop1 hr0) r=some ob→Al σ.objs r=some ob∧hr0≠some r:=by
  intro r ob hf
  cases hr0 with
  |none=>exact ⟨hf,by simp⟩
  |some r0 =>
   simp only [St.drop1,Cj] at hf
   split at hf
   ·cases hf
   rename_i hne;exact ⟨hf,by simpa using hne⟩
 have hnv:∀ r ob b,Al (σ.drop1 hr0) r=some ob→blockOf (E.H r)=some b→blockOf v≠some b:=by
  intro r ob b hf hbk e;obtain ⟨hf,hner⟩:=hold r ob hf;obtain ⟨r2,ob2,h3,h4,h5⟩:=hblk b e;have:=hr.apart r r2 ob ob2 b hf h4 hbk h5;subst this;exact hner h3
 have hblt:∀ r ob b,Al σ.objs r=some ob→blockOf (E.H r)=some b→b < E.w.heap.size:=fun r ob b hf hbk=>(hr.objs r ob hf).2.2.1.lt hbk;have hfr':FVr (E.by (c1 && c2)) i.size (o1.rows ++ rows2) (xs ++ news):=(hfr1.by_and c2).append (hrn.by_and' c1)
 have hrel:Rel C E' (BQ X N (xs ++ news)) { σ with objs:=(σ.next,⟨true,e,i.size,o1.rows ++ rows2,c1 && c2⟩) :: σ.drop1 hr0,next:=σ.next+1 } a:=by
  have hcase:∀ r ob,Al ((σ.next,(⟨true,e,i.size,o1.rows ++ rows2,c1 && c2⟩:Obj)) :: σ.drop1 hr0) r=some ob→(r=N∧ob=⟨true,e,i.size,o1.rows ++ rows2,c1 && c2⟩)∨(Al (σ.drop1 hr0) r=some ob∧r≠N):=by
   intro r ob hf;rw [A8] at hf
   by_cases e:σ.next=r
   ·simp only [e,if_true,Option.some.injEq] at hf;exact .inl ⟨e.symm,hf.symm⟩
   simp only [e,if_false] at hf;exact .inr ⟨hf,fun e'=>e e'.symm⟩
  have hH:∀ r,r≠N→E'.H r=E.H r:=fun r h=>by simp [E',BQ,h]
  have hHN:E'.H N=v':=by simp [E',BQ]
  refine ⟨?_,hr.size,hr.defers,?_,?_,?_,?_,?_,?_,?_,?_,hr.base,hr.grow,hr.envk,hr.glob.le hle⟩
  ·intro s u hu;exact FV.le _ hle _ (hr.slots s u hu)
  ·intro r ob hf
   rcases hcase r ob hf with ⟨rfl,rfl⟩ | ⟨hf,hne⟩
   ·refine ⟨.inr rfl,by simp [E',BQ],by rw [hHN];simpa [BQ] using hok',?_⟩;simp only [BQ,if_true];exact FVr.le _ _ (hle.by _) _ hfr'
   obtain ⟨hf',hner⟩:=hold r ob hf;obtain ⟨g1,g2,g3,g4⟩:=hr.objs r ob hf';refine ⟨.inl g1,by simp [E',BQ,hne,g2],?_,?_⟩
   ·rw [hH r hne];simp only [BQ,hne,if_false];exact g3.kept (fun b hbk=>e5 b (g3.lt hbk) (hnv r ob b hf hbk))
   simp only [BQ,hne,if_false];exact FVr.le _ _ (hle.by _) _ g4
  ·intro r1 r2 o1' o2' b hf1 hf2 hb1 hb2
   rcases hcase r1 o1' hf1 with ⟨rfl,_⟩ | ⟨hf1,hne1⟩ <;> rcases hcase r2 o2' hf2 with ⟨rfl,_⟩ | ⟨hf2,hne2⟩
   ·rfl
   ·exfalso
    rw [hHN] at hb1;rw [hH r2 hne2] at hb2
    rcases (e6 b hb1).1 with h | h
    ·exact hnv r2 o2' b hf2 hb2 h
    have:=hblt r2 o2' b (hold r2 o2' hf2).1 hb2;omega
   ·exfalso
    rw [hHN] at hb2;rw [hH r1 hne1] at hb1
    rcases (e6 b hb2).1 with h | h
    ·exact hnv r1 o1' b hf1 hb1 h
    have:=hblt r1 o1' b (hold r1 o1' hf1).1 hb1;omega
   rw [hH r1 hne1] at hb1;rw [hH r2 hne2] at hb2;exact hr.apart r1 r2 o1' o2' b (hold r1 o1' hf1).1 (hold r2 o2' hf2).1 hb1 hb2
  ·intro b hbS;obtain ⟨g1,g2⟩:=hr.stay b hbS;refine ⟨Nat.lt_of_lt_of_le g1 e4,fun r ob hf hbk=>?_⟩
   rcases hcase r ob hf with ⟨rfl,_⟩ | ⟨hf,hne⟩
   ·rw [hHN] at hbk
    rcases (e6 b hbk).1 with h | h
    ·exact hnS b hbS h
    omega
   rw [hH r hne] at hbk;exact g2 r ob (hold r ob hf).1 hbk
  ·rintro r (hD | rfl)
   ·have:=hr.fresh r hD;simp only;omega
   exact Nat.lt_succ_self _
  ·refine ⟨e1.trans hr.kept.os,hr.kept.tape.trans e2,e3.trans hr.kept.output,Nat.le_trans hr.kept.size e4,fun b hbl hno=>?_⟩
   have hbv:blockOf v≠some b:=by
    intro e;obtain ⟨r,ob,_,hob,hbk⟩:=hblk b e
    rcases hr.mine r ob b hob hbk with h | h
    ·exact hno h
    omega
   exact (e5 b (Nat.lt_of_lt_of_le hbl hr.kept.size) hbv).trans (hr.kept.block b hbl hno)
  ·intro r ob b hf hbk
   rcases hcase r ob hf with ⟨rfl,_⟩ | ⟨hf,hne⟩
   ·rw [hHN] at hbk
    rcases (e6 b hbk).1 with h | h
    ·obtain ⟨r2,ob2,_,hob2,hbk2⟩:=hblk b h;exact hr.mine r2 ob2 b hob2 hbk2
    exact .inr (Nat.le_trans hr.kept.size h)
   rw [hH r hne] at hbk;exact hr.mine r ob b (hold r ob hf).1 hbk
  ·intro r hkk;have hner:=hne r (hr.envD r hkk);have:=hr.env r hkk
   simpa [E',BQ,hner] using this
  intro r hkk;exact .inl (hr.envD r hkk)
 have hval:FV E' (.als σ.next 0 (o1.rows.length+rows2.length)) v':=by
  simp only [FV];have hok2:=hok'
  unfold ObjOK at hok2
  simp only [List.length_append] at hok2
  have hHN:E'.H σ.next=v':=by simp [E',N,BQ]
  have hZN:E'.Z σ.next=i.size:=by simp [E',N,BQ]
  refine ⟨.inr rfl,?_⟩;rw [hHN,hZN]
  rcases hok2 with ⟨rfl,h,_⟩ | ⟨b,cap',cur,rfl,_,hle',_⟩ | ⟨b,es,clk,rfl,_⟩
  rotate_right
  ·obtain ⟨_,_,_,h⟩:=hsl';cases h
  ·have h0:o1.rows.length+rows2.length=0:=by rw [← List.length_append,h];rfl
   rw [h0];exact ⟨none,0,0,none,0,rfl,rfl,Nat.le_refl _,fun _=>⟨rfl,rfl⟩,fun h=>absurd h (by omega)⟩
  exact ⟨_,_,_,_,_,rfl,rfl,hle',fun _=>⟨rfl,rfl⟩,fun _=>⟨_,rfl,rfl,by simp [Addr.add_zero']⟩⟩
 exact ⟨E',_,rfl,hrel,hval⟩
theorem Writer.append {P:Program} {σ:St} {o:Oper} {t e:TypeId} {x y:Operand} {i:TypeInfo} {zs:List AV} {hr0:Option Nat} {rows1 rows2:List (List AV)} {c1 c2:Bool}
 (ho:o.op= .call { callee:= .builtin .append,args:= #[x,y],argTypes:= #[t,t] }) (ht:A9 P t=some e) (hz:AK P e=some zs) (hzl:zs.length=P.cellsOf e) (hpos:P.cellsOf e≠0) (hi:P.info? e=some i)
 (h1:Fj σ e (P.cellsOf e) (σ.ev x)=some (hr0,rows1,c1)) (h2:IW σ (σ.ev y)=some (P.cellsOf e,rows2,c2))
 (hl2:∀ r lo m ob,σ.ev y= .als r lo m→Al σ.objs r=some ob→lo+m≤ob.rows.length)
 (hb:(rows1.length+rows2.length) * i.bytes≤140737488355328) (h63:rows1.length+rows2.length≤maxLen) (hd:∀ d,o.dst=some d→d < σ.nt) :
 Writer P σ o ({ σ with objs:=(σ.next,⟨true,e,P.cellsOf e,rows1 ++ rows2,c1 && c2⟩) :: σ.drop1 hr0,next:=σ.next+1 }.put o.dst (.als σ.next 0 (rows1.length+rows2.length))):=by
 intro C E X a hr K Q hk;obtain ⟨i',z,hi',hzz,rfl,_,_⟩:=Ca hz;rw [hi] at hi';simp only [Option.some.injEq] at hi';subst hi';have hsz:=B8 hi;rw [hsz] at hzl hpos h1 h2 hk;simp only [List.length_map,Array.length_toList] at hzl;have hund:=BL ht;obtain ⟨A,cap,news,hy,hrn,hA⟩:=hr.rowsAV h2 hl2 (hr.ev y);have hhead:=hr.head h1;obtain ⟨v,xs,o1,hxe,hs1,he1,hz1,hrw,hok1,hfr1,hblk,hsl⟩:=hhead;subst hrw
 obtain ⟨v',w',hrun,hok',e1,e2,e3,e4,e5,e6,hsl'⟩:=MD (P:=P) (w:=E.w) t o.type e i z hund hi hzz hzl (Nat.pos_of_ne_zero hpos) v xs o1 hs1 he1 hz1 hok1 hsl (by rw [hfr1.length]) A rows2.length cap news rows2 rfl
  (by rw [hrn.length]) hA hrn.one h63 hb (c1 && c2)
 obtain ⟨E',X',rfl,hrel,hval⟩:=hr.appended hfr1 hblk hrn hok' e1 e2 e3 e4 e5 e6 hsl';have hput:=hrel.put o.dst hd hval;have hfin:=hk E' _ _ hput
 unfold Oper.wp execOp
 simp only [ho,resolve,invoke,builtin,Sem.run_bind,Sem.run_pure,Result.andThen_ok,List.map_toArray,List.map_cons,List.map_nil,hxe,hy,hrun];exact hfin
end Go.AM
