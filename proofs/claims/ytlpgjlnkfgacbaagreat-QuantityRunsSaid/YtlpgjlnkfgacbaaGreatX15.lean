/-
  Part 15 of the proof: the abstract machine, proved sound over the model.
  Conditions: none.
-/
import Derived.Lib.AppendZeros
import Derived.Test.YtlpgjlnkfgacbaaGreatX14
set_option linter.unusedVariables false
set_option linter.unusedSimpArgs false
set_option linter.unusedSectionVars false
namespace Go.AM
section
open Go.Proofs
section
variable {P : Program} {s : List (Nat × AV)} {b : List (Nat × Obj)} {n t e r : Nat}
variable {ops : Array Oper} {rest : List Oper} {Q : St → Prop} {d ty : Nat} {pos : String} {aft : Array Edge} {g : Option (Nat × Bool)} {x y : Operand}
theorem S.sln {st el : Nat} {hi : Operand} {k1 : IntKind} (hel : elemOfSlice P st = some el) (hin : (P.info? el).isSome = true) (hx : opv s x = some (.lit (.slice none 0 0)) := by exact rfl) (hhi : opv s hi = some (.lit (.int k1 0)) := by exact rfl)
    (hg : guardGo (dstsOf ops) ⟨s, b, n, t, e⟩ g = some true := by exact rfl) (hd : Nat.blt d t = true := by exact rfl) (h : SeqL P ops rest ⟨(d, .lit (.slice none 0 0)) :: s, b, n, t, e⟩ Q) :
    SeqL P ops (⟨some d, .slice st x none (some hi) none, ty, pos, aft, g⟩ :: rest) ⟨s, b, n, t, e⟩ Q := by
  refine SeqL.of_run hg fun C E X a hr => ?_; have hund := elemOfSlice_eq hel; have e0 := rel_ev_lit hr hx; have e1 := rel_ev_lit hr hhi; obtain ⟨i, hi'⟩ := Option.isSome_iff_exists.1 hin; have hput := hr.put (some d) (v := .lit (.slice none 0 0)) (y := .slice none 0 0) (fun d' e' => by cases e'; exact Nat.le_of_ble_eq_true hd) (by simp [FV]); refine ⟨_, E, X, _, ?_, hput, h⟩
  unfold execOp
  simp only [Sem.run_bind, Instr.sliceAt, run_underlying hund, Result.andThen_ok, Option.map_some, Option.map_none, e0, e1, Instr.slice, Instr.sliceBounds, Sem.run_pure, run_sizeOf' hi', run_bound (k := k1) (y := 0) (n := 0) (Int.le_refl 0) (by decide)]
  simp
theorem S.apz {T : Type} {f : T → List AV} {st it el c : Nat} {m : Int} {zs : List AV} {by' : Nat} (z0 : T) (hel : elemOfSlice P st = some el) (hit : P.underlying it = some (.int .i64)) (hze : zeroCellsAV P el = some zs) (hcl : P.cellsOf el = c) (hby : P.bytesOf el = by')
    (hx : opv s x = some (.lit (.slice none 0 0)) := by exact rfl) (hy : opv s y = some (.lit (.int .i64 m)) := by exact rfl) (hm : 0 < m := by omega) (hm2 : m ≤ 1000000000 := by omega) (hmb : by' ≤ 1000 := by decide) (hf : f z0 = zs := by exact rfl) (hz : (Nat.beq zs.length c && !Nat.beq c 0) = true := by exact rfl)
    (hg : guardGo (dstsOf ops) ⟨s, b, n, t, e⟩ g = some true := by exact rfl) (hd : Nat.blt d t = true := by exact rfl)
    (h : SeqL P ops rest ⟨(d, .als n 0 (List.replicate m.toNat z0).length) :: s, (n, ⟨true, el, c, (List.replicate m.toNat z0).map f, true⟩) :: b, n + 1, t, e⟩ Q) :
    SeqL P ops (⟨some d, .call { callee := .builtin .append, args := #[x, y], argTypes := #[st, it] }, ty, pos, aft, g⟩ :: rest) ⟨s, b, n, t, e⟩ Q := by
  refine SeqL.of_run hg fun C E X a hr => ?_; obtain ⟨i, z, hi, hzz, hzs, _, hzf⟩ := zeroCellsAV_spec hze; have hsz := cellsOf_info hi; rw [hcl] at hsz; subst hsz; have hund := elemOfSlice_eq hel
  have hbi : P.bytesOf el = i.bytes := by simp [Program.bytesOf, hi]
  rw [hbi] at hby
  subst hby
  rw [hzs] at hz; simp only [Bool.and_eq_true, Nat.beq_eq, Bool.not_eq_true', List.length_map, Array.length_toList] at hz
  have hpos : 0 < i.size := by
    have := beq_false_ne hz.2; omega
  obtain ⟨k, rfl⟩ := Int.eq_ofNat_of_zero_le (show 0 ≤ m by omega); have e0 := rel_ev_lit hr hx; have e1 := rel_ev_lit hr hy; have hkb : k * i.bytes ≤ 1000000000 * 1000 := Nat.mul_le_mul (by omega) hmb; have hrun := Go.Lib.run_append_nil_zeros (P := P) E.w st it ty el i z .i64 .i64 hund hit hi hzz k (by omega) hpos (by omega) (by omega); have hrep : (Builtin.zeroCells z.cells k).toList = (List.replicate k z.cells.toList).flatten := range_rep z.cells k
  have hlen : (List.replicate k z.cells.toList).flatten.length = k * i.size := by
    rw [← hrep, Array.length_toList, size_zeroCells, hz.1]
  have hkk : (List.replicate k zs).length = k := List.length_replicate
  obtain ⟨E', X', e2, hrel, hval⟩ := hr.appended (hr0 := none) (e := el) (i := i) (v := .slice none 0 0) (v' := .slice (some ⟨E.w.heap.size, 0, none⟩) k (grownCap E.w k 0 el)) (w' := E.w.drew.alloc (.cells (Builtin.zeroCells z.cells k ++ Builtin.zeroCells z.cells (grownCap E.w k 0 el - k)) el)) (xs := []) (news := (List.replicate k z.cells.toList).flatten) (o1 := ⟨true, el, i.size, [], true⟩) (rows2 := List.replicate k zs) (c1 := true) (c2 := true)
    (by simp [FVr]) (fun b hb => by simp [blockOf, baseOf] at hb) (by rw [hzs]; exact FVr_rep (by simp [hz.1]) (by rw [← hzs]; exact hzf _) k)
    (by
      simp only [ObjOK, List.nil_append, hkk]; have hge := grownCap_ge E.w k 0 el; refine .inr (.inl ⟨E.w.heap.size, grownCap E.w k 0 el, _, rfl, heap_alloc_new E.w.drew _, hge, grownCap_le_maxLen E.w _ 0 el (by simp only [maxLen]; omega), ?_, ?_⟩)
      · simp only [Array.size_append, size_zeroCells, hz.1]; rw [← Nat.add_mul]
        congr 1
        omega
      · rw [Array.toList_append, hrep, ← hlen]
        exact List.take_left)
    rfl ⟨rfl, Nat.le_succ _⟩ rfl (by simp) (fun k hk _ => Go.heap_alloc_old E.w.drew _ hk) (fun k hk => by
      simp [blockOf, baseOf] at hk
      subst hk
      exact ⟨.inr (Nat.le_refl _), by simp⟩) ⟨_, _, _, rfl⟩
  have hput := hrel.put (some d) (v := .als n 0 (([] : List (List AV)).length + (List.replicate k zs).length)) (fun d' e' => by cases e'; exact Nat.le_of_ble_eq_true hd) hval; refine ⟨_, E', X', _, ?_, hput, ?_⟩
  · unfold execOp
    rw [e2]; simp only [resolve, invoke, builtin, Sem.run_bind, Sem.run_pure, Result.andThen_ok, List.map_toArray, List.map_cons, List.map_nil, e0, e1, hrun]
  · have h' := h; simp only [Int.ofNat_eq_natCast, Int.toNat_natCast, List.map_replicate, hf, List.length_replicate] at h'
    simpa only [St.put, List.nil_append, List.length_nil, Nat.zero_add, hkk, Bool.and_self, St.drop1] using h'
theorem Wk.cut {T : Type} {f : T → List AV} {l : List T} {el c m : Nat} {zs : List AV} (d : Nat) (b' : List (Nat × Obj)) (hze : zeroCellsAV P el = some zs) (hcl : P.cellsOf el = c) (hs : find s d = some (.als r 0 m) := by exact rfl) (ho : find b r = some ⟨true, el, c, l.map f, true⟩ := by exact rfl) (hm : m ≤ l.length := by first | omega | (simp only [List.length_append, List.length_take, List.length_drop, List.length_replicate]; omega)) (hb' : del b r = b' := by exact rfl) :
    Wk ⟨s, b, n, t, e⟩ ⟨(d, .als n 0 (l.take m).length) :: s, (n, ⟨true, el, c, (l.take m).map f, true⟩) :: b', n + 1, t, e⟩ := by
  subst hb'; intro C E X a hr; obtain ⟨i0, z, hi, hzz, _, _, _⟩ := zeroCellsAV_spec hze; have hsz := cellsOf_info hi; rw [hcl] at hsz; subst hsz; obtain ⟨hD, hZ, hok, hrow⟩ := hr.objs r _ ho; have hxv := hr.slots d _ hs; simp only [FV] at hxv; obtain ⟨_, A0, n0, c0, A, cc, hH, hxe, hnc, hA, _⟩ := hxv; obtain ⟨rfl, rfl⟩ := hA rfl
  have hrow' : FVr (E.by true) i0.size ((l.take m).map f) ((X r).take (m * i0.size)) := by rw [List.map_take]; exact FVr.take m hrow
  have hlt : (l.take m).length = m := by rw [List.length_take]; omega
  have hok' : ObjOK E.w (.slice A m cc) ((X r).take (m * i0.size)) ⟨true, el, i0.size, (l.take m).map f, true⟩ := by
    simp only [ObjOK] at hok ⊢
    rcases hok with ⟨hd, h1, h2⟩ | ⟨g, cap, cur, hd, hg, hcap, hmax, hcs, htk⟩ | ⟨g, es, clk, hd, _⟩
    · rw [hH] at hd; simp only [Value.slice.injEq] at hd; obtain ⟨rfl, rfl, rfl⟩ := hd
      have hl0 : l = [] := by simpa using h1
      subst hl0
      have hm0 : m = 0 := by simpa using hm
      subst hm0; exact .inl ⟨rfl, rfl, by simp⟩
    · rw [hH] at hd; simp only [Value.slice.injEq, List.length_map] at hd; obtain ⟨rfl, rfl, rfl⟩ := hd; simp only [List.length_map] at hcap htk; refine .inr (.inl ⟨g, cc, cur, by rw [List.length_map, hlt], hg, by rw [List.length_map, hlt]; exact hnc, hmax, hcs, ?_⟩); rw [List.length_map, hlt, ← htk, List.take_take, Nat.min_eq_left (Nat.mul_le_mul_right _ hm)]
    · rw [hH] at hd; cases hd
  have hblk : ∀ k, blockOf (.slice A m cc) = some k → ∃ r' ob, some r = some r' ∧ find b r' = some ob ∧ blockOf (E.H r') = some k := fun k hk => ⟨r, _, rfl, ho, by rw [hH]; exact hk⟩; obtain ⟨E', X', e1, hrel, hval⟩ := hr.appended (hr0 := some r) (i := i0) (o1 := ⟨true, el, i0.size, (l.take m).map f, true⟩) (rows2 := []) (news := []) (c1 := true) (c2 := true) (w' := E.w) hrow' hblk (by simp [FVr]) (by simpa using hok') rfl (Tp.refl _) rfl (Nat.le_refl _) (fun _ _ _ => rfl) (fun k hk => ⟨.inl hk, hok'.lt hk⟩) ⟨_, _, _, rfl⟩; refine ⟨E', X', e1, ?_⟩; have hb1 : ((l.take m).map f ++ []) = (l.take m).map f := List.append_nil _; simp only [Bool.and_self, hb1, List.length_nil, Nat.add_zero, List.length_map] at hrel hval; refine ⟨?_, hrel.size, hrel.defers, hrel.objs, hrel.apart, hrel.stay, hrel.fresh, hrel.kept, hrel.mine, hrel.env, hrel.envD, hrel.base, hrel.grow, hrel.envk, hrel.glob⟩; intro s' v hv; rw [find_cons] at hv
  split at hv
  · rename_i e2
    simp only [Option.some.injEq] at hv; subst e2 hv; rw [hxe]; exact hval
  · exact hrel.slots s' v hv
end
end
section
open Go.MapKept
section plain
variable {K : Type} [DecidableEq K]
end plain
section find
variable {K : Type} [DecidableEq K] {d : TypeDesc} {kv : K → Value}
end find
section rules
variable {P : Program} {ops : Array Oper} {rest : List Oper} {s : List (Nat × AV)} {b : List (Nat × Obj)} {n t e id : Nat} {Q : St → Prop} {dd ty : Nat} {pos : String} {aft : Array Edge} {g : Option (Nat × Bool)} {x y z : Operand}
variable {K : Type} [DecidableEq K] {d : TypeDesc} {kv : K → Value} {m : List K} {k : K} {mt r el : Nat} {cl : Bool}
theorem Wk.frzv {slc : Bool} {r el sz : Nat} {row : List AV} (d : Nat) (b' : List (Nat × Obj)) (hs : find s d = some (.adr r 0 0) := by exact rfl) (ho : find b r = some ⟨slc, el, sz, [row], true⟩ := by exact rfl) (hk : Nat.ble e r = true := by exact rfl) (hb : del b r = b' := by exact rfl) :
    Wk ⟨s, b, n, t, e⟩ ⟨(d, .sadr row 0) :: s, b', n, t, e⟩ := by
  subst hb; intro C E X a hr; obtain ⟨g1, g2, g3, g4⟩ := hr.objs r _ ho; have hk' : e ≤ r := Nat.le_of_ble_eq_true hk
  let E' : Env := { E with S := fun b => E.S b ∨ blockOf (E.H r) = some b }
  have hle' : E.le E' := ⟨fun b hb => ⟨.inl hb, rfl⟩, fun r hD => ⟨hD, rfl, rfl⟩⟩
  have hd : ∀ r' o', find (del b r) r' = some o' → find b r' = some o' ∧ r' ≠ r := by
    intro r' o' hf; rw [find_del] at hf
    split at hf
    · cases hf
    · rename_i e; exact ⟨hf, fun e' => e e'.symm⟩
  refine ⟨E', X, rfl, ⟨?_, hr.size, hr.defers, ?_, ?_, ?_, hr.fresh, hr.kept, ?_, ?_, hr.envD, ?_, ?_, hr.envk, hr.glob.le hle'⟩⟩
  · intro s' v hv; rw [find_cons] at hv
    split at hv
    · rename_i e
      simp only [Option.some.injEq] at hv; subst e hv; have hx := hr.slots d _ hs; simp only [FV] at hx; obtain ⟨_, a0, hH, hsp, hxe⟩ := hx; obtain ⟨_, hh⟩ := g3.holds (a0 := a0) hH; have g5 : FVr E.clear sz [row] (X r) := g4; simp only [FVr] at g5; obtain ⟨ys, zs, e1, _, e2, rfl⟩ := g5; rw [List.append_nil] at e1; simp only [FV]; refine ⟨a0, X r, by rw [hxe, Nat.zero_mul], hsp, .inr (blockOf_base hH), by rw [e1]; exact FVc.le _ hle'.clear _ e2, hh⟩
    · exact FV.le _ hle' _ (hr.slots s' v hv)
  · intro r' o' hf; obtain ⟨hf, hne⟩ := hd r' o' hf; obtain ⟨k1, k2, k3, k4⟩ := hr.objs r' o' hf; exact ⟨k1, k2, k3, FVr.le _ _ (hle'.by _) _ k4⟩
  · intro r1 r2 o1 o2 b h1 h2 hb1 hb2; exact hr.apart r1 r2 o1 o2 b (hd r1 o1 h1).1 (hd r2 o2 h2).1 hb1 hb2
  · rintro b (hb | hb)
    · exact ⟨(hr.stay b hb).1, fun r' o' hf => (hr.stay b hb).2 r' o' (hd r' o' hf).1⟩
    · refine ⟨g3.lt hb, fun r' o' hf hbk => ?_⟩; obtain ⟨hf, hne⟩ := hd r' o' hf; exact hne (hr.apart r' r o' _ b hf ho hbk hb)
  · intro r' o' b hf hbk; exact hr.mine r' o' b (hd r' o' hf).1 hbk
  · exact hr.env
  · intro b hb; exact .inl (hr.base b hb)
  · rintro b (hb | hb)
    · exact hr.grow b hb
    · rcases hr.mine r _ b ho hb with h | h
      · exact .inr (.inr h)
      · exact .inr (.inl h)
end rules
end
theorem S.cg {P : Program} {s : List (Nat × AV)} {n t e : Nat} {x : Operand} {b : List (Nat × Obj)} {ops : Array Oper} {rest : List Oper} {Q : St → Prop} {d ty : Nat} {pos' : String} {aft : Array Edge} {g : Option (Nat × Bool)} {as_ : Array Operand} {ts : Array TypeId} {f : FuncId} {first caps : List AV} {vs : List AV} {l new : List (Nat × Obj)} {v v' : AV} (n' : Nat) (b' : List (Nat × Obj))
    (hc : calleeOf (St.ev ⟨s, b, n, t, e⟩ x) = some (f, first, caps) := by exact rfl) (hv : viewL ⟨s, b, n, t, e⟩ (first ++ (as_.toList.map (St.ev ⟨s, b, n, t, e⟩) ++ caps)) = some vs := by exact rfl) (hF : Fun P f vs (Ret v l)) (hl : liftAV n v = some v' := by exact rfl) (hn : liftObjs n l = some new := by exact rfl) (hn' : (∀ r ob, find new r = some ob → r < n') ∧ n ≤ n') (hb : new ++ b = b' := by exact rfl)
    (hm : closedL (first ++ (as_.toList.map (St.ev ⟨s, b, n, t, e⟩) ++ caps)) = true := by exact rfl)
    (hg : guardGo (dstsOf ops) ⟨s, b, n, t, e⟩ g = some true := by exact rfl) (hd : Nat.blt d t = true := by exact rfl) (h : SeqL P ops rest ⟨(d, v') :: s, b', n', t, e⟩ Q) :
    SeqL P ops (⟨some d, .call { callee := .value x, args := as_, argTypes := ts }, ty, pos', aft, g⟩ :: rest) ⟨s, b, n, t, e⟩ Q := by
  subst hb; refine SeqL.call hg rfl hc hv hF (.inl hm) (fun d' h' => by cases h'; exact Nat.le_of_ble_eq_true hd) ?_; rintro u l ⟨rfl, rfl⟩; exact ⟨v', new, n', hl, hn, hn'.1, hn'.2, h⟩
end Go.AM
