/-
  The abstract machine, continued: maps whose values have no fields, that is sets.
  Conditions: none; generic over the program.
-/
import Derived.Test.YthpjfkmhpoeojaaGreatDoorAmMap
import Derived.Test.YthpjfkmhpoeojaaGreatDoorAmDel
namespace Go.AM
open Go.MapKept
set_option linter.unusedVariables false
set_option linter.unusedSimpArgs false
set_option linter.unusedSectionVars false
section plain
variable {K : Type} [DecidableEq K]
def kput (m : List K) (k : K) : List K := if k ∈ m then m else m ++ [k]
def kpos : List K → K → Nat
  | [], _ => 0
  | p :: m, k => if k = p then 0 else kpos m k + 1
theorem kput_mem (m : List K) (k k' : K) : k' ∈ kput m k ↔ k' ∈ m ∨ k' = k := by
  unfold kput
  split
  · constructor
    · exact .inl
    · rintro (h | rfl)
      · exact h
      · assumption
  · simp
theorem kput_in {m : List K} {k : K} (h : k ∈ m) : kput m k = m := if_pos h
theorem kput_new {m : List K} {k : K} (h : k ∉ m) : kput m k = m ++ [k] := if_neg h
theorem kpos_get {m : List K} {k : K} (h : k ∈ m) : m[kpos m k]? = some k := by
  induction m with
  | nil => simp at h
  | cons p m ih =>
    simp only [kpos]
    by_cases h2 : k = p
    · simp [h2]
    · rcases List.mem_cons.1 h with h3 | h3
      · exact absurd h3 h2
      · simp only [h2, if_false]
        simpa using ih h3
end plain
def rowU {K : Type} (kv : K → Value) (p : K) : List AV := [.lit (kv p), .top]
section find
variable {K : Type} [DecidableEq K] {d : TypeDesc} {kv : K → Value}
theorem findAV_U (h : KL d kv) (k : K) : ∀ (m : List K) (i : Nat), findAV d (kv k) (m.map (rowU kv)) i = some (if k ∈ m then some (i + kpos m k, [.top]) else none)
  | [], i => rfl
  | p :: m, i => by
    simp only [List.map_cons, rowU, findAV, h.same, kpos]
    by_cases h2 : k = p
    · simp [h2]
    · simp only [h2, decide_false, if_false]; rw [show findAV d (kv k) (m.map (rowU kv)) (i + 1) = _ from findAV_U h k m (i + 1)]
      by_cases h3 : k ∈ m
      · simp [h3, h2]; omega
      · simp [h3, h2]
end find
section rules
variable {P : Program} {ops : Array Oper} {rest : List Oper} {s : List (Nat × AV)} {b : List (Nat × Obj)} {n t e id : Nat} {Q : St → Prop} {dd ty : Nat} {pos : String} {aft : Array Edge} {g : Option (Nat × Bool)} {x y z : Operand}
variable {K : Type} [DecidableEq K] {d : TypeDesc} {kv : K → Value} {m : List K} {k : K} {mt r el : Nat} {cl : Bool}
theorem q.lku (h : KL d kv) (ht : mapTy P mt = some (d, none)) (hx : opv s x = some (.hd r) := by exact rfl) (ho : find b r = some ⟨true, el, 2, m.map (rowU kv), cl⟩ := by exact rfl) (hy : opv s y = some (.lit (kv k)) := by exact rfl) :
    stepQ P ⟨s, b, n, t, e⟩ id (.lookup mt x y true) = some (.tup [.agg [], .lit (.bool (decide (k ∈ m)))], []) := by
  simp only [stepQ, ht, Option.bind_some, opv_ev hx, mapRows, ho, cond_true, opv_ev hy, toVal, msz, Nat.beq_refl, h.key, Bool.and_self, findAV_U h]
  by_cases h3 : k ∈ m
  · rw [if_pos h3]; simp [h3, lookAV, valAV, vals]
  · rw [if_neg h3]; simp [h3, lookAV, zAV, vals]
theorem S.muu (b' : List (Nat × Obj)) (h : KL d kv) (ht : mapTy P mt = some (d, none)) (hx : opv s x = some (.hd r) := by exact rfl) (ho : find b r = some ⟨true, el, 2, m.map (rowU kv), true⟩ := by exact rfl) (hy : opv s y = some (.lit (kv k)) := by exact rfl) (hz : opv s z = some (.agg []) := by exact rfl)
    (hdel : del b r = b' := by exact rfl) (hg : guardGo (dstsOf ops) ⟨s, b, n, t, e⟩ g = some true := by exact rfl) (hn : SeqL P ops rest ⟨s, (r, ⟨true, el, 2, (kput m k).map (rowU kv), true⟩) :: b', n, t, e⟩ Q) :
    SeqL P ops (⟨none, .mapUpdate mt x y z, ty, pos, aft, g⟩ :: rest) ⟨s, b, n, t, e⟩ Q := by
  subst hdel; refine SeqL.of_skip hg fun C E X a hr => ?_; obtain ⟨kt, et, z1, ht1, ht2, hzz, hz1⟩ := mapTy_spec ht; obtain ⟨_, hZ, hok, hrr⟩ := hr.objs r _ ho; have hxv := hr.ev x; rw [opv_ev hx] at hxv; obtain ⟨bb, es, clk, hH, hgg, hwf, hfl, hxe⟩ := hok.asMap rfl hxv; rw [← hfl] at hrr; have hye := rel_ev_lit hr hy
  have hze : a.eval z = .agg #[] := by
    have h := hr.ev z; rw [opv_ev hz] at h
    simpa [FV, FVc] using h
  have hik := keyB_is (h.key k); have hvc : valCells (.agg #[]) = [] := rfl
  have hnew : ∀ st : Nat, FVc E.clear (rowU kv k) (rowM ⟨kv k, .agg #[], st⟩) := by
    intro st; simp only [rowM, hvc, rowU, FVc]; exact ⟨_, _, rfl, key_one hik, by simp [FV], _, _, rfl, rfl, by simp [FV], rfl⟩
  have hlen : ∀ st : Nat, (rowM ⟨kv k, .agg #[], st⟩).length = 2 := fun st => by simp [rowM, hvc]
  rcases findAV_spec (show (0 : Nat) < 2 by decide) hwf.len hrr (findAV_U h k m 0) with ⟨h1, h2, h3⟩ | ⟨j, v1, vs, e1, h1, h2, h3, h4, h5, h6, h7⟩
  · have hm0 : k ∉ m := fun hm => by rw [if_pos hm] at h1; simp at h1
    have hne : ∀ x ∈ es.toList, x.key ≠ kv k := fun x hx e => by
      have := h3 x hx; rw [e, h.same] at this
      simp at this
    obtain ⟨E', X', hw, hr'⟩ := hr.putMap ho rfl rfl hH hgg (es.push { key := kv k, val := .agg #[], born := clk }) (clk + 1) ⟨stamped_push hwf.st hne, fun x hx => by
      simp only [Array.toList_push, List.mem_append, List.mem_singleton] at hx
      rcases hx with hx | rfl
      · exact hwf.len x hx
      · exact hlen clk⟩ ((kput m k).map (rowU kv)) (by
        rw [kput_new hm0, List.map_append, Array.toList_push, flatM_app]
        exact hrr.append (FVr_one rfl (hnew clk)))
    refine ⟨E', X', _, ?_, hr', hn⟩
    unfold execOp
    simp [hxe, hye, hze, Instr.mapUpdate, run_underlying ht1, Go.MapKept.run_getObj_map hgg, Go.MapKept.run_checkKey ht2 hik, Go.MapKept.run_findKey ht2 h2, Go.MapKept.run_setObj_map _ hgg, Result.andThen, hw]
  · have hj : es.toList[j]? = some e1 := h3
    have hj' : es[j]? = some e1 := by simpa using h3
    have hke : e1.key = kv k := by
      rw [h4] at h7 ⊢
      have hmk : ∃ p ∈ m, kv p = v1 := by
        rw [List.getElem?_map, Option.map_eq_some_iff] at h2; obtain ⟨p, hp, hp2⟩ := h2; simp only [rowU, List.cons.injEq, AV.lit.injEq] at hp2; exact ⟨p, List.mem_of_getElem? hp, hp2.1⟩
      obtain ⟨p, _, rfl⟩ := hmk; rw [h.same] at h7; simp only [Option.some.injEq, decide_eq_true_eq] at h7; rw [h7]
    have hm1 : k ∈ m := by
      by_cases hm : k ∈ m
      · exact hm
      · rw [if_neg hm] at h1; simp at h1
    have hjp : j = kpos m k := by
      rw [if_pos hm1] at h1; simp only [Option.some.injEq, Prod.mk.injEq] at h1; omega
    obtain ⟨E', X', hw, hr'⟩ := hr.putMap ho rfl rfl hH hgg (es.modify j fun x => { x with key := kv k, val := .agg #[] }) clk ⟨stamped_modify hwf.st _ _ (fun _ _ => rfl) (fun x _ hx => by rw [hj'] at hx; cases hx; exact hke.symm), fun x hx => by
      rw [modify_set _ hj] at hx
      rcases List.mem_or_eq_of_mem_set hx with hx | rfl
      · exact hwf.len x hx
      · exact hlen _⟩ ((kput m k).map (rowU kv)) (by
        have hkp := kpos_get hm1
        have e0 : (kput m k).map (rowU kv) = (m.map (rowU kv)).set j (rowU kv k) := by
          rw [kput_in hm1, hjp]; refine (List.ext_getElem? fun i => ?_).symm; rw [List.getElem?_set]
          split
          · rename_i hi
            subst hi; rw [List.getElem?_map, hkp, List.length_map, if_pos (List.getElem?_eq_some_iff.1 hkp).1]; rfl
          · rfl
        rw [e0, modify_set _ hj]; refine FVr_setM rfl (hnew _) hwf.len hrr ?_ (List.getElem?_eq_some_iff.1 hj).1; rw [List.length_map, hjp]
        exact (List.getElem?_eq_some_iff.1 hkp).1)
    refine ⟨E', X', _, ?_, hr', hn⟩
    have h6' : Instr.findNow d (kv k) es.toList 0 = some (some (j, e1.val)) := by simpa using h6
    unfold execOp
    simp [hxe, hye, hze, Instr.mapUpdate, run_underlying ht1, Go.MapKept.run_getObj_map hgg, Go.MapKept.run_checkKey ht2 hik, Go.MapKept.run_findKey ht2 h6', hj', hke, run_keyThatStays hik, Go.MapKept.run_setObj_map _ hgg, Result.andThen, hw]
theorem S.clri {rows : List (List AV)} {st el c lo k : Nat} {zs : List AV} {x : Operand} (b' : List (Nat × Obj)) (hel : elemOfSlice P st = some el) (hze : zeroCellsAV P el = some zs) (hcl : P.cellsOf el = c)
    (hx : opv s x = some (.als r lo k) := by exact rfl) (ho : find b r = some ⟨true, el, c, rows, true⟩ := by exact rfl) (hlk : lo + k ≤ rows.length := by (simp only [List.length_map]; omega)) (hk : 0 < k := by omega) (hz : Nat.beq zs.length c = true := by exact rfl)
    (hb' : del b r = b' := by exact rfl) (hg : guardGo (dstsOf ops) ⟨s, b, n, t, e⟩ g = some true := by exact rfl)
    (h : SeqL P ops rest ⟨s, (r, ⟨true, el, c, rows.take lo ++ List.replicate k zs ++ rows.drop (lo + k), true⟩) :: b', n, t, e⟩ Q) :
    SeqL P ops (⟨none, .call { callee := .builtin .clear, args := #[x], argTypes := #[st] }, ty, pos, aft, g⟩ :: rest) ⟨s, b, n, t, e⟩ Q :=
  S.clr (f := id) (l := rows) zs b' hel hze hcl hx (by rw [List.map_id]; exact ho) hlk hk rfl hz hb' hg (by rw [List.map_id]; exact h)
theorem Wk.cuti {rows : List (List AV)} {el c m : Nat} {zs : List AV} (d : Nat) (b' : List (Nat × Obj)) (hze : zeroCellsAV P el = some zs) (hcl : P.cellsOf el = c) (hs : find s d = some (.als r 0 m) := by exact rfl) (ho : find b r = some ⟨true, el, c, rows, true⟩ := by exact rfl) (hm : m ≤ rows.length := by (simp only [List.length_map, List.length_append, List.length_take, List.length_drop, List.length_replicate]; omega)) (hb' : del b r = b' := by exact rfl) :
    Wk ⟨s, b, n, t, e⟩ ⟨(d, .als n 0 (rows.take m).length) :: s, (n, ⟨true, el, c, rows.take m, true⟩) :: b', n + 1, t, e⟩ := by
  have h := Wk.cut (f := id) (l := rows) (n := n) (t := t) (e := e) d b' hze hcl hs (by rw [List.map_id]; exact ho) hm hb'; rw [List.map_id] at h; exact h
theorem Wk.frzv {slc : Bool} {r el sz : Nat} {row : List AV} (d : Nat) (b' : List (Nat × Obj)) (hs : find s d = some (.adr r 0 0) := by exact rfl) (ho : find b r = some ⟨slc, el, sz, [row], true⟩ := by exact rfl) (hk : Nat.ble e r = true := by exact rfl) (hb : del b r = b' := by exact rfl) :
    Wk ⟨s, b, n, t, e⟩ ⟨(d, .sadr row 0) :: s, b', n, t, e⟩ := by
  subst hb; intro C E X a hr; obtain ⟨g1, g2, g3, g4⟩ := hr.objs r _ ho; have hk' : e ≤ r := Nat.le_of_ble_eq_true hk
  let E' : Env := { E with S := fun b => E.S b ∨ blockOf (E.H r) = some b }
  have hle' : E.le E' := ⟨fun b hb => ⟨.inl hb, rfl⟩, fun r hD => ⟨hD, rfl, rfl⟩⟩
  have hd : ∀ r' o', find (del b r) r' = some o' → find b r' = some o' ∧ r' ≠ r := by
    intro r' o' hf; rw [find_del] at hf
    split at hf
    · cases hf
    · rename_i e; exact ⟨hf, fun e' => e e'.symm⟩
  refine ⟨E', X, rfl, ⟨?_, hr.size, hr.defers, ?_, ?_, ?_, hr.fresh, hr.kept, ?_, ?_, hr.envD, ?_, ?_, hr.envk, hr.glob.le hle'⟩⟩
  · intro s' v hv; rw [find_cons] at hv
    split at hv
    · rename_i e
      simp only [Option.some.injEq] at hv; subst e hv; have hx := hr.slots d _ hs; simp only [FV] at hx; obtain ⟨_, a0, hH, hsp, hxe⟩ := hx; obtain ⟨_, hh⟩ := g3.holds (a0 := a0) hH; have g5 : FVr E.clear sz [row] (X r) := g4; simp only [FVr] at g5; obtain ⟨ys, zs, e1, _, e2, rfl⟩ := g5; rw [List.append_nil] at e1; simp only [FV]; refine ⟨a0, X r, by rw [hxe, Nat.zero_mul], hsp, .inr (blockOf_base hH), by rw [e1]; exact FVc.le _ hle'.clear _ e2, hh⟩
    · exact FV.le _ hle' _ (hr.slots s' v hv)
  · intro r' o' hf; obtain ⟨hf, hne⟩ := hd r' o' hf; obtain ⟨k1, k2, k3, k4⟩ := hr.objs r' o' hf; exact ⟨k1, k2, k3, FVr.le _ _ (hle'.by _) _ k4⟩
  · intro r1 r2 o1 o2 b h1 h2 hb1 hb2; exact hr.apart r1 r2 o1 o2 b (hd r1 o1 h1).1 (hd r2 o2 h2).1 hb1 hb2
  · rintro b (hb | hb)
    · exact ⟨(hr.stay b hb).1, fun r' o' hf => (hr.stay b hb).2 r' o' (hd r' o' hf).1⟩
    · refine ⟨g3.lt hb, fun r' o' hf hbk => ?_⟩; obtain ⟨hf, hne⟩ := hd r' o' hf; exact hne (hr.apart r' r o' _ b hf ho hbk hb)
  · intro r' o' b hf hbk; exact hr.mine r' o' b (hd r' o' hf).1 hbk
  · exact hr.env
  · intro b hb; exact .inl (hr.base b hb)
  · rintro b (hb | hb)
    · exact hr.grow b hb
    · rcases hr.mine r _ b ho hb with h | h
      · exact .inr (.inr h)
      · exact .inr (.inl h)
end rules
end Go.AM
