/-
  The abstract machine, continued: an append of a row's own part into its own room, clear, a row cut off: what slices.Delete needs.
  Conditions: none; generic over the program.
-/
import Derived.Test.YthpjfkmhpoeojaaGreatDoorAmOwn
import Derived.Lib.AppendZeros
namespace Go.AM
open Go.Proofs
set_option linter.unusedVariables false
set_option linter.unusedSimpArgs false
set_option linter.unusedSectionVars false
section
variable {P : Program} {s : List (Nat × AV)} {b : List (Nat × Obj)} {n t e r : Nat}
theorem take_mid {α : Type} (l news : List α) {p q k : Nat} (hk : news.length = q) (h : p + q ≤ k) (hl : k ≤ l.length) :
    (l.take p ++ news ++ l.drop (p + q)).take k = (l.take k).take p ++ news ++ (l.take k).drop (p + q) := by
  have e1 : (l.take p).length = p := by rw [List.length_take]; omega
  rw [List.append_assoc, List.take_append, e1, List.take_of_length_le (by omega), List.take_append, hk, List.take_of_length_le (l := news) (by omega), List.take_take, Nat.min_eq_left (by omega), List.drop_take, List.append_assoc, show k - p - q = k - (p + q) by omega]
theorem Rel.rowAt {C : Ctx} {E : Env} {X : Nat → List Value} {σ : St} {a : Act} (hr : Rel C E X σ a) {el c : Nat} {rows : List (List AV)} {A0 : Option Addr} {n0 c0 : Nat} (ho : find σ.objs r = some ⟨true, el, c, rows, true⟩) (h0 : 0 < rows.length) (hH : E.H r = .slice A0 n0 c0) :
    ∃ g cap cur, E.H r = .slice (some ⟨g, 0, none⟩) rows.length cap ∧ E.Z r = c ∧ E.w.heap[g]? = some (.cells cur el (0, 0)) ∧ rows.length ≤ cap ∧ cap ≤ maxLen ∧ cur.size = cap * c ∧ cur.toList.take (rows.length * c) = X r ∧ FVr E.clear c rows (X r) ∧
      ∀ (i : Nat) (rows2 : List (List AV)) (news : List Value), i + rows2.length ≤ rows.length → FVr E.clear c rows2 news →
        ∃ X', Rel C { E with w := E.w.setRow g (cur.toList.take (i * c) ++ news ++ cur.toList.drop (i * c + news.length)).toArray } X' { σ with objs := (r, ⟨true, el, c, rows.take i ++ rows2 ++ rows.drop (i + rows2.length), true⟩) :: del σ.objs r } a := by
  obtain ⟨hD, hZ, hok, hrow⟩ := hr.objs r _ ho; simp only [ObjOK] at hok
  rcases hok with ⟨hd, h1, _⟩ | ⟨g, cap, cur, hd, hg, hcap, hmax, hcs, htk⟩ | ⟨g, es, clk, hd, _⟩
  · subst h1; simp at h0
  rotate_left
  · rw [hH] at hd; cases hd
  have hrow' : FVr E.clear c rows (X r) := hrow; refine ⟨g, cap, cur, hd, hZ, hg, hcap, hmax, hcs, htk, hrow', fun i rows2 news hi h2 => ?_⟩; have hnl : news.length = rows2.length * c := h2.length
  have hb : blockOf (E.H r) = some g := by rw [hd]; rfl
  have hne : ∀ k, E.S k → k ≠ g := fun k hk e' => (hr.stay k hk).2 r _ ho (by rw [e']; exact hb)
  generalize hw : E.w.setRow g (cur.toList.take (i * c) ++ news ++ cur.toList.drop (i * c + news.length)).toArray = w'
  have hle : E.clear.le (Env.clear { E with w := w' }) := ⟨fun k hk => ⟨hk, by
    show w'.heap[k]? = _
    rw [← hw, setRow_other E.w g k _ (hne k hk)]
    rfl⟩, fun r hr => hr.elim⟩
  have hlen : (rows.take i ++ rows2 ++ rows.drop (i + rows2.length)).length = rows.length := by
    simp only [List.length_append, List.length_take, List.length_drop]; omega
  have hm1 : i * c + rows2.length * c ≤ rows.length * c := by rw [← Nat.add_mul]; exact Nat.mul_le_mul_right _ hi
  have hm2 : rows.length * c ≤ cur.size := by rw [hcs]; exact Nat.mul_le_mul_right _ hcap
  obtain ⟨g1, _⟩ := hr.update (r := r) (o := ⟨true, el, c, rows, true⟩) (o' := ⟨true, el, c, rows.take i ++ rows2 ++ rows.drop (i + rows2.length), true⟩) (b := g) (w' := w') (xs' := (X r).take (i * c) ++ news ++ (X r).drop (i * c + rows2.length * c)) ho hb
    (by rw [← hw]; rfl) (by rw [← hw]; exact ⟨rfl, Nat.le_refl _⟩) (by rw [← hw]; rfl) (by rw [← hw]; simp [World.setRow]) (fun k hk => by rw [← hw]; exact setRow_other E.w g k _ hk) rfl
    (by
      simp only [ObjOK]; refine .inr (.inl ⟨g, cap, _, by rw [hlen]; exact hd, by rw [← hw]; exact setRow_heap E.w g cur _ el _ hg, by rw [hlen]; exact hcap, hmax, ?_, ?_⟩)
      · simp only [List.size_toArray, List.length_append, List.length_take, List.length_drop, Array.length_toList, hnl]; omega
      · rw [hlen, hnl, take_mid cur.toList news hnl hm1 (by simpa using hm2), htk])
    (FVr.le c _ hle _ (((hrow'.take i).append h2).append (by rw [← Nat.add_mul]; exact hrow'.drop _)))
  exact ⟨_, g1⟩
variable {ops : Array Oper} {rest : List Oper} {Q : St → Prop} {d ty : Nat} {pos : String} {aft : Array Edge} {g : Option (Nat × Bool)} {x y : Operand}
theorem FVr_zeros {E : Env} {c : Nat} {cs : List Value} (hc : cs.length = c) (h : FVc E (cs.map .lit) cs) (k : Nat) : FVr E c (List.replicate k (cs.map .lit)) (List.replicate k cs).flatten := FVr_rep (by simp [hc]) h k
theorem S.clr {T : Type} {f : T → List AV} {l : List T} {st el c lo k : Nat} {zs : List AV} (z0 : T) (b' : List (Nat × Obj)) (hel : elemOfSlice P st = some el) (hze : zeroCellsAV P el = some zs) (hcl : P.cellsOf el = c)
    (hx : opv s x = some (.als r lo k) := by exact rfl) (ho : find b r = some ⟨true, el, c, l.map f, true⟩ := by exact rfl) (hlk : lo + k ≤ l.length := by first | omega | (simp only [List.length_append, List.length_take, List.length_drop, List.length_replicate]; omega)) (hk : 0 < k := by omega) (hf : f z0 = zs := by exact rfl) (hz : Nat.beq zs.length c = true := by exact rfl)
    (hb' : del b r = b' := by exact rfl) (hg : guardGo (dstsOf ops) ⟨s, b, n, t, e⟩ g = some true := by exact rfl)
    (h : SeqL P ops rest ⟨s, (r, ⟨true, el, c, (l.take lo ++ List.replicate k z0 ++ l.drop (lo + k)).map f, true⟩) :: b', n, t, e⟩ Q) :
    SeqL P ops (⟨none, .call { callee := .builtin .clear, args := #[x], argTypes := #[st] }, ty, pos, aft, g⟩ :: rest) ⟨s, b, n, t, e⟩ Q := by
  subst hb'; refine SeqL.of_run hg fun C E X a hr => ?_; obtain ⟨i0, z, hi, hzz, hzs, hzr, hzf⟩ := zeroCellsAV_spec hze; have hsz := cellsOf_info hi; rw [hcl] at hsz; subst hsz; rw [Nat.beq_eq, hzs] at hz; simp only [List.length_map, Array.length_toList] at hz; have hund := elemOfSlice_eq hel; have hxv := hr.ev x; rw [opv_ev hx] at hxv; simp only [FV] at hxv; obtain ⟨hD, A0, n0, c0, A, cc, hH, hxe, hnc, _, hA⟩ := hxv; obtain ⟨a0, rfl, hsp, rfl⟩ := hA hk; obtain ⟨gb, cap, cur, hd1, hZ, hgb, hcap, hmax, hcs, htk, hrow, hwr⟩ := hr.rowAt ho (by simp; omega) hH; rw [hH] at hd1; simp only [Value.slice.injEq, List.length_map, Option.some.injEq] at hd1; obtain ⟨rfl, rfl, rfl⟩ := hd1; simp only [List.length_map] at hcap htk
  have hrows2 : FVr E.clear i0.size (List.replicate k zs) (List.replicate k z.cells.toList).flatten := by
    rw [hzs]; exact FVr_zeros (by simpa using hz) (by rw [← hzs]; exact hzf _) k
  have hl2 : (List.replicate k zs).length = k := List.length_replicate; obtain ⟨X', hrel⟩ := hwr lo _ _ (by rw [hl2, List.length_map]; omega) hrows2; have hnl := hrows2.length; rw [hl2] at hnl; have hzc : (Builtin.zeroCells z.cells k).toList = (List.replicate k z.cells.toList).flatten := range_rep z.cells k
  have hadd : (⟨gb, 0, none⟩ : Addr).add (lo * i0.size) = ⟨gb, lo * i0.size, none⟩ := by unfold Addr.add; split <;> simp_all
  have hst := run_storeCells_at P gb (lo * i0.size) el (List.replicate k z.cells.toList).flatten 0 cur E.w hgb (by rw [hnl, hcs, Nat.add_zero, ← Nat.add_mul]; exact Nat.mul_le_mul_right _ (by omega)) hrows2.one; rw [Nat.add_zero] at hst
  have hrun : (Builtin.clear_ #[st] ty #[.slice (some ((⟨gb, 0, none⟩ : Addr).add (lo * E.Z r))) k cc]).run P E.w = .ok (.tuple #[]) (E.w.setRow gb (cur.toList.take (lo * i0.size) ++ (List.replicate k z.cells.toList).flatten ++ cur.toList.drop (lo * i0.size + (List.replicate k z.cells.toList).flatten.length)).toArray) := by
    obtain ⟨k', rfl⟩ : ∃ k', k = k' + 1 := ⟨k - 1, by omega⟩; rw [hZ, hadd]
    simp [Builtin.clear_, run_underlying hund, hzr, hzc, hst]
  refine ⟨.tuple #[], _, X', _, ?_, hrel, ?_⟩
  · unfold execOp
    simp only [resolve, invoke, builtin, Sem.run_bind, Sem.run_pure, Result.andThen_ok, List.map_toArray, List.map_cons, List.map_nil, hxe, hrun]
  · rw [hl2]; simp only [St.put]; rw [← hf, ← List.map_replicate, ← List.map_take, ← List.map_drop, ← List.map_append, ← List.map_append]; exact h
theorem Wk.cut {T : Type} {f : T → List AV} {l : List T} {el c m : Nat} {zs : List AV} (d : Nat) (b' : List (Nat × Obj)) (hze : zeroCellsAV P el = some zs) (hcl : P.cellsOf el = c) (hs : find s d = some (.als r 0 m) := by exact rfl) (ho : find b r = some ⟨true, el, c, l.map f, true⟩ := by exact rfl) (hm : m ≤ l.length := by first | omega | (simp only [List.length_append, List.length_take, List.length_drop, List.length_replicate]; omega)) (hb' : del b r = b' := by exact rfl) :
    Wk ⟨s, b, n, t, e⟩ ⟨(d, .als n 0 (l.take m).length) :: s, (n, ⟨true, el, c, (l.take m).map f, true⟩) :: b', n + 1, t, e⟩ := by
  subst hb'; intro C E X a hr; obtain ⟨i0, z, hi, hzz, _, _, _⟩ := zeroCellsAV_spec hze; have hsz := cellsOf_info hi; rw [hcl] at hsz; subst hsz; obtain ⟨hD, hZ, hok, hrow⟩ := hr.objs r _ ho; have hxv := hr.slots d _ hs; simp only [FV] at hxv; obtain ⟨_, A0, n0, c0, A, cc, hH, hxe, hnc, hA, _⟩ := hxv; obtain ⟨rfl, rfl⟩ := hA rfl
  have hrow' : FVr (E.by true) i0.size ((l.take m).map f) ((X r).take (m * i0.size)) := by rw [List.map_take]; exact FVr.take m hrow
  have hlt : (l.take m).length = m := by rw [List.length_take]; omega
  have hok' : ObjOK E.w (.slice A m cc) ((X r).take (m * i0.size)) ⟨true, el, i0.size, (l.take m).map f, true⟩ := by
    simp only [ObjOK] at hok ⊢
    rcases hok with ⟨hd, h1, h2⟩ | ⟨g, cap, cur, hd, hg, hcap, hmax, hcs, htk⟩ | ⟨g, es, clk, hd, _⟩
    · rw [hH] at hd; simp only [Value.slice.injEq] at hd; obtain ⟨rfl, rfl, rfl⟩ := hd
      have hl0 : l = [] := by simpa using h1
      subst hl0
      have hm0 : m = 0 := by simpa using hm
      subst hm0; exact .inl ⟨rfl, rfl, by simp⟩
    · rw [hH] at hd; simp only [Value.slice.injEq, List.length_map] at hd; obtain ⟨rfl, rfl, rfl⟩ := hd; simp only [List.length_map] at hcap htk; refine .inr (.inl ⟨g, cc, cur, by rw [List.length_map, hlt], hg, by rw [List.length_map, hlt]; exact hnc, hmax, hcs, ?_⟩); rw [List.length_map, hlt, ← htk, List.take_take, Nat.min_eq_left (Nat.mul_le_mul_right _ hm)]
    · rw [hH] at hd; cases hd
  have hblk : ∀ k, blockOf (.slice A m cc) = some k → ∃ r' ob, some r = some r' ∧ find b r' = some ob ∧ blockOf (E.H r') = some k := fun k hk => ⟨r, _, rfl, ho, by rw [hH]; exact hk⟩; obtain ⟨E', X', e1, hrel, hval⟩ := hr.appended (hr0 := some r) (i := i0) (o1 := ⟨true, el, i0.size, (l.take m).map f, true⟩) (rows2 := []) (news := []) (c1 := true) (c2 := true) (w' := E.w) hrow' hblk (by simp [FVr]) (by simpa using hok') rfl (Tp.refl _) rfl (Nat.le_refl _) (fun _ _ _ => rfl) (fun k hk => ⟨.inl hk, hok'.lt hk⟩) ⟨_, _, _, rfl⟩; refine ⟨E', X', e1, ?_⟩; have hb1 : ((l.take m).map f ++ []) = (l.take m).map f := List.append_nil _; simp only [Bool.and_self, hb1, List.length_nil, Nat.add_zero, List.length_map] at hrel hval; refine ⟨?_, hrel.size, hrel.defers, hrel.objs, hrel.apart, hrel.stay, hrel.fresh, hrel.kept, hrel.mine, hrel.env, hrel.envD, hrel.base, hrel.grow, hrel.envk, hrel.glob⟩; intro s' v hv; rw [find_cons] at hv
  split at hv
  · rename_i e2
    simp only [Option.some.injEq] at hv; subst e2 hv; rw [hxe]; exact hval
  · exact hrel.slots s' v hv
end
end Go.AM
