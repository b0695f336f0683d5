/-
  Part 11 of the proof: the abstract machine, proved sound over the model.
  Conditions: none.
-/
import Derived.Lib.Builder
import Derived.Laws.Externs
import Derived.Laws.IdiomStrings
import Derived.Laws.BytesArg
import Derived.Test.YtlpgjlnkfgacbaaGreatDoorX10
set_option linter.unusedVariables false
set_option linter.unusedSimpArgs false
set_option linter.unusedSectionVars false
namespace Go.AM
section rules
variable {P : Program} {ops : Array Oper} {rest : List Oper} {s : List (Nat × AV)} {b : List (Nat × Obj)} {n t e id : Nat} {Q : St → Prop} {d ty : Nat} {pos : String} {aft : Array Edge} {g : Option (Nat × Bool)} {x y : Operand}
end rules
end Go.AM
namespace Go.AM
theorem bytes_cells : ∀ (l : List UInt8) {E' : Env} {xs : List Value}, FVr E' 1 (l.map byteC) xs → xs = l.map fun x => .int .u8 (x.toNat : Int)
  | [], E', xs, h => by simpa [FVr] using h
  | q :: l, E', xs, h => by
    simp only [List.map_cons, FVr, byteC, FVc] at h; obtain ⟨ys, zs, rfl, _, ⟨y, ys', rfl, _, h1, rfl⟩, h2⟩ := h; simp only [FV] at h1; rw [h1, bytes_cells l h2]; rfl
section rules
variable {P : Program} {ops : Array Oper} {rest : List Oper} {s : List (Nat × AV)} {b : List (Nat × Obj)} {n t e id : Nat} {Q : St → Prop} {d ty : Nat} {pos : String} {aft : Array Edge} {g : Option (Nat × Bool)} {x y : Operand}
theorem S.cstr {src dst el e' r nn : Nat} {rows : List (List AV)} {cl : Bool} (l : List UInt8) (hs : P.underlying src = some (.slice e')) (he : P.underlying e' = some (.int .u8)) (hd' : P.underlying dst = some .string)
    (hx : Ba s x = some (.als r 0 nn) := by exact rfl) (ho : Aw b r = some ⟨true, el, 1, rows, cl⟩ := by exact rfl) (hrows : rows = l.map byteC) (hn : nn = l.length := by first | rfl | (simp; done) | omega)
    (hg : B0 (B8 ops) ⟨s, b, n, t, e⟩ g = some true := by exact rfl) (hd : Nat.blt d t = true := by exact rfl) (h : SeqL P ops rest ⟨(d, .lit (FQ l)) :: s, b, n, t, e⟩ Q) :
    SeqL P ops (⟨some d, .convert src dst x, ty, pos, aft, g⟩ :: rest) ⟨s, b, n, t, e⟩ Q := by
  subst hrows hn; refine SeqL.of_run hg fun C E X a hr => ?_; have hxv := hr.ev x; rw [AS hx] at hxv; simp only [FV] at hxv; obtain ⟨hD, A0, n0, c0, A, c, hH, hxe, hnc, hA, _⟩ := hxv; obtain ⟨rfl, rfl⟩ := hA rfl; obtain ⟨_, hZ, hok, hrow⟩ := hr.objs r _ ho; have hput := hr.put (some d) (v := .lit (FQ l)) (y := FQ l) (fun d' e' => by cases e'; exact Nat.le_of_ble_eq_true hd) (by simp [FV]); refine ⟨FQ l, E, X, _, ?_, hput, h⟩; have hX := bytes_cells l hrow
  have key : (convert src dst (a.eval x)).run P E.w = .ok (FQ l) E.w := by
    rw [hxe]
    cases A with
    | none =>
      have hl : l = [] := by
        unfold ObjOK at hok
        rcases hok with ⟨_, h2, _⟩ | ⟨b2, cap, cur2, h1, _⟩ | ⟨b2, es, clk, h1, _⟩
        · simpa using h2
        · rw [hH] at h1; cases h1
        rw [hH] at h1; cases h1
      subst hl; exact run_convert_bytes_nil E.w src e' hs he _ _ dst hd'
    | some a0 =>
      obtain ⟨_, hh⟩ := hok.holds (show D6 (E.H r) = some a0 by rw [hH]; rfl); refine run_convert_bytes_back E.w src dst e' a0 c l hs he hd' fun j hj => hh j _ ?_; rw [hX, List.getElem?_map, List.getElem?_eq_getElem hj]; rfl
  unfold execOp
  simp [key]
end rules
end Go.AM
namespace Go.AM
theorem pureOn_isAgg {P : Program} {t : TypeId} {b : Bool} (h : B9 P t = some b) : BK P (isAgg t) = some b := by
  unfold B9 at h
  cases hu : P.underlying t with
  | none => simp [hu] at h
  | some d =>
    simp only [hu, Option.map_some, Option.some.injEq] at h; subst h; simp only [isAgg, Bn, CW hu, Option.bind_some]
    cases d <;> rfl
theorem pureOn_sizeOf {P : Program} {t : TypeId} {c : Nat} (h : P.cellsOf t = c) (hc : c ≠ 0) : BK P (sizeOf t) = some c := by
  cases hi : P.info? t with
  | none => simp [Program.cellsOf, hi] at h; omega
  | some i =>
    have := CM hi; have hp : BK P program = some P := rfl; simp only [sizeOf, typeInfo, Bn, hp, Option.bind_some, hi, Bw]; rw [← h, this]
section rules
variable {P : Program} {s : List (Nat × AV)} {b : List (Nat × Obj)} {n t e id : Nat} {x y : Operand} {k : IntKind} {i : Int}
theorem q.ixg {st el len : Nat} {cs : List AV} {xs : List Value} {v : Value} (har : arrOf P st = some (len, el)) (hag : B9 P el = some false) (hcl : P.cellsOf el = 1) (hx : Ba s x = some (.agg cs) := by exact rfl) (hy : Ba s y = some (.lit (.int k i)) := by exact rfl) (hxs : CU cs = some xs := by exact rfl)
    (h0 : 0 ≤ i ∧ i < (len : Int) := by first | decide | omega) (hv : xs[i.toNat]? = some v := by exact rfl) : Az P ⟨s, b, n, t, e⟩ id (.index st x y) = some (.lit v, []) := by
  have hu := arrOf_eq har; have ha : BK P (asIntOf (.int k i)) = some (k, i) := rfl
  have : idx P st (.agg xs.toArray) (.int k i) = some v := by
    simp only [idx, Instr.index, Bn, ha, Option.bind_some, CW hu, h0, and_self, if_true, pureOn_sizeOf hcl (by decide), part, pureOn_isAgg hag, Nat.mul_one, List.getElem?_toArray, hv, Bool.false_eq_true, if_false, Bw]
  simp only [Az, AS hx, AS hy, Cq, hxs, Option.map_some, this, Db]
theorem Wk.forget {b : List (Nat × Obj)} (ds : List Nat) : Wk ⟨s, b, n, t, e⟩ ⟨hide ds s, b, n, t, e⟩ :=
  Wk.sub (fun j v hv => by
    simp only [find_hide] at hv
    split at hv
    · cases hv
    · exact hv) (fun _ _ h => h) (Nat.le_refl _) rfl rfl
end rules
end Go.AM
namespace Go.AM
theorem pure_partA {P : Program} {u c : Nat} (ha : B9 P u = some true) (hcl : P.cellsOf u = c) (hc : c ≠ 0) (cs : Array Value) (off : Nat) : BK P (part u cs off) = some (.agg (cs.extract off (off + c))) := by
  simp only [part, Bn, pureOn_isAgg ha, Option.bind_some, if_true, pureOn_sizeOf hcl hc, Bw]
theorem pure_eqT {P : Program} {u : Nat} {gs : List (Nat × Nat)} {xs ys : List AV} {vs ws : List Value} {r : Bool} (D : Nat) (hU : EqT P u gs) (h1 : CU xs = some vs) (h2 : CU ys = some ws) (hr : eqG P xs ys gs = some r) : BK P (Op.equalIn (D + 1 + 1) u (.agg vs.toArray) (.agg ws.toArray)) = some r := by
  obtain ⟨fa, hu, hfs, hall⟩ := hU.u; rw [pure_struct _ _ _ _ hu hU.p]; exact pure_eqFields (eqF_of_G h1 h2 hall (by rw [hfs]; exact hr))
theorem pure_eqT2 {P : Program} {t u c : Nat} {gs : List (Nat × Nat)} {xa xb ya yb : List AV} {va vb wa wb : List Value} {r1 r2 : Bool} (D : Nat) (hT : EqT P t [(0, u), (c, u)]) (hU : EqT P u gs) (ha : B9 P u = some true) (hcl : P.cellsOf u = c) (hc : c ≠ 0)
    (h1 : CU xa = some va) (h2 : CU xb = some vb) (k1 : CU ya = some wa) (k2 : CU yb = some wb) (l1 : va.length = c) (l2 : vb.length = c) (m1 : wa.length = c) (m2 : wb.length = c) (hr1 : eqG P xa ya gs = some r1) (hr2 : eqG P xb yb gs = some r2) :
    BK P (Op.equalIn (D + 1 + 1 + 1) t (.agg (va ++ vb).toArray) (.agg (wa ++ wb).toArray)) = some (r1 && r2) := by
  obtain ⟨fa, hu, hfs, hall⟩ := hT.u; rw [pure_struct _ _ _ _ hu hT.p]; have e1 := pure_eqT D hU h1 k1 hr1; have e2 := pure_eqT D hU h2 k2 hr2
  generalize fa.toList = fl at hfs hall
  rcases fl with _ | ⟨f1, _ | ⟨f2, _ | ⟨f3, fl⟩⟩⟩
  · simp at hfs
  · simp at hfs
  · simp only [List.map_cons, List.map_nil, List.cons.injEq, Prod.mk.injEq, and_true] at hfs; obtain ⟨⟨o1, t1⟩, o2, t2⟩ := hfs; simp only [List.all_cons, List.all_nil, Bool.and_true, Bool.and_eq_true, bne_iff_ne] at hall
    have x1 : ((va ++ vb).toArray).extract 0 (0 + c) = va.toArray := by apply Array.ext'; simp [← l1]
    have x2 : ((va ++ vb).toArray).extract c (c + c) = vb.toArray := by apply Array.ext'; simp [← l1]; rw [List.take_of_length_le]; omega
    have y1 : ((wa ++ wb).toArray).extract 0 (0 + c) = wa.toArray := by apply Array.ext'; simp [← m1]
    have y2 : ((wa ++ wb).toArray).extract c (c + c) = wb.toArray := by apply Array.ext'; simp [← m1]; rw [List.take_of_length_le]; omega
    simp only [Op.eqFields, ne_eq, hall.1, hall.2, not_false_eq_true, if_true, Bn, o1, t1, o2, t2, pure_partA ha hcl hc, Option.bind_some, x1, y1, x2, y2, e1, e2]
    cases r1
    · simp [Bw]
    cases r2 <;> simp [Bn, pure_partA ha hcl hc, x2, y2, e2, Bw]
  simp at hfs
section rules
variable {P : Program} {s : List (Nat × AV)} {b : List (Nat × Obj)} {n t e id ty d : Nat} {x y : Operand}
end rules
end Go.AM
