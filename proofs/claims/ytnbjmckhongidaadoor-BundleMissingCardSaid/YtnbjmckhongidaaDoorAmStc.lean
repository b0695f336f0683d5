/-
  The abstract machine, continued: a row of bytes turned into a string.
  Conditions: none; generic over the program.
-/
import Derived.Test.YtnbjmckhongidaaDoorAmBld
import Derived.Laws.IdiomStrings
import Derived.Laws.BytesArg
namespace Go.AM
set_option linter.unusedVariables false
set_option linter.unusedSimpArgs false
set_option linter.unusedSectionVars false
theorem bytes_cells : ∀ (l : List UInt8) {E' : Env} {xs : List Value}, FVr E' 1 (l.map byteC) xs → xs = l.map fun x => .int .u8 (x.toNat : Int)
  | [], E', xs, h => by simpa [FVr] using h
  | q :: l, E', xs, h => by
    simp only [List.map_cons, FVr, byteC, FVc] at h
    obtain ⟨ys, zs, rfl, _, ⟨y, ys', rfl, _, h1, rfl⟩, h2⟩ := h
    simp only [FV] at h1
    rw [h1, bytes_cells l h2]
    rfl
section rules
variable {P : Program} {ops : Array Oper} {rest : List Oper} {s : List (Nat × AV)} {b : List (Nat × Obj)} {n t e id : Nat} {Q : St → Prop} {d ty : Nat} {pos : String} {aft : Array Edge} {g : Option (Nat × Bool)} {x y : Operand}
theorem S.cstr {src dst el e' r nn : Nat} {rows : List (List AV)} {cl : Bool} (l : List UInt8) (hs : P.underlying src = some (.slice e')) (he : P.underlying e' = some (.int .u8)) (hd' : P.underlying dst = some .string)
    (hx : opv s x = some (.als r 0 nn) := by exact rfl) (ho : find b r = some ⟨true, el, 1, rows, cl⟩ := by exact rfl) (hrows : rows = l.map byteC) (hn : nn = l.length := by first | rfl | (simp; done) | omega)
    (hg : guardGo (dstsOf ops) ⟨s, b, n, t, e⟩ g = some true := by exact rfl) (hd : Nat.blt d t = true := by exact rfl) (h : SeqL P ops rest ⟨(d, .lit (str l)) :: s, b, n, t, e⟩ Q) :
    SeqL P ops (⟨some d, .convert src dst x, ty, pos, aft, g⟩ :: rest) ⟨s, b, n, t, e⟩ Q := by
  subst hrows hn
  refine SeqL.of_run hg fun C E X a hr => ?_
  have hxv := hr.ev x
  rw [opv_ev hx] at hxv
  simp only [FV] at hxv
  obtain ⟨hD, A0, n0, c0, A, c, hH, hxe, hnc, hA, _⟩ := hxv
  obtain ⟨rfl, rfl⟩ := hA rfl
  obtain ⟨_, hZ, hok, hrow⟩ := hr.objs r _ ho
  have hput := hr.put (some d) (v := .lit (str l)) (y := str l) (fun d' e' => by cases e'; exact Nat.le_of_ble_eq_true hd) (by simp [FV])
  refine ⟨str l, E, X, _, ?_, hput, h⟩
  have hX := bytes_cells l hrow
  have key : (convert src dst (a.eval x)).run P E.w = .ok (str l) E.w := by
    rw [hxe]
    cases A with
    | none =>
      have hl : l = [] := by
        unfold ObjOK at hok
        rcases hok with ⟨_, h2, _⟩ | ⟨b2, cap, cur2, h1, _⟩ | ⟨b2, es, clk, h1, _⟩
        · simpa using h2
        · rw [hH] at h1; cases h1
        · rw [hH] at h1; cases h1
      subst hl
      exact run_convert_bytes_nil E.w src e' hs he _ _ dst hd'
    | some a0 =>
      obtain ⟨_, hh⟩ := hok.holds (show baseOf (E.H r) = some a0 by rw [hH]; rfl)
      refine run_convert_bytes_back E.w src dst e' a0 c l hs he hd' fun j hj => hh j _ ?_
      rw [hX, List.getElem?_map, List.getElem?_eq_getElem hj]
      rfl
  unfold execOp
  simp [key]
end rules
end Go.AM
