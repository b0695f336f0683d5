/-
  The abstract machine, continued: strings.Builder: the check ahead of writing by the kit's contract; a row of bytes read as a string.
  Conditions: none; generic over the program.
-/
import Derived.Test.YthiockdlhehhoaaDoorAmOwn
import Derived.Lib.Builder
import Derived.Laws.Externs
import Derived.Laws.IdiomStrings
import Derived.Laws.BytesArg
namespace Go.AM
set_option linter.unusedVariables false
set_option linter.unusedSimpArgs false
set_option linter.unusedSectionVars false

section rules
variable {P : Program} {ops : Array Oper} {rest : List Oper} {s : List (Nat × AV)} {b : List (Nat × Obj)} {n t e id : Nat} {Q : St → Prop} {d ty : Nat} {pos : String} {aft : Array Edge} {g : Option (Nat × Bool)} {x y : Operand}
/-! ### Pointers -/

/-- A function without a body that hands back what it is handed. -/
theorem S.same {f : FuncId} {fn : Func} {ts : Array TypeId} {v : AV} (hf : P.funcs[f]? = some fn) (hname : (fn.name == "runtime.NumGoroutine") = false) (hb : fn.body.isNone = true) (hnx : Extern.findNext fn = none) (he : Extern.find fn = some Extern.AbiNoEscape.same) (hx : opv s x = some v := by exact rfl) (hg : guardGo (dstsOf ops) ⟨s, b, n, t, e⟩ g = some true := by exact rfl) (hd : Nat.blt d t = true := by exact rfl) (h : SeqL P ops rest ⟨(d, v) :: s, b, n, t, e⟩ Q) :
    SeqL P ops (⟨some d, .call { callee := .value (.func f), args := #[x], argTypes := ts }, ty, pos, aft, g⟩ :: rest) ⟨s, b, n, t, e⟩ Q := by
  refine SeqL.of_run hg fun C E X a hr => ?_
  have hxv := hr.ev x
  rw [opv_ev hx] at hxv
  have hput := hr.put (some d) (fun d' e' => by cases e'; exact Nat.le_of_ble_eq_true hd) hxv
  have hcf := run_callFunc_extern hf hname hb hnx he #[a.eval x] E.w
  simp only [Go.Lib.run_noEscape, Result.andThen_ok] at hcf
  have hfe : a.eval (.func f) = .func (.func f) #[] #[] := rfl
  have hmap : Array.map a.eval #[x] = #[a.eval x] := by simp
  refine ⟨a.eval x, E, X, _, ?_, hput, h⟩
  unfold execOp
  simp only [resolve, Deferred.ofValue, hfe, hmap, Sem.run_bind, Sem.run_pure, Result.andThen_ok, invoke]
  generalize a.eval x = v' at hcf
  simpa using hcf
end rules
/-- What a builder's first cell holds: nothing, or its own place. -/
def bp (fl : Bool) (r : Nat) : AV := bif fl then .adr r 0 0 else .lit (.pointer none)
end Go.AM
namespace Go.AM
set_option linter.unusedVariables false
set_option linter.unusedSimpArgs false
set_option linter.unusedSectionVars false
theorem bytes_cells : ∀ (l : List UInt8) {E' : Env} {xs : List Value}, FVr E' 1 (l.map byteC) xs → xs = l.map fun x => .int .u8 (x.toNat : Int)
  | [], E', xs, h => by simpa [FVr] using h
  | q :: l, E', xs, h => by
    simp only [List.map_cons, FVr, byteC, FVc] at h
    obtain ⟨ys, zs, rfl, _, ⟨y, ys', rfl, _, h1, rfl⟩, h2⟩ := h
    simp only [FV] at h1
    rw [h1, bytes_cells l h2]
    rfl
section rules
variable {P : Program} {ops : Array Oper} {rest : List Oper} {s : List (Nat × AV)} {b : List (Nat × Obj)} {n t e id : Nat} {Q : St → Prop} {d ty : Nat} {pos : String} {aft : Array Edge} {g : Option (Nat × Bool)} {x y : Operand}
theorem S.cstr {src dst el e' r nn : Nat} {rows : List (List AV)} {cl : Bool} (l : List UInt8) (hs : P.underlying src = some (.slice e')) (he : P.underlying e' = some (.int .u8)) (hd' : P.underlying dst = some .string)
    (hx : opv s x = some (.als r 0 nn) := by exact rfl) (ho : find b r = some ⟨true, el, 1, rows, cl⟩ := by exact rfl) (hrows : rows = l.map byteC) (hn : nn = l.length := by first | rfl | (simp; done) | omega)
    (hg : guardGo (dstsOf ops) ⟨s, b, n, t, e⟩ g = some true := by exact rfl) (hd : Nat.blt d t = true := by exact rfl) (h : SeqL P ops rest ⟨(d, .lit (str l)) :: s, b, n, t, e⟩ Q) :
    SeqL P ops (⟨some d, .convert src dst x, ty, pos, aft, g⟩ :: rest) ⟨s, b, n, t, e⟩ Q := by
  subst hrows hn
  refine SeqL.of_run hg fun C E X a hr => ?_
  have hxv := hr.ev x
  rw [opv_ev hx] at hxv
  simp only [FV] at hxv
  obtain ⟨hD, A0, n0, c0, A, c, hH, hxe, hnc, hA, _⟩ := hxv
  obtain ⟨rfl, rfl⟩ := hA rfl
  obtain ⟨_, hZ, hok, hrow⟩ := hr.objs r _ ho
  have hput := hr.put (some d) (v := .lit (str l)) (y := str l) (fun d' e' => by cases e'; exact Nat.le_of_ble_eq_true hd) (by simp [FV])
  refine ⟨str l, E, X, _, ?_, hput, h⟩
  have hX := bytes_cells l hrow
  have key : (convert src dst (a.eval x)).run P E.w = .ok (str l) E.w := by
    rw [hxe]
    cases A with
    | none =>
      have hl : l = [] := by
        unfold ObjOK at hok
        rcases hok with ⟨_, h2, _⟩ | ⟨b2, cap, cur2, h1, _⟩ | ⟨b2, es, clk, h1, _⟩
        · simpa using h2
        · rw [hH] at h1; cases h1
        · rw [hH] at h1; cases h1
      subst hl
      exact run_convert_bytes_nil E.w src e' hs he _ _ dst hd'
    | some a0 =>
      obtain ⟨_, hh⟩ := hok.holds (show baseOf (E.H r) = some a0 by rw [hH]; rfl)
      refine run_convert_bytes_back E.w src dst e' a0 c l hs he hd' fun j hj => hh j _ ?_
      rw [hX, List.getElem?_map, List.getElem?_eq_getElem hj]
      rfl
  unfold execOp
  simp [key]
end rules
end Go.AM
