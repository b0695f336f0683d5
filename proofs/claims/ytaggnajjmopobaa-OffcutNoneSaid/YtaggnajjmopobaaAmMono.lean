/-
  The abstract machine, continued: the tape is only ever read on.
  Conditions: none; generic over the program.
-/
import Derived.Calls
namespace Go.AM
open Go
set_option linter.unusedVariables false
set_option linter.unusedSimpArgs false

theorem viewStore_drawn {p : Program} {w : World} {a : Addr} {u : TypeId} {k : Addr} {v : Value} {at_ : Bool} {r : World × List Addr} (h : w.viewStore p a u k v at_ = .ok r) : r.1.drawn = w.drawn := by
  unfold World.viewStore at h
  simp only [bind, Except.bind, pure, Except.pure, throw, throwThe, MonadExceptOf.throw] at h
  repeat (first | (split at h) | (cases h; rfl) | cases h)

theorem farStore_drawn {p : Program} {w : World} {a : Addr} {v : Value} {at_ : Bool} {w' : World} {l : List Addr} (h : w.farStore p a v at_ = .ok (w', l)) : w'.drawn = w.drawn := by
  unfold World.farStore at h
  split at h
  · split at h
    · rename_i r hr
      have := viewStore_drawn hr
      cases h
      exact this
    · cases h
  · cases h

theorem ask_drawn {α : Type} : ∀ (x : Ask α) (w : World), w.drawn ≤ (w.ask x).2.drawn
  | .done a, w => Nat.le_refl _
  | .ask what range k, w => by
    unfold World.ask
    dsimp only
    split
    · exact ask_drawn (k 0) w
    · exact Nat.le_trans (Nat.le_succ _) (ask_drawn _ { w with drawn := w.drawn + 1 })

theorem sys_drawn (w : World) (c : Sys) : w.drawn ≤ (w.sys c).2.drawn := by
  have h := ask_drawn (Kernel.perform c w.os) w
  unfold World.sys
  split
  · exact Nat.le_refl _
  · rename_i heq
    rw [heq] at h
    exact h

/-- What a run leaves behind has drawn no less. -/
def RLe {α : Type} (d : Nat) : Result α → Prop
  | .ok _ w => d ≤ w.drawn
  | .halt _ w => d ≤ w.drawn
theorem RLe.mono {α : Type} {d d' : Nat} {r : Result α} (h : RLe d r) (hd : d' ≤ d) : RLe d' r := by cases r <;> exact Nat.le_trans hd h

theorem freeze_drawn (w : World) (a : Addr) (n : Nat) : (w.freeze a n).drawn = w.drawn := by
  unfold World.freeze; split <;> rfl

theorem run_le (p : Program) {α : Type} (e : Sem α) : ∀ w : World, RLe w.drawn (e.run p w) := by
  induction e with
  | pure a => intro w; exact Nat.le_refl _
  | load m a k ih =>
    intro w
    unfold Sem.run
    split
    · exact ih _ w
    · split
      · exact ih _ w
      · exact Nat.le_refl _
  | store m a v k ih =>
    intro w
    cases v <;> simp only [Sem.run] <;> first
      | exact Nat.le_refl _
      | (split
         · split
           · exact Nat.le_refl _
           · exact ih (w.setCell a _)
         · split
           · rename_i heq
             exact (ih _).mono (Nat.le_of_eq (farStore_drawn heq).symm)
           · exact Nat.le_refl _)
  | new o k ih => intro w; exact ih _ _
  | shape r k ih => intro w; exact ih _ _
  | freeze a n k ih => intro w; exact (ih _).mono (Nat.le_of_eq (freeze_drawn w a n).symm)
  | frozen a k ih => intro w; exact ih _ _
  | getObj r k ih =>
    intro w
    unfold Sem.run
    split
    · exact Nat.le_refl _
    · exact ih _ w
    · exact Nat.le_refl _
  | setObj r o k ih =>
    intro w
    unfold Sem.run
    split
    · exact Nat.le_refl _
    · exact ih { w with heap := w.heap.setIfInBounds r o }
    · exact Nat.le_refl _
  | choose q k ih =>
    intro w
    unfold Sem.run
    split
    · exact ih _ w
    · exact (ih _ { w with drawn := w.drawn + 1 }).mono (Nat.le_succ _)
  | sys c k ih => intro w; exact (ih _ _).mono (sys_drawn w c)
  | program k ih => intro w; exact ih _ _
  | mark m k ih => intro w; exact ih _
  | halt h => intro w; exact Nat.le_refl _

theorem runT_le (p : Program) {α : Type} (e : Sem α) : ∀ (w : World) (es : Array Event), RLe w.drawn (e.runT p w es).1 := by
  induction e with
  | pure a => intro w es; exact Nat.le_refl _
  | load m a k ih =>
    intro w es
    unfold Sem.runT
    split
    · exact ih _ w _
    · split
      · exact ih _ w _
      · exact Nat.le_refl _
  | store m a v k ih =>
    intro w es
    cases v <;> simp only [Sem.runT] <;> first
      | exact Nat.le_refl _
      | (split
         · split
           · exact Nat.le_refl _
           · exact ih (w.setCell a _) _
         · split
           · rename_i heq
             exact (ih _ _).mono (Nat.le_of_eq (farStore_drawn heq).symm)
           · exact Nat.le_refl _)
  | new o k ih => intro w es; exact ih _ _ _
  | shape r k ih => intro w es; exact ih _ _ _
  | freeze a n k ih => intro w es; exact (ih _ _).mono (Nat.le_of_eq (freeze_drawn w a n).symm)
  | frozen a k ih => intro w es; exact ih _ _ _
  | getObj r k ih =>
    intro w es
    unfold Sem.runT
    split
    · exact Nat.le_refl _
    · exact ih _ w _
    · exact Nat.le_refl _
  | setObj r o k ih =>
    intro w es
    unfold Sem.runT
    split
    · exact Nat.le_refl _
    · exact ih { w with heap := w.heap.setIfInBounds r o } _
    · exact Nat.le_refl _
  | choose q k ih =>
    intro w es
    unfold Sem.runT
    split
    · exact ih _ w _
    · exact (ih _ { w with drawn := w.drawn + 1 } _).mono (Nat.le_succ _)
  | sys c k ih => intro w es; exact (ih _ _ _).mono (sys_drawn w c)
  | program k ih => intro w es; exact ih _ _ _
  | mark m k ih => intro w es; exact ih _ _
  | halt h => intro w es; exact Nat.le_refl _

/-! ### Steps -/
def GLe (d : Nat) : GStep → Prop
  | .go _ w _ => d ≤ w.drawn
  | .comm _ _ _ _ w _ => d ≤ w.drawn
  | .spawn _ _ w _ => d ≤ w.drawn
  | .count _ w _ => d ≤ w.drawn
  | .timer _ _ w _ => d ≤ w.drawn
  | .alone _ _ w _ => d ≤ w.drawn
  | .newcoro _ _ _ w _ => d ≤ w.drawn
  | .coroswitch _ _ _ w _ => d ≤ w.drawn
  | .collect _ w _ => d ≤ w.drawn
  | .watch _ w _ => d ≤ w.drawn
  | .ended _ _ _ => True
theorem GLe.after {d : Nat} {s : GStep} (h : GLe d s) (es : Array Event) : GLe d (s.after es) := by cases s <;> exact h
theorem GLe.mono {d d' : Nat} {s : GStep} (h : GLe d s) (hd : d' ≤ d) : GLe d' s := by cases s <;> first | trivial | exact Nat.le_trans hd h
theorem GLe.ite {d : Nat} {c : Prop} [Decidable c] {x y : GStep} (h1 : GLe d x) (h2 : GLe d y) : GLe d (if c then x else y) := by split <;> assumption
theorem run_ok {p : Program} {α : Type} {e : Sem α} {w w' : World} {v : α} (h : e.run p w = .ok v w') : w.drawn ≤ w'.drawn := by
  have := run_le p e w; rw [h] at this; exact this
theorem run_halt {p : Program} {α : Type} {e : Sem α} {w w' : World} {v : Halt} (h : e.run p w = .halt v w') : w.drawn ≤ w'.drawn := by
  have := run_le p e w; rw [h] at this; exact this
theorem runT_ok {p : Program} {α : Type} {e : Sem α} {w w' : World} {v : α} {es es' : Array Event} (h : e.runT p w es = (.ok v w', es')) : w.drawn ≤ w'.drawn := by
  have := runT_le p e w es; rw [h] at this; exact this
theorem runT_halt {p : Program} {α : Type} {e : Sem α} {w w' : World} {v : Halt} {es es' : Array Event} (h : e.runT p w es = (.halt v w', es')) : w.drawn ≤ w'.drawn := by
  have := runT_le p e w es; rw [h] at this; exact this

theorem runT1_ok {p : Program} {α : Type} {e : Sem α} {w w' : World} {v : α} {es : Array Event} (h : (e.runT p w es).1 = .ok v w') : w.drawn ≤ w'.drawn := by
  have := runT_le p e w es; rw [h] at this; exact this
theorem runT1_halt {p : Program} {α : Type} {e : Sem α} {w w' : World} {v : Halt} {es : Array Event} (h : (e.runT p w es).1 = .halt v w') : w.drawn ≤ w'.drawn := by
  have := runT_le p e w es; rw [h] at this; exact this

/-- What is left when all cases are split. -/
macro "gle" : tactic => `(tactic| first
  | trivial
  | exact Nat.le_refl _
  | exact run_ok (by assumption) | exact run_halt (by assumption) | exact runT_ok (by assumption) | exact runT_halt (by assumption) | exact runT1_ok (by assumption) | exact runT1_halt (by assumption)
  | assumption)

theorem endWith_le (w : World) (fd : Nat) (t : ByteArray) (o : Outcome) {d : Nat} : GLe d (endWith w fd t o) := by
  unfold endWith; dsimp only
  split
  · split <;> trivial
  · trivial
  · trivial
theorem endThrow_le (fr : Frame) (m : String) (w : World) : GLe w.drawn (endThrow fr m w) := Nat.le_refl _
theorem endPrinting_le (p : Program) (fr : Frame) (v : Value) (w : World) : GLe w.drawn (endPrinting p fr v w) := by
  unfold endPrinting
  dsimp only
  split
  · gle
  · trivial
theorem endFatal_le (p : Program) (fr : Frame) (cs : List Frame) (dy : Option Dying) (m : String) (w : World) : GLe w.drawn (endFatal p fr cs dy m w) := by
  unfold endFatal
  dsimp only
  split
  · rename_i h; exact run_ok h
  · trivial
  · trivial
theorem writeOn_le (p : Program) (fr : Frame) (d : Dying) (f : Fatal) (w : World) : GLe w.drawn (writeOn p fr d f w) := by
  unfold writeOn
  dsimp only
  split
  · trivial
  · split <;> gle
theorem die_le (p : Program) (fr : Frame) (d : Dying) (w : World) : GLe w.drawn (die p fr d w) := by
  unfold die
  dsimp only
  split
  · exact writeOn_le p fr d _ w
  · split
    · split
      · gle
      · exact endWith_le _ _ _ _
    · split
      · gle
      · split <;> gle
      · refine GLe.after ?_ _
        split <;> first | gle | (rename_i h; exact (endPrinting_le _ _ _ _).mono (runT1_halt h))
      · trivial
theorem doReturn_le (p : Program) (main : Bool) (fr : Frame) (cs : List Frame) (dy : Option Dying) (v : Value) (w : World) : GLe w.drawn (doReturn p main fr cs dy v w) := by
  unfold doReturn
  dsimp only
  split
  · split <;> gle
  · split
    · gle
    · trivial
    · split
      · gle
      · split <;> gle
theorem callDeferred_le (p : Program) (fr : Frame) (cs : List Frame) (dy : Option Dying) (d : Deferred) (w : World) : GLe w.drawn (callDeferred p fr cs dy d w) := by
  unfold callDeferred
  dsimp only
  refine GLe.ite ?_ ?_
  · trivial
  · refine GLe.after ?_ _
    split <;> first
      | gle
      | (split <;> gle)
      | (rename_i h; exact (endFatal_le _ _ _ _ _ _).mono (runT1_halt h))
      | (rename_i h; exact (endThrow_le _ _ _).mono (runT1_halt h))
theorem unwind_le (p : Program) (main : Bool) (fr : Frame) (cs : List Frame) (dy : Option Dying) (w : World) : GLe w.drawn (unwind p main fr cs dy w) := by
  unfold unwind
  dsimp only
  split
  · refine GLe.after ?_ _
    split <;> gle
  · exact callDeferred_le _ _ _ _ _ _
  · split
    · trivial
    · refine GLe.ite ?_ ?_
      · trivial
      · split
        · gle
        · split
          · refine GLe.ite ?_ ?_
            · gle
            · split <;> gle
          · split
            · exact endPrinting_le _ _ _ _
            · trivial
    · split
      · exact doReturn_le _ _ _ _ _ _ _
      · refine GLe.after ?_ _
        split <;> first
          | gle
          | (rename_i h; exact (doReturn_le _ _ _ _ _ _ _).mono (runT1_ok h))
theorem early_le (p : Program) (fr : Frame) (cs : List Frame) (dy : Option Dying) (g : Nat) (w : World) : GLe w.drawn (early p fr cs dy g w) := by
  have hn : ∀ w' : World, w.drawn ≤ w'.drawn → GLe w.drawn (match w'.heap[g]? with
    | some (.pending c elem) => .go { frame := fr, callers := cs, status := .running, dying := dy } { w' with heap := w'.heap.setIfInBounds g (.cells c elem) }
    | _ => .ended (.stuck "early: the variable does not wait" (fr.pos p)) w' : GStep) := by
    intro w' h
    split
    · exact h
    · trivial
  unfold early
  dsimp only
  refine GLe.ite (hn w (Nat.le_refl _)) ?_
  split
  · trivial
  · refine GLe.ite (hn w (Nat.le_refl _)) (GLe.ite (hn w (Nat.le_refl _)) ?_)
    split
    · trivial
    · gle
    · trivial
    · exact hn w (Nat.le_refl _)
    · refine GLe.ite ?_ (GLe.ite (hn w (Nat.le_refl _)) ?_)
      · gle
      · split
        · rename_i h; exact hn _ (run_ok h)
        · rename_i h; exact run_ok h
        · trivial
theorem appRes_le {p : Program} {s : Sem Next} {w : World} {b : Bool} {es : Array Event} : RLe w.drawn (if b then s.runT p w es else (s.run p w, es)).1 := by
  cases b
  · exact run_le p s w
  · exact runT_le p s w es
theorem RLe.ok {α : Type} {d : Nat} {r : Result α} {v : α} {w : World} (h : RLe d r) (e : r = .ok v w) : d ≤ w.drawn := by rw [e] at h; exact h
theorem RLe.halt {α : Type} {d : Nat} {r : Result α} {v : Halt} {w : World} (h : RLe d r) (e : r = .halt v w) : d ≤ w.drawn := by rw [e] at h; exact h
theorem apply_le (p : Program) (lst : Bool) (fr : Frame) (cs : List Frame) (dy : Option Dying) (s : Sem Next) (w : World) : GLe w.drawn (stepG.apply p lst fr cs dy s w) := by
  have hr := appRes_le (p := p) (s := s) (w := w) (b := lst) (es := #[])
  unfold stepG.apply
  dsimp only
  generalize (if lst = true then Sem.runT p s w #[] else (Sem.run p s w, #[])) = x at hr ⊢
  obtain ⟨r, es⟩ := x
  dsimp only at hr ⊢
  refine GLe.after ?_ _
  cases r with
  | ok v w' =>
    have hw : w.drawn ≤ w'.drawn := hr
    cases v <;> dsimp only <;> first
      | exact hw
      | (split <;> exact hw)
      | (refine GLe.ite ?_ ?_ <;> exact hw)
  | halt h w' =>
    have hw : w.drawn ≤ w'.drawn := hr
    split <;> first
      | trivial
      | (rename_i e; cases e; done)
      | (rename_i e; cases e; exact hw)
      | (rename_i e; cases e; exact (endFatal_le _ _ _ _ _ _).mono hw)
      | (rename_i e; cases e; exact (endThrow_le _ _ _).mono hw)
      | (rename_i e; cases e; exact (early_le _ _ _ _ _ _).mono hw)
theorem oper_le (p : Program) (lst : Bool) (fr : Frame) (cs : List Frame) (dy : Option Dying) (w : World) : GLe w.drawn (stepG.oper p lst fr cs dy w) := by
  unfold stepG.oper
  split
  · trivial
  · split <;> exact apply_le _ _ _ _ _ _ _
theorem exec_le (p : Program) (main lst : Bool) (fr : Frame) (cs : List Frame) (dy : Option Dying) (w : World) : GLe w.drawn (stepG.exec p main lst fr cs dy w) := by
  have hleave : ∀ j : Option Code, GLe w.drawn (match fr.roundOf with
      | none => if j matches none | some .ret then GStep.go { frame := { fr with mode := .returning }, callers := cs, status := .running, dying := dy } w else .ended (.stuck "exit, goto: no such block or label" (fr.pos p)) w
      | some l => GStep.after (seen p fr.fn ((Instr.endRound l j).runT p w #[]).2) <| match ((Instr.endRound l j).runT p w #[]).1 with
        | .ok v w => doReturn p main fr cs dy v w
        | .halt _ w => .ended (.stuck "range over a function: no such loop" (fr.pos p)) w : GStep) := by
    intro j
    split
    · exact GLe.ite (Nat.le_refl _) trivial
    · refine GLe.after ?_ _
      split
      · rename_i h; exact (doReturn_le _ _ _ _ _ _ _).mono (runT1_ok h)
      · trivial
  unfold stepG.exec
  dsimp only
  split
  · exact hleave none
  · exact hleave (some .ret)
  · gle
  · gle
  · gle
  · gle
  · gle
  · split <;> gle
  · gle
  · gle
  · gle
  · gle
  · rename_i id k _
    cases exitTo id k with
    | none => exact hleave (some (.exit id))
    | some t => exact Nat.le_refl _
  · rename_i l k _
    cases gotoIn l k with
    | none => exact hleave (some (.goto l))
    | some t => exact Nat.le_refl _
  · refine GLe.after ?_ _
    split
    · rename_i h; exact (apply_le _ _ _ _ _ _ _).mono (runT1_ok h)
    · trivial
  · trivial
  · exact apply_le _ _ _ _ _ _ _
  · refine GLe.after ?_ _
    split <;> gle
  · trivial
  · exact apply_le _ _ _ _ _ _ _
  · rename_i row args _ _
    cases Extern.next row with
    | none => trivial
    | some e => exact apply_le _ _ _ _ _ _ _
  · refine GLe.ite ?_ ?_
    · gle
    · split <;> gle
  · gle
  · exact GLe.ite (oper_le _ _ _ _ _ _) (Nat.le_refl _)
theorem stepG_le (p : Program) (main : Bool) (g : Goroutine) (w : World) (lst : Bool) : GLe w.drawn (stepG p main g w lst) := by
  unfold stepG
  dsimp only
  split
  · exact die_le _ _ _ _
  · exact exec_le _ _ _ _ _ _ _
  · exact unwind_le _ _ _ _ _ _
/-! ### The machine -/
def SLe (d : Nat) : Stepped → Prop
  | .next m => d ≤ m.world.drawn
  | .ended _ _ => True
theorem SLe.mono {d d' : Nat} {s : Stepped} (h : SLe d s) (hd : d' ≤ d) : SLe d' s := by cases s <;> first | trivial | exact Nat.le_trans hd h
theorem SLe.ite {d : Nat} {c : Prop} [Decidable c] {x y : Stepped} (h1 : SLe d x) (h2 : SLe d y) : SLe d (if c then x else y) := by split <;> assumption
theorem SLe.ite1 {d : Nat} {c : Prop} [Decidable c] {x y : Stepped × Array MemOp} (h1 : SLe d x.1) (h2 : SLe d y.1) : SLe d (if c then x else y).1 := by split <;> assumption
theorem waitingAt_drawn {rest : Rest} {cases : Array CommCase} {w w' : World} (h : waitingAt rest cases w = some w') : w'.drawn = w.drawn := by
  unfold waitingAt at h
  split at h
  · split at h
    · cases h; rfl
    · cases h
  · cases h; rfl
theorem communicate_le (p : Program) (rest : Rest) (gs : Array Goroutine) (i : Nat) (g : Goroutine) (cases : Array CommCase) (b : Bool) (sh : CommShape) (w : World) : SLe w.drawn (communicate p rest gs i g cases b sh w).1 := by
  unfold communicate
  dsimp only
  refine SLe.ite1 trivial (SLe.ite1 (SLe.ite1 ?_ (Nat.le_refl _)) ?_)
  · split
    · rename_i h; exact Nat.le_of_eq (waitingAt_drawn h).symm
    · trivial
  · split
    · trivial
    · rename_i h
      have hw := run_ok h
      split
      · split
        · rename_i h2; exact Nat.le_trans hw (run_halt h2)
        · trivial
      · exact hw
      · exact hw
      · split
        · exact hw
        · split
          · rename_i h2; have h3 := run_ok h2; exact Nat.le_trans hw h3
          · trivial
      · exact hw
      · exact hw
      · trivial
theorem look_le (p : Program) (gs : Array Goroutine) (rest : Rest) (w : World) : SLe w.drawn (look p gs rest w) := by
  unfold look
  dsimp only
  split
  · refine SLe.ite trivial ?_
    split
    · trivial
    · split
      · rename_i h; have h3 := run_ok h; exact h3
      · trivial
      · trivial
  · trivial
theorem serve_le (p : Program) (m : Machine) (k : Nat) : SLe m.world.drawn (serve p m k) := by
  unfold serve
  dsimp only
  split
  · trivial
  · exact Nat.le_refl _
  · split
    · trivial
    · exact Nat.le_refl _
theorem drain_drawn (w : World) (c : Nat) : (drain w c).2.drawn = w.drawn := by
  unfold drain; split <;> rfl
theorem retime_drawn (m : Machine) (k : Nat) (t : Timer) (a b : Nat) : (retime m k t a b).2.world.drawn = m.world.drawn := by
  unfold retime
  dsimp only
  split
  · exact drain_drawn _ _
  · rfl
theorem named_drawn {m : Machine} {var : Addr} {f : Nat → Timer → Value × Machine} {d : Nat} (hf : ∀ k t, (f k t).2.world.drawn = d) {r : Value × Machine} (h : timerOp.named m var f = .ok r) : r.2.world.drawn = d := by
  unfold timerOp.named at h
  split at h
  · cases h; exact hf _ _
  · cases h
theorem opened_drawn {m m' : Machine} {var : Addr} (h : timerOp.opened m var = some m') : m'.world.drawn = m.world.drawn := by
  unfold timerOp.opened at h
  split at h
  · split at h
    · cases h; rfl
    · cases h
  · cases h; rfl
theorem timerOp_drawn {m : Machine} {op : TimerOp} {r : Value × Machine} (h : timerOp m op = .ok r) : r.2.world.drawn = m.world.drawn := by
  unfold timerOp at h
  split at h
  · split at h
    · cases h; rfl
    · split at h
      · split at h
        · cases h
        · cases h; rfl
      · cases h
  · exact named_drawn (fun k t => retime_drawn _ _ _ _ _) h
  · split at h
    · rename_i h2
      exact named_drawn (fun k t => (retime_drawn _ _ _ _ _).trans (opened_drawn h2)) h
    · cases h
  · dsimp only at h
    cases h; rfl
theorem runT'_le (p : Program) (m : Machine) (i : Nat) (lst : Bool) : SLe m.world.drawn (Go.runT p m i lst).1 := by
  unfold Go.runT
  dsimp only
  have hs := stepG_le p (i == 0) (m.gs.swapAt! i { (default : Goroutine) with status := .finished }).1 m.world lst
  generalize (m.gs.swapAt! i { (default : Goroutine) with status := .finished }) = sw at hs ⊢
  generalize stepG p (i == 0) sw.1 m.world lst = s at hs ⊢
  cases s with
  | ended o w es => trivial
  | comm g cases b sh w es => exact (communicate_le _ _ _ _ _ _ _ _ _).mono hs
  | go g w es => exact hs
  | spawn g c w es => exact hs
  | count g w es => exact SLe.ite (x := .ended _ _) trivial hs
  | alone g on w es => exact hs
  | collect g w es => exact (look_le _ _ _ _).mono hs
  | watch g w es => exact hs
  | newcoro g c d w es => exact hs
  | coroswitch g c ex w es =>
    dsimp only
    have hw : m.world.drawn ≤ w.drawn := hs
    split
    · exact hw
    · split
      · rename_i h
        have := endThrow_le g.frame "coroswitch on exited coro" w
        rw [h] at this
        exact Nat.le_trans hw this
      · trivial
    · trivial
  | timer g op w es =>
    dsimp only
    have hw : m.world.drawn ≤ w.drawn := hs
    split
    · rename_i h
      have := timerOp_drawn h
      exact Nat.le_trans hw (Nat.le_of_eq this.symm)
    · split
      · rename_i msg _ _ _ _ _ h
        have := endThrow_le g.frame msg w
        rw [h] at this
        exact Nat.le_trans hw this
      · trivial
    · trivial
    · trivial
def MLe (d : Nat) : Move → Prop
  | .goroutine m _ => d ≤ m.world.drawn
  | .machine s _ => SLe d s
theorem MLe.mono {d d' : Nat} {s : Move} (h : MLe d s) (hd : d' ≤ d) : MLe d' s := by cases s <;> first | exact Nat.le_trans hd h | exact SLe.mono h hd
theorem MLe.ite {d : Nat} {c : Prop} [Decidable c] {x y : Move} (h1 : MLe d x) (h2 : MLe d y) : MLe d (if c then x else y) := by split <;> assumption
theorem pick_le (p : Program) (m : Machine) (rs : List Nat) : MLe m.world.drawn (match (choose (.sched rs.length)).run p m.world with
      | .halt _ w => .machine (.ended (.stuck "sched" "") w)
      | .ok k world =>
        if rs.length ≤ 1 then .goroutine { m with world } (rs.getD k 0) else
        match (choose (.extern "sched.slice" 65536)).run p world with
        | .halt _ w => .machine (.ended (.stuck "sched.slice" "") w)
        | .ok n world => .goroutine { m with world, rest := { m.rest with slice := if n = 0 then none else some (rs.getD k 0, n) } } (rs.getD k 0) : Move) := by
  split
  · trivial
  · rename_i h
    have hw := run_ok h
    refine MLe.ite hw ?_
    split
    · trivial
    · rename_i h2; have h3 := run_ok h2; exact Nat.le_trans hw h3
theorem askOn_le (p : Program) (m : Machine) : MLe m.world.drawn (askOn p m) := by
  unfold askOn
  dsimp only
  split
  · trivial
  · rename_i h
    have hw := run_ok h
    refine MLe.ite ?_ ?_
    · exact (serve_le _ _ _).mono hw
    · split
      · split
        · exact hw
        · refine MLe.ite hw ?_
          split
          · trivial
          · trivial
      · split
        · refine MLe.mono (pick_le p { m with world := _ } _) ?_
          exact hw
        · split
          · trivial
          · rename_i h2; have h3 := run_ok h2
            refine MLe.mono (pick_le p { m with world := _ } _) ?_
            exact Nat.le_trans hw h3
          · rename_i h2; have h3 := run_ok h2; exact Nat.le_trans hw h3
          · rename_i h2; have h3 := run_ok h2
            refine MLe.mono (pick_le p (Machine.advanceTo { m with world := _ } _) _) ?_
            exact Nat.le_trans hw h3
theorem ask_le (p : Program) (m : Machine) : MLe m.world.drawn (ask p m) := by
  unfold ask
  refine MLe.ite ?_ (askOn_le p m)
  split
  · trivial
  · rename_i h
    have hw := run_ok h
    have hl := look_le p m.gs m.rest ‹World›
    split
    · rename_i h2
      rw [h2] at hl
      exact (askOn_le p _).mono (Nat.le_trans hw hl)
    · exact hl.mono hw
  · rename_i h
    have hw := run_ok h
    exact (askOn_le p _).mono hw
theorem move_le (p : Program) (m : Machine) : MLe m.world.drawn (move p m) := by
  unfold move
  split
  · exact MLe.ite (Nat.le_refl _) trivial
  · split
    · exact MLe.ite (Nat.le_refl _) (ask_le p _)
    · exact ask_le p m
theorem step_drawn {p : Program} {m m' : Machine} (h : step p m = .next m') : m.world.drawn ≤ m'.world.drawn := by
  have hm := move_le p m
  unfold step stepT at h
  split at h
  · rename_i m1 i h1
    rw [h1] at hm
    have h2 := runT'_le p m1 i true
    rw [h] at h2
    exact Nat.le_trans hm h2
  · rename_i h1
    rw [h1] at hm
    dsimp only at h
    rw [h] at hm
    exact hm
theorem steps_drawn {p : Program} {m m' : Machine} (h : Steps p m m') : m.world.drawn ≤ m'.world.drawn := by
  obtain ⟨n, h⟩ := h
  induction n generalizing m with
  | zero => simp only [runN, Stepped.next.injEq] at h; rw [h]; exact Nat.le_refl _
  | succ n ih =>
    unfold runN at h
    split at h
    · rename_i h1
      exact Nat.le_trans (step_drawn h1) (ih h)
    · rename_i h2
      exact absurd h (h2 m')
/-- A call that returns has read its tape on. -/
theorem Calls.drawn {P : Program} {f : FuncId} {args : Array Value} {w : World} {R : Ending → World → Prop} (h : Calls P f args w R) : Calls P f args w fun e w' => R e w' ∧ ∀ v, e = .returned v → w.drawn ≤ w'.drawn := by
  intro cs
  obtain ⟨e, w', fr, h1, h2, h3⟩ := h cs
  refine ⟨e, w', fr, ⟨h1, ?_⟩, h2, h3⟩
  rintro v rfl
  exact steps_drawn h2
end Go.AM
