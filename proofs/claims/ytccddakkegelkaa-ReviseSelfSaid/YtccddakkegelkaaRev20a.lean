/-
  Layer 41: what is returned for valid schedules.
  Conditions: none.
-/
import Derived.Test.YtccddakkegelkaaRev3
import Derived.Test.YtccddakkegelkaaRev15
namespace Go.Proofs.Ytccddakkegelkaa
open Go Go.AM
set_option linter.unusedSimpArgs false
set_option linter.unusedVariables false
set_option maxRecDepth 100000
set_option maxHeartbeats 1000000

theorem cmpOk_fun {a b : List Bar} {l : List Chg} (hL : cmpP a b = l) (ha : okSched a) (hb : okSched b) (hwa : schedW a) (hwb : schedW b) : Fun Try.prog 10 [.sh 5 (a.map Bar.c), .sh 5 (b.map Bar.c)] (Ret (.tup [.sh 2 (l.map findC), .lit (.int .i64 0)]) []) := by
  have h := Compare_fun a b (by have := ha.1; omega) (by have := hb.1; omega) hwa hwb
  rw [show cmpV a b = l from (if_pos ⟨ha, hb⟩).trans hL, show cmpE a b = 0 from if_pos ⟨ha, hb⟩] at h
  exact h
theorem steelOk_fun {a b : List Bar} {x y : Int} (hx : comesP a b = x) (hy : goesP a b = y) (ha : okSched a) (hb : okSched b) (hwa : schedW a) (hwb : schedW b) : Fun Try.prog 11 [.sh 5 (a.map Bar.c), .sh 5 (b.map Bar.c)] (Ret (.tup [.lit (.int .i64 x), .lit (.int .i64 y), .lit (.int .i64 0)]) []) := by
  have h := Steel_fun a b (by have := ha.1; omega) (by have := hb.1; omega) hwa hwb
  rw [show stV a b (comesP a b) = x from (if_pos ⟨ha, hb⟩).trans hx, show stV a b (goesP a b) = y from (if_pos ⟨ha, hb⟩).trans hy, show cmpE a b = 0 from if_pos ⟨ha, hb⟩] at h
  exact h
theorem barMassOk_fun (b : Bar) (h : okBar b) : Fun Try.prog 18 [.agg b.c] (Ret (.tup [.lit (.int .i64 (barMass b)), .lit (.int .i64 0)]) []) := by
  have h1 := barMass_fun b (okBar_w h)
  rw [show okV b (barMass b) = barMass b from if_pos h, show okE b = 0 from if_pos h] at h1
  exact h1
theorem right_yes {l : List (List Bar)} (h : (!rightL l) = false) : ∀ x ∈ l, rightP x := by
  intro x hx
  by_cases hr : rightP x
  · exact hr
  · exfalso
    have hd : decide (∃ x ∈ l, (!decide (rightP x)) = true) = true := decide_eq_true ⟨x, hx, by rw [decide_eq_false hr]; rfl⟩
    rw [rightL, hd] at h
    cases h

end Go.Proofs.Ytccddakkegelkaa
