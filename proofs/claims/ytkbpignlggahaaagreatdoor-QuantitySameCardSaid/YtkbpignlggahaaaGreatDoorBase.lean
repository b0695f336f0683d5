/-
  Small definitions and laws.
  Conditions: none.
-/
import Derived.Test.YtkbpignlggahaaaGreatDoorAmAuto
import Derived.Test.YtkbpignlggahaaaGreatDoorAmStr
import Derived.Test.YtkbpignlggahaaaGreatDoorAmFactx
namespace Go.Proofs.YtkbpignlggahaaaGreatDoor
open Go Go.AM
set_option linter.unusedSimpArgs false
set_option linter.unusedVariables false
set_option maxRecDepth 100000
theorem bT {p : Prop} [Decidable p] (h : p) : AV.lit (.bool true) = .lit (.bool (decide p)) := by rw [decide_eq_true h]
theorem bF {p : Prop} [Decidable p] (h : ¬ p) : AV.lit (.bool false) = .lit (.bool (decide p)) := by rw [decide_eq_false h]
theorem dI {p q : Prop} [Decidable p] [Decidable q] (h : p ↔ q) : AV.lit (.bool (decide p)) = .lit (.bool (decide q)) := by rw [decide_eq_decide.2 h]
theorem lawT {p : Prop} [Decidable p] (h : p) : AV.lit (.bool (decide p)) = .lit (.bool true) := by rw [decide_eq_true h]
theorem iE {a b : Int} (h : a = b) : AV.lit (.int .i64 a) = .lit (.int .i64 b) := by rw [h]
def intC (n : Int) : List AV := [.lit (.int .i64 n)]
def strC (s : List UInt8) : List AV := [.lit (str s)]
def pairC : Int × Int → List AV
  | (a, b) => [.lit (.int .i64 a), .lit (.int .i64 b)]
def findC : Int × List UInt8 → List AV
  | (a, b) => [.lit (.int .i64 a), .lit (str b)]
theorem last_get {T : Type} {pre : List T} (h : 0 < pre.length) : pre.getLast? = some (pre.getLast (List.ne_nil_of_length_pos h)) := List.getLast?_eq_some_getLast _
theorem pre_last {T : Type} {pre suf l : List T} (hp : pre ++ suf = l) (h : 0 < pre.length) : l[pre.length - 1]? = some (pre.getLast (List.ne_nil_of_length_pos h)) := by
  rw [← hp, List.getElem?_append_left (by omega), ← List.getLast?_eq_getElem?, last_get h]
theorem mul_bd {k a K A : Int} (h1 : 0 ≤ k) (h2 : k ≤ K) (h3 : 0 ≤ a) (h4 : a ≤ A) : 0 ≤ k * a ∧ k * a ≤ K * A := ⟨Int.mul_nonneg h1 h3, Int.mul_le_mul h2 h4 h3 (by omega)⟩
theorem snoc_ind {T : Type} {P : List T → Prop} (h0 : P []) (hs : ∀ l s, P l → P (l ++ [s])) : ∀ l, P l := by
  intro l
  have : ∀ n, ∀ l : List T, l.length = n → P l := by
    intro n
    induction n with
    | zero => intro l h; rw [List.eq_nil_of_length_eq_zero h]; exact h0
    | succ n ih =>
      intro l h
      have hne : l ≠ [] := by intro e; subst e; simp at h
      rw [← List.dropLast_concat_getLast hne]; exact hs _ _ (ih _ (by simp [h]))
  exact this _ l rfl
def idxP {T : Type} (p : T → Bool) : List T → Int → Int
  | [], _ => -1
  | x :: l, k => if p x = true then k else idxP p l (k + 1)
theorem idxP_append {T : Type} (p : T → Bool) : ∀ (l m : List T) (k : Int), (∀ x ∈ l, p x = false) → idxP p (l ++ m) k = idxP p m (k + l.length)
  | [], m, k, _ => by simp
  | x :: l, m, k, h => by
    have h1 := h x (by simp); rw [List.cons_append, idxP, h1, if_neg (by simp), idxP_append p l m _ (fun y hy => h y (by simp [hy]))]
    congr 1
    simp; omega
theorem idxP_none {T : Type} (p : T → Bool) (l : List T) (k : Int) (h : ∀ x ∈ l, p x = false) : idxP p l k = -1 := by
  have := idxP_append p l [] k h; rw [List.append_nil] at this; rw [this]; rfl
theorem idxP_nonneg {T : Type} (p : T → Bool) : ∀ (l : List T) (k : Int), 0 ≤ k → (0 ≤ idxP p l k ↔ ∃ x ∈ l, p x = true)
  | [], k, _ => by simp [idxP]
  | x :: l, k, hk => by
    rw [idxP]
    split
    · rename_i h; simp [h, hk]
    · rename_i h; rw [idxP_nonneg p l (k + 1) (by omega)]; simp [h]
end Go.Proofs.YtkbpignlggahaaaGreatDoor
namespace Go.Proofs.YtkbpignlggahaaaGreatDoor
open Go Go.AM
set_option linter.unusedSimpArgs false
set_option linter.unusedVariables false
set_option maxRecDepth 100000
def IsL (c : Int) : Prop := (97 ≤ c ∧ c ≤ 122) ∨ (65 ≤ c ∧ c ≤ 90)
def IsD (c : Int) : Prop := 48 ≤ c ∧ c ≤ 57
instance (c) : Decidable (IsL c) := by unfold IsL; infer_instance
instance (c) : Decidable (IsD c) := by unfold IsD; infer_instance
def IsW (c : Int) : Prop := IsL c ∨ IsD c ∨ c = 95
instance (c) : Decidable (IsW c) := by unfold IsW; infer_instance
theorem notW {c : Int} (h1 : ¬ IsL c) (h2 : ¬ IsD c) (h3 : ¬ c = 95) : ¬ IsW c := by rintro (h | h | h) <;> contradiction
def wordN : List UInt8 → Nat
  | [] => 0
  | c :: l => if IsW (c.toNat : Int) then wordN l + 1 else 0
theorem wordN_app : ∀ (a b : List UInt8), (∀ x ∈ a, IsW (x.toNat : Int)) → wordN (a ++ b) = a.length + wordN b
  | [], b, _ => by simp
  | x :: a, b, h => by
    rw [List.cons_append, wordN, if_pos (h x (by simp)), wordN_app a b (fun y hy => h y (by simp [hy])), List.length_cons]; omega
def IsName (s : List UInt8) : Prop := 0 < s.length ∧ s.length ≤ 20 ∧ (∀ c, s[0]? = some c → IsL (c.toNat : Int)) ∧ wordN s = s.length
instance (s) : Decidable (IsName s) := by
  unfold IsName
  cases h : s[0]? with
  | none => exact decidable_of_iff (0 < s.length ∧ s.length ≤ 20 ∧ wordN s = s.length) (by simp)
  | some c => exact decidable_of_iff (0 < s.length ∧ s.length ≤ 20 ∧ IsL (c.toNat : Int) ∧ wordN s = s.length) (by simp)
theorem letter_fun (c : Int) : Fun Tryz.prog 155 [.lit (.int .u8 c)] (Ret (.lit (.bool (decide (IsL c)))) []) := by
  refine Fun.of (nt := 17) (rs := [.tmp 2]) Tryz.func155 rfl rfl rfl rfl rfl ?_; refine Ev.sr fun K hK => S.o q.as (S.end (hK _ ?_)); clear hK K; refine Ev.sr fun K hK => S.o q.mv (S.o q.geq (S.bd q.mv (fun c1 => ?_) (fun c1 => ?_)))
  · first
  | omega | contradiction
  | refine S.o q.mv (S.o q.leq (S.o q.pt (S.bd q.mv (fun c2 => ?_) (fun c2 => ?_))))
    · first
    | omega | contradiction
    | refine S.sk (S.sk (S.sk (S.sk (S.sk (S.sk (S.o q.pt (S.o q.as (S.end (hK _ ?_))))))))); clear hK K; refine Ev.ret ?_; refine Ev.ret1 ?_; refine ⟨?_, rfl⟩
      first | exact bT (by unfold IsL; omega) | exact bF (by unfold IsL; omega) | exact dI (by unfold IsL; omega)
    · first
    | omega | contradiction
    | refine S.o q.mv (S.o q.geq (S.bd q.mv (fun c3 => ?_) (fun c3 => ?_)))
      · first
      | omega | contradiction
      | refine S.o q.mv (S.o q.leq (S.o q.pt (S.o q.pf (S.o q.as (S.end (hK _ ?_)))))); clear hK K; refine Ev.ret ?_; refine Ev.ret1 ?_; refine ⟨?_, rfl⟩
        first | exact bT (by unfold IsL; omega) | exact bF (by unfold IsL; omega) | exact dI (by unfold IsL; omega)
      · first
      | omega | contradiction
      | refine S.sk (S.sk (S.o q.pf (S.o q.pf (S.o q.as (S.end (hK _ ?_)))))); clear hK K; refine Ev.ret ?_; refine Ev.ret1 ?_; refine ⟨?_, rfl⟩
        first | exact bT (by unfold IsL; omega) | exact bF (by unfold IsL; omega) | exact dI (by unfold IsL; omega)
  · first
  | omega | contradiction
  | refine S.sk (S.sk (S.o q.pf (S.o q.mv (S.o q.mv (S.o q.geq (S.bd q.mv (fun c4 => ?_) (fun c4 => ?_)))))))
    · first
    | omega | contradiction
    | refine S.o q.mv (S.o q.leq (S.o q.pt (S.o q.pf (S.o q.as (S.end (hK _ ?_)))))); clear hK K; refine Ev.ret ?_; refine Ev.ret1 ?_; refine ⟨?_, rfl⟩
      first | exact bT (by unfold IsL; omega) | exact bF (by unfold IsL; omega) | exact dI (by unfold IsL; omega)
    · first
    | omega | contradiction
    | refine S.sk (S.sk (S.o q.pf (S.o q.pf (S.o q.as (S.end (hK _ ?_)))))); clear hK K; refine Ev.ret ?_; refine Ev.ret1 ?_; refine ⟨?_, rfl⟩
      first | exact bT (by unfold IsL; omega) | exact bF (by unfold IsL; omega) | exact dI (by unfold IsL; omega)
theorem digit_fun (c : Int) : Fun Tryz.prog 199 [.lit (.int .u8 c)] (Ret (.lit (.bool (decide (IsD c)))) []) := by
  refine Fun.of (nt := 9) (rs := [.tmp 2]) Tryz.func199 rfl rfl rfl rfl rfl ?_; refine Ev.sr fun K hK => S.o q.as (S.end (hK _ ?_)); clear hK K; refine Ev.sr fun K hK => S.o q.mv (S.o q.geq (S.bd q.mv (fun c1 => ?_) (fun c1 => ?_)))
  · first
  | omega | contradiction
  | refine S.o q.mv (S.o q.leq (S.o q.pt (S.o q.as (S.end (hK _ ?_))))); clear hK K; refine Ev.ret ?_; refine Ev.ret1 ?_; refine ⟨?_, rfl⟩
    first | exact bT (by unfold IsD; omega) | exact bF (by unfold IsD; omega) | exact dI (by unfold IsD; omega)
  · first
  | omega | contradiction
  | refine S.sk (S.sk (S.o q.pf (S.o q.as (S.end (hK _ ?_))))); clear hK K; refine Ev.ret ?_; refine Ev.ret1 ?_; refine ⟨?_, rfl⟩
    first | exact bT (by unfold IsD; omega) | exact bF (by unfold IsD; omega) | exact dI (by unfold IsD; omega)
theorem word_fun (s : List UInt8) (hlen : s.length ≤ 140737488355328) : Fun Tryz.prog 156 [.lit (str s)] (Ret (.lit (.int .i64 (wordN s : Int))) []) := by
  refine Fun.of (nt := 29) (rs := [.tmp 2]) Tryz.func156 rfl rfl rfl rfl rfl ?_; refine Ev.sr fun K hK => S.o q.as (S.end (hK _ ?_)); clear hK K; refine Ev.sr fun K hK => S.o q.as (S.end (hK _ ?_)); clear hK K; refine Ev.seq ?_; refine Ev.block ?_; refine Ev.loopU (ι := {q : List UInt8 × List UInt8 // q.1 ++ q.2 = s ∧ ∀ x ∈ q.1, IsW (x.toNat : Int)}) [] [0, 2] (fun ⟨(pre, suf), _⟩ => [(3, .lit (.int .i64 ((pre.length : Int))))]) (fun ⟨(pre, suf), _⟩ => []) (fun ⟨(pre, suf), _⟩ => suf.length) ⟨([], s), rfl, fun x hx => by simp at hx⟩ (.c (.c .n)) keep_n (slots_c (he := (by first | rfl | (simp; done) | (congr 2; omega))) (h := trivial)) ?_; rintro ⟨⟨pre, suf⟩, hp, hinv⟩ R0 hR0; dsimp only [List.cons_append, List.nil_append, List.length_cons, List.length_nil]
  simp only at hp hinv
  have hpl : pre.length + suf.length = s.length := by rw [← hp, List.length_append]
  rcases suf with _ | ⟨c, suf⟩
  · rw [List.append_nil] at hp; subst hp; simp only [List.length_nil] at hpl; refine Ev.seq ?_; refine Ev.sr fun K hK => S.o q.mv (S.o q.mv (S.o (q.slen am_el9 am_un9) (S.o q.lss (S.bd q.mv (fun c1 => ?_) (fun c1 => ?_)))))
    · first
    | omega | contradiction
    | refine S.o q.mv (S.o q.mv (S.o (q.six am_un9 (hl := (by first | exact atig (by omega)))) (S.c0 (hF := letter_fun _) (h := S.bd q.mv (fun c2 => ?_) (fun c2 => ?_)))))
      · first
      | omega | contradiction
      | refine S.sk (S.sk (S.sk (S.sk (S.o q.pt (S.o q.mv (S.sk (S.sk (S.sk (S.sk (S.o q.pt (S.o q.pt (S.end (hK _ ?_))))))))))))); clear hK K; refine Ev.ct ?_; refine Ev.skip ?_; show Ev _ _ _ _; refine Ev.block ?_; refine Ev.region_S fun K hK => S.o q.mv (S.o q.add (S.o q.as (S.end (hK _ ?_)))); clear hK K; refine hR0 _ _ ?_; refine roundU [] [0, 2] ⟨(pre ++ [c], suf), by rw [← hp]; simp, ?_⟩ ?_ keep_n (slots_c (he := (by first | rfl | (simp; done) | (congr 2; omega))) (h := trivial)) (.c (.c .n))
        intro x hx; simp only [List.mem_append, List.mem_singleton] at hx; rcases hx with hx | rfl
        · exact hinv x hx
        · (unfold IsW; first | omega | (left; assumption) | (right; left; assumption))
        all_goals (dsimp only; simp only [List.length_cons]; omega)
      · first
      | omega | contradiction
      | refine S.o q.mv (S.o q.mv (S.o (q.six am_un9 (hl := (by first | exact atig (by omega)))) (S.c0 (hF := digit_fun _) (h := S.o q.pf (S.bd q.mv (fun c3 => ?_) (fun c3 => ?_))))))
        · first
        | omega | contradiction
        | refine S.sk (S.sk (S.sk (S.sk (S.o q.pt (S.o q.pt (S.end (hK _ ?_))))))); clear hK K; refine Ev.ct ?_; refine Ev.skip ?_; show Ev _ _ _ _; refine Ev.block ?_; refine Ev.region_S fun K hK => S.o q.mv (S.o q.add (S.o q.as (S.end (hK _ ?_)))); clear hK K; refine hR0 _ _ ?_; refine roundU [] [0, 2] ⟨(pre ++ [c], suf), by rw [← hp]; simp, ?_⟩ ?_ keep_n (slots_c (he := (by first | rfl | (simp; done) | (congr 2; omega))) (h := trivial)) (.c (.c .n))
          intro x hx; simp only [List.mem_append, List.mem_singleton] at hx; rcases hx with hx | rfl
          · exact hinv x hx
          · (unfold IsW; first | omega | (left; assumption) | (right; left; assumption))
          all_goals (dsimp only; simp only [List.length_cons]; omega)
        · first
        | omega | contradiction
        | refine S.o q.mv (S.o q.mv (S.o (q.six am_un9 (hl := (by first | exact atig (by omega)))) (S.o q.eql (S.o q.pf (S.o q.pt (S.end (hK _ ?_))))))); clear hK K; refine Ev.cd (fun c4 => ?_) (fun c4 => ?_)
          · first
          | omega | contradiction
          | refine Ev.skip ?_; show Ev _ _ _ _; refine Ev.block ?_; refine Ev.region_S fun K hK => S.o q.mv (S.o q.add (S.o q.as (S.end (hK _ ?_)))); clear hK K; refine hR0 _ _ ?_; refine roundU [] [0, 2] ⟨(pre ++ [c], suf), by rw [← hp]; simp, ?_⟩ ?_ keep_n (slots_c (he := (by first | rfl | (simp; done) | (congr 2; omega))) (h := trivial)) (.c (.c .n))
            intro x hx; simp only [List.mem_append, List.mem_singleton] at hx; rcases hx with hx | rfl
            · exact hinv x hx
            · (unfold IsW; first | omega | (left; assumption) | (right; left; assumption))
            all_goals (dsimp only; simp only [List.length_cons]; omega)
          · first
          | omega | contradiction
          | refine Ev.exit ?_; refine hR0 _ _ ?_; show Ev _ _ _ _; refine Ev.sr fun K hK => S.o q.mv (S.o q.as (S.end (hK _ ?_))); clear hK K; refine Ev.ret ?_; refine Ev.ret1 ?_; refine ⟨?_, rfl⟩
            first
             | (congr 2; have := wordN_app pre [] hinv; rw [List.append_nil] at this; rw [this]; simp [wordN]; done)
             | (congr 2; rw [← hp, wordN_app pre _ hinv, wordN, if_neg (notW ‹_› ‹_› ‹_›)]; simp; done)
    · first
    | omega | contradiction
    | refine S.sk (S.sk (S.sk (S.sk (S.sk (S.sk (S.sk (S.sk (S.sk (S.sk (S.sk (S.sk (S.sk (S.sk (S.sk (S.sk (S.o q.pf (S.end (hK _ ?_)))))))))))))))))); clear hK K; refine Ev.cf ?_; refine Ev.exit ?_; refine hR0 _ _ ?_; show Ev _ _ _ _; refine Ev.sr fun K hK => S.o q.mv (S.o q.as (S.end (hK _ ?_))); clear hK K; refine Ev.ret ?_; refine Ev.ret1 ?_; refine ⟨?_, rfl⟩
      first
       | (congr 2; have := wordN_app pre [] hinv; rw [List.append_nil] at this; rw [this]; simp [wordN]; done)
       | (congr 2; rw [← hp, wordN_app pre _ hinv, wordN, if_neg (notW ‹_› ‹_› ‹_›)]; simp; done)
  · simp only [List.length_cons] at hpl
    have hidx : s[pre.length]? = some c := by rw [← hp]; simp
    refine Ev.seq ?_; refine Ev.sr fun K hK => S.o q.mv (S.o q.mv (S.o (q.slen am_el9 am_un9) (S.o q.lss (S.bd q.mv (fun c5 => ?_) (fun c5 => ?_)))))
    · first
    | omega | contradiction
    | refine S.o q.mv (S.o q.mv (S.o (q.six am_un9 (hl := (by first | exact ati hidx (by omega) | exact atig (by omega)))) (S.c0 (hF := letter_fun _) (h := S.bd q.mv (fun c6 => ?_) (fun c6 => ?_)))))
      · first
      | omega | contradiction
      | refine S.sk (S.sk (S.sk (S.sk (S.o q.pt (S.o q.mv (S.sk (S.sk (S.sk (S.sk (S.o q.pt (S.o q.pt (S.end (hK _ ?_))))))))))))); clear hK K; refine Ev.ct ?_; refine Ev.skip ?_; show Ev _ _ _ _; refine Ev.block ?_; refine Ev.region_S fun K hK => S.o q.mv (S.o q.add (S.o q.as (S.end (hK _ ?_)))); clear hK K; refine hR0 _ _ ?_; refine roundU [] [0, 2] ⟨(pre ++ [c], suf), by rw [← hp]; simp, ?_⟩ ?_ keep_n (slots_c (he := (by first | rfl | (simp; done) | (congr 2; omega))) (h := trivial)) (.c (.c .n))
        intro x hx; simp only [List.mem_append, List.mem_singleton] at hx; rcases hx with hx | rfl
        · exact hinv x hx
        · (unfold IsW; first | omega | (left; assumption) | (right; left; assumption))
        all_goals (dsimp only; simp only [List.length_cons]; omega)
      · first
      | omega | contradiction
      | refine S.o q.mv (S.o q.mv (S.o (q.six am_un9 (hl := (by first | exact ati hidx (by omega) | exact atig (by omega)))) (S.c0 (hF := digit_fun _) (h := S.o q.pf (S.bd q.mv (fun c7 => ?_) (fun c7 => ?_))))))
        · first
        | omega | contradiction
        | refine S.sk (S.sk (S.sk (S.sk (S.o q.pt (S.o q.pt (S.end (hK _ ?_))))))); clear hK K; refine Ev.ct ?_; refine Ev.skip ?_; show Ev _ _ _ _; refine Ev.block ?_; refine Ev.region_S fun K hK => S.o q.mv (S.o q.add (S.o q.as (S.end (hK _ ?_)))); clear hK K; refine hR0 _ _ ?_; refine roundU [] [0, 2] ⟨(pre ++ [c], suf), by rw [← hp]; simp, ?_⟩ ?_ keep_n (slots_c (he := (by first | rfl | (simp; done) | (congr 2; omega))) (h := trivial)) (.c (.c .n))
          intro x hx; simp only [List.mem_append, List.mem_singleton] at hx; rcases hx with hx | rfl
          · exact hinv x hx
          · (unfold IsW; first | omega | (left; assumption) | (right; left; assumption))
          all_goals (dsimp only; simp only [List.length_cons]; omega)
        · first
        | omega | contradiction
        | refine S.o q.mv (S.o q.mv (S.o (q.six am_un9 (hl := (by first | exact ati hidx (by omega) | exact atig (by omega)))) (S.o q.eql (S.o q.pf (S.o q.pt (S.end (hK _ ?_))))))); clear hK K; refine Ev.cd (fun c8 => ?_) (fun c8 => ?_)
          · first
          | omega | contradiction
          | refine Ev.skip ?_; show Ev _ _ _ _; refine Ev.block ?_; refine Ev.region_S fun K hK => S.o q.mv (S.o q.add (S.o q.as (S.end (hK _ ?_)))); clear hK K; refine hR0 _ _ ?_; refine roundU [] [0, 2] ⟨(pre ++ [c], suf), by rw [← hp]; simp, ?_⟩ ?_ keep_n (slots_c (he := (by first | rfl | (simp; done) | (congr 2; omega))) (h := trivial)) (.c (.c .n))
            intro x hx; simp only [List.mem_append, List.mem_singleton] at hx; rcases hx with hx | rfl
            · exact hinv x hx
            · (unfold IsW; first | omega | (left; assumption) | (right; left; assumption))
            all_goals (dsimp only; simp only [List.length_cons]; omega)
          · first
          | omega | contradiction
          | refine Ev.exit ?_; refine hR0 _ _ ?_; show Ev _ _ _ _; refine Ev.sr fun K hK => S.o q.mv (S.o q.as (S.end (hK _ ?_))); clear hK K; refine Ev.ret ?_; refine Ev.ret1 ?_; refine ⟨?_, rfl⟩
            first
             | (congr 2; have := wordN_app pre [] hinv; rw [List.append_nil] at this; rw [this]; simp [wordN]; done)
             | (congr 2; rw [← hp, wordN_app pre _ hinv, wordN, if_neg (notW ‹_› ‹_› ‹_›)]; simp; done)
    · first
    | omega | contradiction
    | refine S.sk (S.sk (S.sk (S.sk (S.sk (S.sk (S.sk (S.sk (S.sk (S.sk (S.sk (S.sk (S.sk (S.sk (S.sk (S.sk (S.o q.pf (S.end (hK _ ?_)))))))))))))))))); clear hK K; refine Ev.cf ?_; refine Ev.exit ?_; refine hR0 _ _ ?_; show Ev _ _ _ _; refine Ev.sr fun K hK => S.o q.mv (S.o q.as (S.end (hK _ ?_))); clear hK K; refine Ev.ret ?_; refine Ev.ret1 ?_; refine ⟨?_, rfl⟩
      first
       | (congr 2; have := wordN_app pre [] hinv; rw [List.append_nil] at this; rw [this]; simp [wordN]; done)
       | (congr 2; rw [← hp, wordN_app pre _ hinv, wordN, if_neg (notW ‹_› ‹_› ‹_›)]; simp; done)
theorem isName_fun (s : List UInt8) (hlen : s.length ≤ 140737488355328) : Fun Tryz.prog 101 [.lit (str s)] (Ret (.lit (.bool (decide (IsName s)))) []) := by
  have hg : ∀ h : 0 < s.length, s[0]? = some (s[0]'h) := fun h => List.getElem?_eq_getElem h; have hz : ¬ s = [] → 0 < s.length := fun h => List.length_pos_iff.2 h
  have hI : IsName s ↔ 0 < s.length ∧ s.length ≤ 20 ∧ (∀ h : 0 < s.length, IsL ((s[0]'h).toNat : Int)) ∧ wordN s = s.length := by
    unfold IsName
    constructor
    · rintro ⟨h1, h2, h3, h4⟩; exact ⟨h1, h2, fun h => h3 _ (hg h), h4⟩
    · rintro ⟨h1, h2, h3, h4⟩; exact ⟨h1, h2, fun c hc => by rw [hg h1] at hc; simp only [Option.some.injEq] at hc; rw [← hc]; exact h3 h1, h4⟩
  refine Fun.of (nt := 22) (rs := [.tmp 2]) Tryz.func101 rfl rfl rfl rfl rfl ?_; refine Ev.sr fun K hK => S.o q.as (S.end (hK _ ?_)); clear hK K; refine Ev.sr fun K hK => S.o q.mv (S.o q.snes (S.bn q.mv (fun c1 => ?_) (fun c1 => ?_)))
  · first
  | omega | contradiction
  | refine S.o q.mv (S.o (q.slen am_el9 am_un9) (S.o q.leq (S.o q.pt (S.bd q.mv (fun c2 => ?_) (fun c2 => ?_)))))
    · first
    | omega | contradiction
    | refine S.o q.mv (S.o (q.six am_un9 (hl := (by first | exact ati (hg (by first | omega | exact hz ‹_›)) (by omega) | exact atig (by omega)))) (S.c0 (hF := letter_fun _) (h := S.o q.pt (S.bd q.mv (fun c3 => ?_) (fun c3 => ?_)))))
      · first
      | omega | contradiction
      | refine S.o q.mv (S.c0 (hF := word_fun _ (by omega)) (h := S.o q.mv (S.o (q.slen am_el9 am_un9) (S.o q.eql (S.o q.pt (S.o q.as (S.end (hK _ ?_)))))))); clear hK K; refine Ev.ret ?_; refine Ev.ret1 ?_; refine ⟨?_, rfl⟩
        first
         | exact bF (fun h => by have h1 := (hI.1 h).1; first | omega | (rw [‹s = []›] at h1; exact absurd h1 (by decide)))
         | exact bF (fun h => by have := (hI.1 h).2.1; omega)
         | exact bF (fun h => absurd ((hI.1 h).2.2.1 (by first | omega | exact hz ‹_›)) ‹_›)
         | exact dI ⟨fun h => hI.2 ⟨(by first | omega | exact hz ‹_›), by omega, fun _ => ‹_›, by omega⟩, fun h => by have := (hI.1 h).2.2.2; omega⟩
         | exact bT (hI.2 ⟨(by first | omega | exact hz ‹_›), by omega, fun _ => ‹_›, by omega⟩)
         | exact bF (fun h => by have := (hI.1 h).2.2.2; omega)
      · first
      | omega | contradiction
      | refine S.sk (S.sk (S.sk (S.sk (S.sk (S.o q.pf (S.o q.as (S.end (hK _ ?_)))))))); clear hK K; refine Ev.ret ?_; refine Ev.ret1 ?_; refine ⟨?_, rfl⟩
        first
         | exact bF (fun h => by have h1 := (hI.1 h).1; first | omega | (rw [‹s = []›] at h1; exact absurd h1 (by decide)))
         | exact bF (fun h => by have := (hI.1 h).2.1; omega)
         | exact bF (fun h => absurd ((hI.1 h).2.2.1 (by first | omega | exact hz ‹_›)) ‹_›)
         | exact dI ⟨fun h => hI.2 ⟨(by first | omega | exact hz ‹_›), by omega, fun _ => ‹_›, by omega⟩, fun h => by have := (hI.1 h).2.2.2; omega⟩
         | exact bT (hI.2 ⟨(by first | omega | exact hz ‹_›), by omega, fun _ => ‹_›, by omega⟩)
         | exact bF (fun h => by have := (hI.1 h).2.2.2; omega)
    · first
    | omega | contradiction
    | refine S.sk (S.sk (S.sk (S.o q.pf (S.o q.mv (S.sk (S.sk (S.sk (S.sk (S.sk (S.o q.pf (S.o q.as (S.end (hK _ ?_))))))))))))); clear hK K; refine Ev.ret ?_; refine Ev.ret1 ?_; refine ⟨?_, rfl⟩
      first
       | exact bF (fun h => by have h1 := (hI.1 h).1; first | omega | (rw [‹s = []›] at h1; exact absurd h1 (by decide)))
       | exact bF (fun h => by have := (hI.1 h).2.1; omega)
       | exact bF (fun h => absurd ((hI.1 h).2.2.1 (by first | omega | exact hz ‹_›)) ‹_›)
       | exact dI ⟨fun h => hI.2 ⟨(by first | omega | exact hz ‹_›), by omega, fun _ => ‹_›, by omega⟩, fun h => by have := (hI.1 h).2.2.2; omega⟩
       | exact bT (hI.2 ⟨(by first | omega | exact hz ‹_›), by omega, fun _ => ‹_›, by omega⟩)
       | exact bF (fun h => by have := (hI.1 h).2.2.2; omega)
  · first
  | omega | contradiction
  | refine S.sk (S.sk (S.sk (S.o q.pf (S.o q.mv (S.sk (S.sk (S.sk (S.o q.pf (S.o q.mv (S.sk (S.sk (S.sk (S.sk (S.sk (S.o q.pf (S.o q.as (S.end (hK _ ?_)))))))))))))))))); clear hK K; refine Ev.ret ?_; refine Ev.ret1 ?_; refine ⟨?_, rfl⟩
    first
     | exact bF (fun h => by have h1 := (hI.1 h).1; first | omega | (rw [‹s = []›] at h1; exact absurd h1 (by decide)))
     | exact bF (fun h => by have := (hI.1 h).2.1; omega)
     | exact bF (fun h => absurd ((hI.1 h).2.2.1 (by first | omega | exact hz ‹_›)) ‹_›)
     | exact dI ⟨fun h => hI.2 ⟨(by first | omega | exact hz ‹_›), by omega, fun _ => ‹_›, by omega⟩, fun h => by have := (hI.1 h).2.2.2; omega⟩
     | exact bT (hI.2 ⟨(by first | omega | exact hz ‹_›), by omega, fun _ => ‹_›, by omega⟩)
     | exact bF (fun h => by have := (hI.1 h).2.2.2; omega)
end Go.Proofs.YtkbpignlggahaaaGreatDoor
namespace Go.Proofs.YtkbpignlggahaaaGreatDoor
open Go Go.AM
set_option linter.unusedSimpArgs false
set_option linter.unusedVariables false
set_option maxRecDepth 100000
def sizes : List Int := [6, 8, 10, 12, 16, 20, 25, 32, 40]
theorem size_bd {d : Int} (h : d ∈ sizes) : 6 ≤ d ∧ d ≤ 40 := by
  simp only [sizes, List.mem_cons, List.not_mem_nil, or_false] at h; omega
def idxI (l : List Int) (v : Int) : Int := idxP (fun x => decide (v = x)) l 0
theorem index_fun (l : List Int) (v : Int) (hlen : l.length ≤ 140737488355328) : Fun Tryz.prog 49 [.sh 1 (l.map intC), .lit (.int .i64 v)] (Ret (.lit (.int .i64 (idxI l v))) []) := by
  unfold idxI
  refine Fun.of (nt := 19) (rs := [.tmp 4]) Tryz.func49 rfl rfl rfl rfl rfl ?_; refine Ev.sr fun K hK => S.o q.as (S.end (hK _ ?_)); clear hK K; refine Ev.seq ?_; refine Ev.sr fun K hK => S.o q.mv (S.o (q.lens am_el66) (S.o q.mv (S.end (hK _ ?_)))); clear hK K; refine Ev.block ?_; refine Ev.loopU (ι := {q : List Int × List Int // q.1 ++ q.2 = l ∧ ∀ x ∈ q.1, decide (v = x) = false}) [] [0, 1, 7] (fun ⟨(pre, suf), _⟩ => [(8, .lit (.int .i64 ((pre.length : Int))))]) (fun ⟨(pre, suf), _⟩ => []) (fun ⟨(pre, suf), _⟩ => suf.length) ⟨([], l), rfl, fun x hx => by simp at hx⟩ (.c (.c (.c .n))) keep_n (slots_c (he := (by first | rfl | (simp; done) | (congr 2; omega))) (h := trivial)) ?_; rintro ⟨⟨pre, suf⟩, hp, hinv⟩ R0 hR0; dsimp only [List.cons_append, List.nil_append, List.length_cons, List.length_nil]
  simp only at hp hinv
  have hpl : pre.length + suf.length = (l).length := by rw [← hp, List.length_append]
  rcases suf with _ | ⟨s, suf⟩
  · rw [List.append_nil] at hp; subst hp; simp only [List.length_nil] at hpl; refine Ev.sr fun K hK => S.o q.lss (S.end (hK _ ?_)); clear hK K; refine Ev.ud (fun c1 => ?_) (fun c1 => ?_)
    · first
    | omega | contradiction
    | refine Ev.seq ?_; refine Ev.block ?_; refine Ev.sr fun K hK => S.o q.mv (S.o q.as (S.end (hK _ ?_))); clear hK K; refine Ev.sr fun K hK => S.o q.mv (S.o q.mv (S.o q.mv (S.o (q.ix am_el66 am_cl3 (hl := (by first | exact atig (by omega)))) (S.o (q.ls am_ag3) (S.o q.eql (S.end (hK _ ?_))))))); clear hK K; refine Ev.cd (fun c2 => ?_) (fun c2 => ?_)
      · first
      | omega | contradiction
      | refine Ev.sr fun K hK => S.o q.mv (S.o q.as (S.end (hK _ ?_))); clear hK K; refine Ev.ret ?_; refine hR0 _ _ ?_; refine Ev.ret1 ?_; refine ⟨?_, rfl⟩
        first | (congr 2; rw [← hp, idxP_append _ pre _ 0 hinv, idxP, if_pos (decide_eq_true ‹_›)]; omega) | (congr 2; rw [idxP_none _ pre 0 hinv])
      · first
      | omega | contradiction
      | refine Ev.skip ?_; show Ev _ _ _ _; refine Ev.region_S fun K hK => S.o q.add (S.o q.mv (S.end (hK _ ?_))); clear hK K; refine hR0 _ _ ?_; refine roundU [] [0, 1, 7] ⟨(pre ++ [s], suf), by rw [← hp]; simp, ?_⟩ ?_ keep_n (slots_c (he := (by first | rfl | (simp; done) | (congr 2; omega))) (h := trivial)) (.c (.c (.c .n)))
        intro x hx; simp only [List.mem_append, List.mem_singleton] at hx; rcases hx with hx | rfl
        · exact hinv x hx
        · exact decide_eq_false ‹_›
        all_goals (dsimp only; simp only [List.length_cons]; omega)
    · first
    | omega | contradiction
    | refine Ev.exit ?_; refine hR0 _ _ ?_; show Ev _ _ _ _; refine Ev.sr fun K hK => S.o q.as (S.end (hK _ ?_)); clear hK K; refine Ev.ret ?_; refine Ev.ret1 ?_; refine ⟨?_, rfl⟩
      first | (congr 2; rw [← hp, idxP_append _ pre _ 0 hinv, idxP, if_pos (decide_eq_true ‹_›)]; omega) | (congr 2; rw [idxP_none _ pre 0 hinv])
  · simp only [List.length_cons] at hpl
    have hidx : (l)[pre.length]? = some s := by rw [← hp]; simp
    refine Ev.sr fun K hK => S.o q.lss (S.end (hK _ ?_)); clear hK K; refine Ev.ud (fun c3 => ?_) (fun c3 => ?_)
    · first
    | omega | contradiction
    | refine Ev.seq ?_; refine Ev.block ?_; refine Ev.sr fun K hK => S.o q.mv (S.o q.as (S.end (hK _ ?_))); clear hK K; refine Ev.sr fun K hK => S.o q.mv (S.o q.mv (S.o q.mv (S.o (q.ix am_el66 am_cl3 (hl := (by first | exact ati hidx (by omega) | exact atig (by omega)))) (S.o (q.ls am_ag3) (S.o q.eql (S.end (hK _ ?_))))))); clear hK K; refine Ev.cd (fun c4 => ?_) (fun c4 => ?_)
      · first
      | omega | contradiction
      | refine Ev.sr fun K hK => S.o q.mv (S.o q.as (S.end (hK _ ?_))); clear hK K; refine Ev.ret ?_; refine hR0 _ _ ?_; refine Ev.ret1 ?_; refine ⟨?_, rfl⟩
        first | (congr 2; rw [← hp, idxP_append _ pre _ 0 hinv, idxP, if_pos (decide_eq_true ‹_›)]; omega) | (congr 2; rw [idxP_none _ pre 0 hinv])
      · first
      | omega | contradiction
      | refine Ev.skip ?_; show Ev _ _ _ _; refine Ev.region_S fun K hK => S.o q.add (S.o q.mv (S.end (hK _ ?_))); clear hK K; refine hR0 _ _ ?_; refine roundU [] [0, 1, 7] ⟨(pre ++ [s], suf), by rw [← hp]; simp, ?_⟩ ?_ keep_n (slots_c (he := (by first | rfl | (simp; done) | (congr 2; omega))) (h := trivial)) (.c (.c (.c .n)))
        intro x hx; simp only [List.mem_append, List.mem_singleton] at hx; rcases hx with hx | rfl
        · exact hinv x hx
        · exact decide_eq_false ‹_›
        all_goals (dsimp only; simp only [List.length_cons]; omega)
    · first
    | omega | contradiction
    | refine Ev.exit ?_; refine hR0 _ _ ?_; show Ev _ _ _ _; refine Ev.sr fun K hK => S.o q.as (S.end (hK _ ?_)); clear hK K; refine Ev.ret ?_; refine Ev.ret1 ?_; refine ⟨?_, rfl⟩
      first | (congr 2; rw [← hp, idxP_append _ pre _ 0 hinv, idxP, if_pos (decide_eq_true ‹_›)]; omega) | (congr 2; rw [idxP_none _ pre 0 hinv])
theorem contains_fun (l : List Int) (v : Int) (hlen : l.length ≤ 140737488355328) : Fun Tryz.prog 147 [.sh 1 (l.map intC), .lit (.int .i64 v)] (Ret (.lit (.bool (decide (v ∈ l)))) []) := by
  have hd : decide (v ∈ l) = decide (0 ≤ idxI l v) := by
    rw [decide_eq_decide, idxI, idxP_nonneg _ l 0 (Int.le_refl _)]
    constructor
    · intro h; exact ⟨v, h, by simp⟩
    · rintro ⟨x, hx, h⟩; rw [of_decide_eq_true h]; exact hx
  rw [hd]; refine Fun.of (nt := 9) (rs := [.tmp 4]) Tryz.func147 rfl rfl rfl rfl rfl ?_; refine Ev.sr fun K hK => S.o q.as (S.end (hK _ ?_)); clear hK K; refine Ev.sr fun K hK => S.o q.mv (S.o q.mv (S.c0 (hF := index_fun _ _ (by omega)) (h := S.o q.geq (S.o q.as (S.end (hK _ ?_)))))); clear hK K; refine Ev.ret ?_; refine Ev.ret1 ?_; refine ⟨?_, rfl⟩; rfl
theorem sizes_fun : Fun Tryz.prog 26 [] (Ret (.sh 1 (sizes.map intC)) []) := by
  refine Fun.of (nt := 2) (rs := [.tmp 0]) Tryz.func26 rfl rfl rfl rfl rfl ?_; refine Ev.sr fun K hK => S.o q.as (S.end (hK _ ?_)); clear hK K; refine Ev.sr fun K hK => S.nn (q.bs [[_], [_], [_], [_], [_], [_], [_], [_], [_]] true am_el66 am_ze3 am_cl3) (S.o q.as (S.end (hK _ ?_))); clear hK K; refine Ev.weaken (Wk.frzl (f := intC) [_, _, _, _, _, _, _, _, _] 0 []) ?_; refine Ev.ret ?_; refine Ev.ret1 ?_; refine ⟨?_, rfl⟩; rfl
theorem size_fun (d : Int) : Fun Tryz.prog 91 [.lit (.int .i64 d)] (Ret (.lit (.bool (decide (d ∈ sizes)))) []) := by
  refine Fun.of (nt := 6) (rs := [.tmp 2]) Tryz.func91 rfl rfl rfl rfl rfl ?_; refine Ev.sr fun K hK => S.o q.as (S.end (hK _ ?_)); clear hK K; refine Ev.sr fun K hK => S.c0 (hF := sizes_fun) (h := S.o q.mv (S.c0 (hF := contains_fun _ _ (by decide)) (h := S.o q.as (S.end (hK _ ?_))))); clear hK K; refine Ev.ret ?_; refine Ev.ret1 ?_; refine ⟨?_, rfl⟩; rfl
def szV (d v : Int) : Int := if d ∈ sizes then v else 0
def szE (d : Int) : Int := if d ∈ sizes then 0 else 1
theorem sized1_fun (d : Int) (g : FuncId) (c0 : List AV) (v : Int) (hg : d ∈ sizes → Fun Tryz.prog g [.sadr c0 0] (Ret (.lit (.int .i64 v)) [])) :
    Fun Tryz.prog 92 [.lit (.int .i64 d), .fn (.func g) [] [.sadr c0 0]] (Ret (.tup [.lit (.int .i64 (szV d v)), .lit (.int .i64 (szE d))]) []) := by
  refine Fun.of (nt := 11) (rs := [.tmp 4, .tmp 5]) Tryz.func92 rfl rfl rfl rfl rfl ?_; refine Ev.sr fun K hK => S.o q.as (S.o q.as (S.end (hK _ ?_))); clear hK K; refine Ev.seq ?_; refine Ev.sr fun K hK => S.o q.mv (S.c0 (hF := size_fun _) (h := S.o q.not (S.end (hK _ ?_)))); clear hK K; refine Ev.cn (fun c1 => ?_) (fun c1 => ?_)
  · first
  | omega | contradiction
  | refine Ev.sr fun K hK => S.o q.as (S.o q.as (S.end (hK _ ?_))); clear hK K; refine Ev.ret ?_; refine Ev.ret2 ?_; refine ⟨?_, rfl⟩
    first | (rw [szV, szE, if_pos ‹_›, if_pos ‹_›]; done) | (rw [szV, szE, if_neg ‹_›, if_neg ‹_›]; done)
  · first
  | omega | contradiction
  | refine Ev.skip ?_; show Ev _ _ _ _; refine Ev.sr fun K hK => S.o q.mv (S.c0 (hF := hg ‹_›) (h := S.o q.as (S.o q.as (S.end (hK _ ?_))))); clear hK K; refine Ev.ret ?_; refine Ev.ret2 ?_; refine ⟨?_, rfl⟩
    first | (rw [szV, szE, if_pos ‹_›, if_pos ‹_›]; done) | (rw [szV, szE, if_neg ‹_›, if_neg ‹_›]; done)
theorem sized2_fun (d : Int) (g : FuncId) (c0 : List AV) (c1 : List AV) (v : Int) (hg : d ∈ sizes → Fun Tryz.prog g [.sadr c0 0, .sadr c1 0] (Ret (.lit (.int .i64 v)) [])) :
    Fun Tryz.prog 92 [.lit (.int .i64 d), .fn (.func g) [] [.sadr c0 0, .sadr c1 0]] (Ret (.tup [.lit (.int .i64 (szV d v)), .lit (.int .i64 (szE d))]) []) := by
  refine Fun.of (nt := 11) (rs := [.tmp 4, .tmp 5]) Tryz.func92 rfl rfl rfl rfl rfl ?_; refine Ev.sr fun K hK => S.o q.as (S.o q.as (S.end (hK _ ?_))); clear hK K; refine Ev.seq ?_; refine Ev.sr fun K hK => S.o q.mv (S.c0 (hF := size_fun _) (h := S.o q.not (S.end (hK _ ?_)))); clear hK K; refine Ev.cn (fun c1 => ?_) (fun c1 => ?_)
  · first
  | omega | contradiction
  | refine Ev.sr fun K hK => S.o q.as (S.o q.as (S.end (hK _ ?_))); clear hK K; refine Ev.ret ?_; refine Ev.ret2 ?_; refine ⟨?_, rfl⟩
    first | (rw [szV, szE, if_pos ‹_›, if_pos ‹_›]; done) | (rw [szV, szE, if_neg ‹_›, if_neg ‹_›]; done)
  · first
  | omega | contradiction
  | refine Ev.skip ?_; show Ev _ _ _ _; refine Ev.sr fun K hK => S.o q.mv (S.c0 (hF := hg ‹_›) (h := S.o q.as (S.o q.as (S.end (hK _ ?_))))); clear hK K; refine Ev.ret ?_; refine Ev.ret2 ?_; refine ⟨?_, rfl⟩
    first | (rw [szV, szE, if_pos ‹_›, if_pos ‹_›]; done) | (rw [szV, szE, if_neg ‹_›, if_neg ‹_›]; done)
end Go.Proofs.YtkbpignlggahaaaGreatDoor
namespace Go.Proofs.YtkbpignlggahaaaGreatDoor
open Go Go.AM
set_option linter.unusedSimpArgs false
set_option linter.unusedVariables false
set_option maxRecDepth 100000
structure Bar where
  mark : List UInt8
  size : Int
  count : Int
  code : Int
  dims : List Int
def Bar.c : Bar → List AV
  | ⟨m, s, n, k, d⟩ => [.lit (str m), .lit (.int .i64 s), .lit (.int .i64 n), .lit (.int .i64 k), .sh 1 (d.map intC)]
def legC : Int × Int → List AV
  | (a, b) => [.lit (.int .i64 a), .lit (.int .u8 b)]
def legsL (k : Int) : List (Int × Int) :=
  if k = 0 then [(0, 120)] else if k = 11 then [(0, 120), (1, 121)] else if k = 21 then [(0, 89), (1, 120), (2, 121)] else if k = 26 then [(0, 120), (1, 121), (2, 120)]
  else if k = 31 then [(0, 120), (1, 121), (2, 122)] else if k = 41 then [(0, 120), (1, 121), (2, 120), (3, 89), (4, 120)] else if k = 51 then [(2, 89), (0, 120), (1, 121), (0, 88), (1, 89), (2, 120)]
  else if k = 98 then [(0, 122), (1, 89), (2, 120), (1, 121), (0, 122)] else []
def dimsN (k : Int) : Int := if k = 0 then 1 else if k = 11 then 2 else if k = 21 then 3 else if k = 26 then 3 else if k = 31 then 3 else if k = 51 then 3 else if k = 98 then 3 else if k = 41 then 5 else 0
def dimsM (k : Int) : Int := (legsL k).foldl (fun m s => max m s.1) (-1)
theorem codes (k : Int) : k = 0 ∨ k = 11 ∨ k = 21 ∨ k = 26 ∨ k = 31 ∨ k = 41 ∨ k = 51 ∨ k = 98 ∨ (k ≠ 0 ∧ k ≠ 11 ∧ k ≠ 21 ∧ k ≠ 26 ∧ k ≠ 31 ∧ k ≠ 41 ∧ k ≠ 51 ∧ k ≠ 98) := by omega
theorem legsL_none {k : Int} (h : k ≠ 0 ∧ k ≠ 11 ∧ k ≠ 21 ∧ k ≠ 26 ∧ k ≠ 31 ∧ k ≠ 41 ∧ k ≠ 51 ∧ k ≠ 98) : legsL k = [] ∧ dimsN k = 0 := by
  obtain ⟨h1, h2, h3, h4, h5, h6, h7, h8⟩ := h
  constructor
  · rw [legsL, if_neg h1, if_neg h2, if_neg h3, if_neg h4, if_neg h5, if_neg h6, if_neg h7, if_neg h8]
  · rw [dimsN, if_neg h1, if_neg h2, if_neg h3, if_neg h4, if_neg h5, if_neg h7, if_neg h8, if_neg h6]
theorem dims_eq (k : Int) : dimsM k = dimsN k - 1 ∧ 0 ≤ dimsN k ∧ dimsN k ≤ 5 ∧ (legsL k).length ≤ 6 := by
  rcases codes k with rfl | rfl | rfl | rfl | rfl | rfl | rfl | rfl | h
  iterate 8 decide
  obtain ⟨h1, h2⟩ := legsL_none h; rw [dimsM, h1, h2]
  decide
theorem leg_bd (k : Int) : ∀ s ∈ legsL k, 0 ≤ s.1 ∧ s.1 < dimsN k := by
  rcases codes k with rfl | rfl | rfl | rfl | rfl | rfl | rfl | rfl | h
  iterate 8 decide
  rw [(legsL_none h).1]; intro s hs; cases hs
theorem legs_fun (k : Int) : Fun Tryz.prog 154 [.lit (.int .i64 k)] (Ret (.sh 2 ((legsL k).map legC)) []) := by
  refine Fun.of (nt := 56) (rs := [.tmp 2]) Tryz.func154 rfl rfl rfl rfl rfl ?_; refine Ev.sr fun K hK => S.o q.as (S.end (hK _ ?_)); clear hK K; refine Ev.seq ?_; refine Ev.sr fun K hK => S.o q.mv (S.end (hK _ ?_)); clear hK K; refine Ev.block ?_; refine Ev.sr fun K hK => S.o q.eql (S.o q.as (S.end (hK _ ?_))); clear hK K; refine Ev.cd (fun c1 => ?_) (fun c1 => ?_)
  · first
  | omega | contradiction
  | refine Ev.sr fun K hK => S.o (q.bd [_, _] am_ze196 am_pl196) (S.nn (q.bs [[_, _]] true am_el193 am_ze196 am_cl196) (S.o q.as (S.end (hK _ ?_)))); clear hK K; refine Ev.weaken (Wk.frzl (f := legC) [(⟨_, _⟩ : Int × Int)] 2 []) ?_; refine Ev.ret ?_; refine Ev.ret1 ?_; refine ⟨?_, rfl⟩
    first
     | (obtain rfl : k = 0 := by assumption
        rfl)
     | (subst k; rfl)
     | (rw [(legsL_none ⟨‹_›, ‹_›, ‹_›, ‹_›, ‹_›, ‹_›, ‹_›, ‹_›⟩).1] <;> rfl)
  · first
  | omega | contradiction
  | refine Ev.sr fun K hK => S.o q.eql (S.o q.as (S.end (hK _ ?_))); clear hK K; refine Ev.cd (fun c2 => ?_) (fun c2 => ?_)
    · first
    | omega | contradiction
    | refine Ev.sr fun K hK => S.o (q.bd [_, _] am_ze196 am_pl196) (S.o (q.bd [_, _] am_ze196 am_pl196) (S.nn (q.bs [[_, _], [_, _]] true am_el193 am_ze196 am_cl196) (S.o q.as (S.end (hK _ ?_))))); clear hK K; refine Ev.weaken (Wk.frzl (f := legC) [(⟨_, _⟩ : Int × Int), (⟨_, _⟩ : Int × Int)] 2 []) ?_; refine Ev.ret ?_; refine Ev.ret1 ?_; refine ⟨?_, rfl⟩
      first
       | (obtain rfl : k = 0 := by assumption
          rfl)
       | (subst k; rfl)
       | (rw [(legsL_none ⟨‹_›, ‹_›, ‹_›, ‹_›, ‹_›, ‹_›, ‹_›, ‹_›⟩).1] <;> rfl)
    · first
    | omega | contradiction
    | refine Ev.sr fun K hK => S.o q.eql (S.o q.as (S.end (hK _ ?_))); clear hK K; refine Ev.cd (fun c3 => ?_) (fun c3 => ?_)
      · first
      | omega | contradiction
      | refine Ev.sr fun K hK => S.o (q.bd [_, _] am_ze196 am_pl196) (S.o (q.bd [_, _] am_ze196 am_pl196) (S.o (q.bd [_, _] am_ze196 am_pl196) (S.nn (q.bs [[_, _], [_, _], [_, _]] true am_el193 am_ze196 am_cl196) (S.o q.as (S.end (hK _ ?_)))))); clear hK K; refine Ev.weaken (Wk.frzl (f := legC) [(⟨_, _⟩ : Int × Int), (⟨_, _⟩ : Int × Int), (⟨_, _⟩ : Int × Int)] 2 []) ?_; refine Ev.ret ?_; refine Ev.ret1 ?_; refine ⟨?_, rfl⟩
        first
         | (obtain rfl : k = 0 := by assumption
            rfl)
         | (subst k; rfl)
         | (rw [(legsL_none ⟨‹_›, ‹_›, ‹_›, ‹_›, ‹_›, ‹_›, ‹_›, ‹_›⟩).1] <;> rfl)
      · first
      | omega | contradiction
      | refine Ev.sr fun K hK => S.o q.eql (S.o q.as (S.end (hK _ ?_))); clear hK K; refine Ev.cd (fun c4 => ?_) (fun c4 => ?_)
        · first
        | omega | contradiction
        | refine Ev.sr fun K hK => S.o (q.bd [_, _] am_ze196 am_pl196) (S.o (q.bd [_, _] am_ze196 am_pl196) (S.o (q.bd [_, _] am_ze196 am_pl196) (S.nn (q.bs [[_, _], [_, _], [_, _]] true am_el193 am_ze196 am_cl196) (S.o q.as (S.end (hK _ ?_)))))); clear hK K; refine Ev.weaken (Wk.frzl (f := legC) [(⟨_, _⟩ : Int × Int), (⟨_, _⟩ : Int × Int), (⟨_, _⟩ : Int × Int)] 2 []) ?_; refine Ev.ret ?_; refine Ev.ret1 ?_; refine ⟨?_, rfl⟩
          first
           | (obtain rfl : k = 0 := by assumption
              rfl)
           | (subst k; rfl)
           | (rw [(legsL_none ⟨‹_›, ‹_›, ‹_›, ‹_›, ‹_›, ‹_›, ‹_›, ‹_›⟩).1] <;> rfl)
        · first
        | omega | contradiction
        | refine Ev.sr fun K hK => S.o q.eql (S.o q.as (S.end (hK _ ?_))); clear hK K; refine Ev.cd (fun c5 => ?_) (fun c5 => ?_)
          · first
          | omega | contradiction
          | refine Ev.sr fun K hK => S.o (q.bd [_, _] am_ze196 am_pl196) (S.o (q.bd [_, _] am_ze196 am_pl196) (S.o (q.bd [_, _] am_ze196 am_pl196) (S.nn (q.bs [[_, _], [_, _], [_, _]] true am_el193 am_ze196 am_cl196) (S.o q.as (S.end (hK _ ?_)))))); clear hK K; refine Ev.weaken (Wk.frzl (f := legC) [(⟨_, _⟩ : Int × Int), (⟨_, _⟩ : Int × Int), (⟨_, _⟩ : Int × Int)] 2 []) ?_; refine Ev.ret ?_; refine Ev.ret1 ?_; refine ⟨?_, rfl⟩
            first
             | (obtain rfl : k = 0 := by assumption
                rfl)
             | (subst k; rfl)
             | (rw [(legsL_none ⟨‹_›, ‹_›, ‹_›, ‹_›, ‹_›, ‹_›, ‹_›, ‹_›⟩).1] <;> rfl)
          · first
          | omega | contradiction
          | refine Ev.sr fun K hK => S.o q.eql (S.o q.as (S.end (hK _ ?_))); clear hK K; refine Ev.cd (fun c6 => ?_) (fun c6 => ?_)
            · first
            | omega | contradiction
            | refine Ev.sr fun K hK => S.o (q.bd [_, _] am_ze196 am_pl196) (S.o (q.bd [_, _] am_ze196 am_pl196) (S.o (q.bd [_, _] am_ze196 am_pl196) (S.o (q.bd [_, _] am_ze196 am_pl196) (S.o (q.bd [_, _] am_ze196 am_pl196) (S.nn (q.bs [[_, _], [_, _], [_, _], [_, _], [_, _]] true am_el193 am_ze196 am_cl196) (S.o q.as (S.end (hK _ ?_)))))))); clear hK K; refine Ev.weaken (Wk.frzl (f := legC) [(⟨_, _⟩ : Int × Int), (⟨_, _⟩ : Int × Int), (⟨_, _⟩ : Int × Int), (⟨_, _⟩ : Int × Int), (⟨_, _⟩ : Int × Int)] 2 []) ?_; refine Ev.ret ?_; refine Ev.ret1 ?_; refine ⟨?_, rfl⟩
              first
               | (obtain rfl : k = 0 := by assumption
                  rfl)
               | (subst k; rfl)
               | (rw [(legsL_none ⟨‹_›, ‹_›, ‹_›, ‹_›, ‹_›, ‹_›, ‹_›, ‹_›⟩).1] <;> rfl)
            · first
            | omega | contradiction
            | refine Ev.sr fun K hK => S.o q.eql (S.o q.as (S.end (hK _ ?_))); clear hK K; refine Ev.cd (fun c7 => ?_) (fun c7 => ?_)
              · first
              | omega | contradiction
              | refine Ev.sr fun K hK => S.o (q.bd [_, _] am_ze196 am_pl196) (S.o (q.bd [_, _] am_ze196 am_pl196) (S.o (q.bd [_, _] am_ze196 am_pl196) (S.o (q.bd [_, _] am_ze196 am_pl196) (S.o (q.bd [_, _] am_ze196 am_pl196) (S.o (q.bd [_, _] am_ze196 am_pl196) (S.nn (q.bs [[_, _], [_, _], [_, _], [_, _], [_, _], [_, _]] true am_el193 am_ze196 am_cl196) (S.o q.as (S.end (hK _ ?_))))))))); clear hK K; refine Ev.weaken (Wk.frzl (f := legC) [(⟨_, _⟩ : Int × Int), (⟨_, _⟩ : Int × Int), (⟨_, _⟩ : Int × Int), (⟨_, _⟩ : Int × Int), (⟨_, _⟩ : Int × Int), (⟨_, _⟩ : Int × Int)] 2 []) ?_; refine Ev.ret ?_; refine Ev.ret1 ?_; refine ⟨?_, rfl⟩
                first
                 | (obtain rfl : k = 0 := by assumption
                    rfl)
                 | (subst k; rfl)
                 | (rw [(legsL_none ⟨‹_›, ‹_›, ‹_›, ‹_›, ‹_›, ‹_›, ‹_›, ‹_›⟩).1] <;> rfl)
              · first
              | omega | contradiction
              | refine Ev.sr fun K hK => S.o q.eql (S.o q.as (S.end (hK _ ?_))); clear hK K; refine Ev.cd (fun c8 => ?_) (fun c8 => ?_)
                · first
                | omega | contradiction
                | refine Ev.sr fun K hK => S.o (q.bd [_, _] am_ze196 am_pl196) (S.o (q.bd [_, _] am_ze196 am_pl196) (S.o (q.bd [_, _] am_ze196 am_pl196) (S.o (q.bd [_, _] am_ze196 am_pl196) (S.o (q.bd [_, _] am_ze196 am_pl196) (S.nn (q.bs [[_, _], [_, _], [_, _], [_, _], [_, _]] true am_el193 am_ze196 am_cl196) (S.o q.as (S.end (hK _ ?_)))))))); clear hK K; refine Ev.weaken (Wk.frzl (f := legC) [(⟨_, _⟩ : Int × Int), (⟨_, _⟩ : Int × Int), (⟨_, _⟩ : Int × Int), (⟨_, _⟩ : Int × Int), (⟨_, _⟩ : Int × Int)] 2 []) ?_; refine Ev.ret ?_; refine Ev.ret1 ?_; refine ⟨?_, rfl⟩
                  first
                   | (obtain rfl : k = 0 := by assumption
                      rfl)
                   | (subst k; rfl)
                   | (rw [(legsL_none ⟨‹_›, ‹_›, ‹_›, ‹_›, ‹_›, ‹_›, ‹_›, ‹_›⟩).1] <;> rfl)
                · first
                | omega | contradiction
                | refine Ev.skip ?_; show Ev _ _ _ _; refine Ev.sr fun K hK => S.o q.as (S.end (hK _ ?_)); clear hK K; refine Ev.weaken (Wk.nsh legC 2 2) ?_; refine Ev.ret ?_; refine Ev.ret1 ?_; refine ⟨?_, rfl⟩
                  first
                   | (obtain rfl : k = 0 := by assumption
                      rfl)
                   | (subst k; rfl)
                   | (rw [(legsL_none ⟨‹_›, ‹_›, ‹_›, ‹_›, ‹_›, ‹_›, ‹_›, ‹_›⟩).1] <;> rfl)
def dimsV (k : Int) : Int := if dimsN k = 0 then 0 else dimsN k
def dimsE (k : Int) : Int := if dimsN k = 0 then 11 else 0
theorem dims_fun (k : Int) : Fun Tryz.prog 100 [.lit (.int .i64 k)] (Ret (.tup [.lit (.int .i64 (dimsV k)), .lit (.int .i64 (dimsE k))]) []) := by
  obtain ⟨d1, d2, d3, d4⟩ := dims_eq k; refine Fun.of (nt := 23) (rs := [.tmp 2, .tmp 3]) Tryz.func100 rfl rfl rfl rfl rfl ?_; refine Ev.sr fun K hK => S.o q.as (S.o q.as (S.end (hK _ ?_))); clear hK K; refine Ev.sr fun K hK => S.o q.as (S.end (hK _ ?_)); clear hK K; refine Ev.seq ?_; refine Ev.sr fun K hK => S.o q.mv (S.c0 (hF := legs_fun _) (h := S.o (q.lens am_el193) (S.o q.mv (S.end (hK _ ?_))))); clear hK K; refine Ev.block ?_; refine Ev.loopU (ι := {p : List (Int × Int) × List (Int × Int) // p.1 ++ p.2 = (legsL k) ∧ True}) [] [2, 3, 8, 9] (fun ⟨(pre, suf), _⟩ => [(10, .lit (.int .i64 ((pre.length : Int)))), (4, .lit (.int .i64 (pre.foldl (fun m s => max m s.1) (-1))))]) (fun ⟨(pre, suf), _⟩ => []) (fun ⟨(pre, suf), _⟩ => suf.length) ⟨([], (legsL k)), rfl, trivial⟩ (.c (.c (.c (.c .n)))) keep_n (slots_c (he := (by first | rfl | (congr 2; simp; done))) (h := (slots_c (he := (by first | rfl | (congr 2 <;> simp [List.foldl_append]; done))) (h := trivial)))) ?_; rintro ⟨⟨pre, suf⟩, hp, hinv⟩ R0 hR0; dsimp only [List.cons_append, List.nil_append, List.length_cons, List.length_nil]
  simp only at hp hinv
  have hpl : pre.length + suf.length = ((legsL k)).length := by rw [← hp, List.length_append]
  rcases suf with _ | ⟨s, suf⟩
  · rw [List.append_nil] at hp; simp only [List.length_nil] at hpl; refine Ev.sr fun K hK => S.o q.lss (S.end (hK _ ?_)); clear hK K; refine Ev.ud (fun c1 => ?_) (fun c1 => ?_)
    · first
    | omega | contradiction
    | refine Ev.seq ?_; refine Ev.block ?_; refine Ev.sr fun K hK => S.o (q.ix am_el193 am_cl196 (hl := (by first | exact atig (by omega)))) (S.o (q.lsA [_, _] am_ag196 am_cl196) (S.nn (q.al am_ze196) (S.sv [_, _] true [] am_in196 am_cl196 (h := S.end (hK _ ?_))))); clear hK K; refine Ev.region_S fun K hK => S.o q.mv (S.o (q.fa 0 am_fi196_0 am_cl3) (S.o (q.lv am_ag3) (S.o q.max (S.o q.as (S.end (hK _ ?_)))))); clear hK K; show Ev _ _ _ _; refine Ev.region_S fun K hK => S.o q.add (S.o q.mv (S.end (hK _ ?_))); clear hK K; refine hR0 _ _ ?_; refine roundU [] [2, 3, 8, 9] ⟨(pre ++ [s], suf), by rw [← hp]; simp, ?_⟩ ?_ keep_n (slots_c (he := (by first | rfl | (congr 2; simp; done))) (h := (slots_c (he := (by first | rfl | (congr 2 <;> simp [List.foldl_append]; done))) (h := trivial)))) (.c (.c (.c (.c .n)))); trivial; all_goals (dsimp only; simp only [List.length_cons]; omega)
    · first
    | omega | contradiction
    | refine Ev.exit ?_; refine hR0 _ _ ?_; show Ev _ _ _ _; refine Ev.seq ?_
      have hd : dimsM k = pre.foldl (fun m s => max m s.1) (-1) := by rw [dimsM, hp]
      rw [← hd]; refine Ev.sr fun K hK => S.o q.mv (S.o q.lss (S.end (hK _ ?_))); clear hK K; refine Ev.cd (fun c2 => ?_) (fun c2 => ?_)
      · first
      | omega | contradiction
      | refine Ev.sr fun K hK => S.o q.as (S.o q.as (S.end (hK _ ?_))); clear hK K; refine Ev.ret ?_; refine Ev.ret2 ?_; refine ⟨?_, rfl⟩
        first
         | (rw [dimsV, dimsE, if_pos (by omega), if_pos (by omega)]; done)
         | (rw [dimsV, dimsE, if_neg (by omega), if_neg (by omega), show dimsM k + 1 = dimsN k by omega]; done)
      · first
      | omega | contradiction
      | refine Ev.skip ?_; show Ev _ _ _ _; refine Ev.sr fun K hK => S.o q.mv (S.o q.add (S.o q.as (S.o q.as (S.end (hK _ ?_))))); clear hK K; refine Ev.ret ?_; refine Ev.ret2 ?_; refine ⟨?_, rfl⟩
        first
         | (rw [dimsV, dimsE, if_pos (by omega), if_pos (by omega)]; done)
         | (rw [dimsV, dimsE, if_neg (by omega), if_neg (by omega), show dimsM k + 1 = dimsN k by omega]; done)
  · simp only [List.length_cons] at hpl
    have hidx : (legsL k)[pre.length]? = some s := by rw [← hp]; simp
    refine Ev.sr fun K hK => S.o q.lss (S.end (hK _ ?_)); clear hK K; refine Ev.ud (fun c3 => ?_) (fun c3 => ?_)
    · first
    | omega | contradiction
    | refine Ev.seq ?_; refine Ev.block ?_; refine Ev.sr fun K hK => S.o (q.ix am_el193 am_cl196 (hl := (by first | exact ati hidx (by omega) | exact atig (by omega)))) (S.o (q.lsA [_, _] am_ag196 am_cl196) (S.nn (q.al am_ze196) (S.sv [_, _] true [] am_in196 am_cl196 (h := S.end (hK _ ?_))))); clear hK K; refine Ev.region_S fun K hK => S.o q.mv (S.o (q.fa 0 am_fi196_0 am_cl3) (S.o (q.lv am_ag3) (S.o q.max (S.o q.as (S.end (hK _ ?_)))))); clear hK K; show Ev _ _ _ _; refine Ev.region_S fun K hK => S.o q.add (S.o q.mv (S.end (hK _ ?_))); clear hK K; refine hR0 _ _ ?_; refine roundU [] [2, 3, 8, 9] ⟨(pre ++ [s], suf), by rw [← hp]; simp, ?_⟩ ?_ keep_n (slots_c (he := (by first | rfl | (congr 2; simp; done))) (h := (slots_c (he := (by first | rfl | (congr 2 <;> simp [List.foldl_append]; done))) (h := trivial)))) (.c (.c (.c (.c .n)))); trivial; all_goals (dsimp only; simp only [List.length_cons]; omega)
    · first
    | omega | contradiction
    | refine Ev.exit ?_; refine hR0 _ _ ?_; show Ev _ _ _ _; refine Ev.seq ?_
      have hd : dimsM k = pre.foldl (fun m s => max m s.1) (-1) := by rw [dimsM, hp]
      rw [← hd]; refine Ev.sr fun K hK => S.o q.mv (S.o q.lss (S.end (hK _ ?_))); clear hK K; refine Ev.cd (fun c4 => ?_) (fun c4 => ?_)
      · first
      | omega | contradiction
      | refine Ev.sr fun K hK => S.o q.as (S.o q.as (S.end (hK _ ?_))); clear hK K; refine Ev.ret ?_; refine Ev.ret2 ?_; refine ⟨?_, rfl⟩
        first
         | (rw [dimsV, dimsE, if_pos (by omega), if_pos (by omega)]; done)
         | (rw [dimsV, dimsE, if_neg (by omega), if_neg (by omega), show dimsM k + 1 = dimsN k by omega]; done)
      · first
      | omega | contradiction
      | refine Ev.skip ?_; show Ev _ _ _ _; refine Ev.sr fun K hK => S.o q.mv (S.o q.add (S.o q.as (S.o q.as (S.end (hK _ ?_))))); clear hK K; refine Ev.ret ?_; refine Ev.ret2 ?_; refine ⟨?_, rfl⟩
        first
         | (rw [dimsV, dimsE, if_pos (by omega), if_pos (by omega)]; done)
         | (rw [dimsV, dimsE, if_neg (by omega), if_neg (by omega), show dimsM k + 1 = dimsN k by omega]; done)
def sumI (l : List Int) : Int := l.foldl (· + ·) 0
theorem sumI_go : ∀ (l : List Int) (a : Int), l.foldl (· + ·) a = a + sumI l
  | [], a => by simp [sumI]
  | x :: l, a => by
    rw [sumI, List.foldl_cons, List.foldl_cons, sumI_go l, sumI_go l (0 + x)]; omega
theorem sumI_app (a b : List Int) : sumI (a ++ b) = sumI a + sumI b := by rw [sumI, List.foldl_append, sumI_go]; rfl
theorem sumI_cons (x : Int) (l : List Int) : sumI (x :: l) = x + sumI l := by rw [sumI, List.foldl_cons, sumI_go]; omega
theorem sumI_nn : ∀ l : List Int, (∀ n ∈ l, 1 ≤ n) → 0 ≤ sumI l
  | [], _ => Int.le_refl _
  | x :: l, h => by
    have := h x (by simp); have := sumI_nn l (fun n hn => h n (by simp [hn])); rw [sumI_cons]; omega
def dimsOK (l : List Int) : Prop := (∀ n ∈ l, 1 ≤ n) ∧ sumI l ≤ 262144
instance (l) : Decidable (dimsOK l) := by unfold dimsOK; infer_instance
theorem dims_cut {pre suf l : List Int} {s : Int} (hp : pre ++ s :: suf = l) (h : dimsOK l) : 1 ≤ s ∧ s ≤ 262144 - sumI pre ∧ sumI pre + s + sumI suf ≤ 262144 ∧ 0 ≤ sumI suf ∧ 0 ≤ sumI pre := by
  obtain ⟨h1, h2⟩ := h; rw [← hp, sumI_app, sumI_cons] at h2; have := sumI_nn suf (fun n hn => h1 n (by rw [← hp]; simp [hn])); have := sumI_nn pre (fun n hn => h1 n (by rw [← hp]; simp [hn])); have := h1 s (by rw [← hp]; simp); omega
theorem dims_in {l : List Int} (h : dimsOK l) {n : Int} (hn : n ∈ l) : 1 ≤ n ∧ n ≤ 262144 := by
  obtain ⟨a, b, rfl⟩ := List.append_of_mem hn; have := dims_cut rfl h; omega
def okBar (b : Bar) : Prop := IsName b.mark ∧ b.size ∈ sizes ∧ 1 ≤ b.count ∧ b.count ≤ 1000 ∧ dimsN b.code ≠ 0 ∧ (b.dims.length : Int) = dimsN b.code ∧ dimsOK b.dims
instance (b) : Decidable (okBar b) := by unfold okBar; infer_instance
def Bar.w (b : Bar) : Prop := b.mark.length ≤ 140737488355328 ∧ b.dims.length ≤ 140737488355328
theorem dimsE_iff {k : Int} : dimsE k = 0 ↔ dimsN k ≠ 0 := by
  unfold dimsE
  split <;> simp [*]
theorem valid_fun (b : Bar) (hw : b.w) : Fun Tryz.prog 56 [.agg b.c] (Ret (.lit (.bool (decide (okBar b)))) []) := by
  obtain ⟨hw1, hw2⟩ := hw; have he := @dimsE_iff b.code; have hv : dimsE b.code = 0 → dimsV b.code = dimsN b.code := fun h => if_neg (he.1 h)
  have hok : okBar b ↔ IsName b.mark ∧ b.size ∈ sizes ∧ 1 ≤ b.count ∧ b.count ≤ 1000 ∧ dimsE b.code = 0 ∧ (b.dims.length : Int) = dimsV b.code ∧ dimsOK b.dims := by
    unfold okBar
    constructor
    · rintro ⟨h1, h2, h3, h4, h5, h6, h7⟩; have h8 := he.2 h5; exact ⟨h1, h2, h3, h4, h8, by rw [hv h8]; exact h6, h7⟩
    · rintro ⟨h1, h2, h3, h4, h5, h6, h7⟩; exact ⟨h1, h2, h3, h4, he.1 h5, by rw [← hv h5]; exact h6, h7⟩
  refine Fun.of (nt := 63) (rs := [.tmp 2]) Tryz.func56 rfl rfl rfl rfl rfl ?_; refine Ev.sr fun K hK => S.nn (q.bx [_, _, _, _, _] true) (S.o q.as (S.end (hK _ ?_))); clear hK K; refine Ev.sr fun K hK => S.o (q.fa 3 am_fi72_3 am_cl3) (S.o (q.lv am_ag3) (S.c0 (hF := dims_fun _) (h := S.o q.mv (S.o q.ex (S.o q.ex (S.o q.as (S.o q.as (S.end (hK _ ?_))))))))); clear hK K; refine Ev.seq ?_; refine Ev.sr fun K hK => S.o q.mv (S.o q.neq (S.bn q.mv (fun c1 => ?_) (fun c1 => ?_)))
  · first
  | omega | contradiction
  | refine S.sk (S.sk (S.sk (S.sk (S.o q.pt (S.o q.mv (S.sk (S.sk (S.sk (S.sk (S.o q.pt (S.o q.mv (S.sk (S.sk (S.sk (S.o q.pt (S.o q.mv (S.sk (S.sk (S.sk (S.o q.pt (S.o q.mv (S.sk (S.sk (S.sk (S.sk (S.sk (S.o q.pt (S.end (hK _ ?_))))))))))))))))))))))))))))); clear hK K; refine Ev.ct ?_; refine Ev.sr fun K hK => S.o q.as (S.end (hK _ ?_)); clear hK K; refine Ev.ret ?_; refine Ev.ret1 ?_; refine ⟨?_, rfl⟩
    first
     | exact bT (hok.2 ⟨‹_›, ‹_›, by omega, by omega, by omega, by omega, by rw [← hp]; exact hinv⟩)
     | exact bF (fun h => absurd (hok.1 h).1 ‹_›)
     | exact bF (fun h => absurd (hok.1 h).2.1 ‹_›)
     | exact bF (fun h => by have h1 := (hok.1 h).2.2.1; have h2 := (hok.1 h).2.2.2.1; have h3 := (hok.1 h).2.2.2.2.1; have h4 := (hok.1 h).2.2.2.2.2.1; omega)
     | exact bF (fun h => by have h1 := dims_cut hp (hok.1 h).2.2.2.2.2.2; omega)
  · first
  | omega | contradiction
  | refine S.o (q.fa 0 am_fi72_0 am_cl9) (S.o (q.lv am_ag9) (S.c0 (hF := isName_fun _ (by omega)) (h := S.o q.not (S.o q.pf (S.bn q.mv (fun c2 => ?_) (fun c2 => ?_))))))
    · first
    | omega | contradiction
    | refine S.sk (S.sk (S.sk (S.sk (S.o q.pt (S.o q.mv (S.sk (S.sk (S.sk (S.o q.pt (S.o q.mv (S.sk (S.sk (S.sk (S.o q.pt (S.o q.mv (S.sk (S.sk (S.sk (S.sk (S.sk (S.o q.pt (S.end (hK _ ?_))))))))))))))))))))))); clear hK K; refine Ev.ct ?_; refine Ev.sr fun K hK => S.o q.as (S.end (hK _ ?_)); clear hK K; refine Ev.ret ?_; refine Ev.ret1 ?_; refine ⟨?_, rfl⟩
      first
       | exact bT (hok.2 ⟨‹_›, ‹_›, by omega, by omega, by omega, by omega, by rw [← hp]; exact hinv⟩)
       | exact bF (fun h => absurd (hok.1 h).1 ‹_›)
       | exact bF (fun h => absurd (hok.1 h).2.1 ‹_›)
       | exact bF (fun h => by have h1 := (hok.1 h).2.2.1; have h2 := (hok.1 h).2.2.2.1; have h3 := (hok.1 h).2.2.2.2.1; have h4 := (hok.1 h).2.2.2.2.2.1; omega)
       | exact bF (fun h => by have h1 := dims_cut hp (hok.1 h).2.2.2.2.2.2; omega)
    · first
    | omega | contradiction
    | refine S.o (q.fa 1 am_fi72_1 am_cl3) (S.o (q.lv am_ag3) (S.c0 (hF := size_fun _) (h := S.o q.not (S.o q.pf (S.bn q.mv (fun c3 => ?_) (fun c3 => ?_))))))
      · first
      | omega | contradiction
      | refine S.sk (S.sk (S.sk (S.o q.pt (S.o q.mv (S.sk (S.sk (S.sk (S.o q.pt (S.o q.mv (S.sk (S.sk (S.sk (S.sk (S.sk (S.o q.pt (S.end (hK _ ?_))))))))))))))))); clear hK K; refine Ev.ct ?_; refine Ev.sr fun K hK => S.o q.as (S.end (hK _ ?_)); clear hK K; refine Ev.ret ?_; refine Ev.ret1 ?_; refine ⟨?_, rfl⟩
        first
         | exact bT (hok.2 ⟨‹_›, ‹_›, by omega, by omega, by omega, by omega, by rw [← hp]; exact hinv⟩)
         | exact bF (fun h => absurd (hok.1 h).1 ‹_›)
         | exact bF (fun h => absurd (hok.1 h).2.1 ‹_›)
         | exact bF (fun h => by have h1 := (hok.1 h).2.2.1; have h2 := (hok.1 h).2.2.2.1; have h3 := (hok.1 h).2.2.2.2.1; have h4 := (hok.1 h).2.2.2.2.2.1; omega)
         | exact bF (fun h => by have h1 := dims_cut hp (hok.1 h).2.2.2.2.2.2; omega)
      · first
      | omega | contradiction
      | refine S.o (q.fa 2 am_fi72_2 am_cl3) (S.o (q.lv am_ag3) (S.o q.lss (S.o q.pf (S.bd q.mv (fun c4 => ?_) (fun c4 => ?_)))))
        · first
        | omega | contradiction
        | refine S.sk (S.sk (S.sk (S.o q.pt (S.o q.mv (S.sk (S.sk (S.sk (S.sk (S.sk (S.o q.pt (S.end (hK _ ?_)))))))))))); clear hK K; refine Ev.ct ?_; refine Ev.sr fun K hK => S.o q.as (S.end (hK _ ?_)); clear hK K; refine Ev.ret ?_; refine Ev.ret1 ?_; refine ⟨?_, rfl⟩
          first
           | exact bT (hok.2 ⟨‹_›, ‹_›, by omega, by omega, by omega, by omega, by rw [← hp]; exact hinv⟩)
           | exact bF (fun h => absurd (hok.1 h).1 ‹_›)
           | exact bF (fun h => absurd (hok.1 h).2.1 ‹_›)
           | exact bF (fun h => by have h1 := (hok.1 h).2.2.1; have h2 := (hok.1 h).2.2.2.1; have h3 := (hok.1 h).2.2.2.2.1; have h4 := (hok.1 h).2.2.2.2.2.1; omega)
           | exact bF (fun h => by have h1 := dims_cut hp (hok.1 h).2.2.2.2.2.2; omega)
        · first
        | omega | contradiction
        | refine S.o (q.fa 2 am_fi72_2 am_cl3) (S.o (q.lv am_ag3) (S.o q.gtr (S.o q.pf (S.bd q.mv (fun c5 => ?_) (fun c5 => ?_)))))
          · first
          | omega | contradiction
          | refine S.sk (S.sk (S.sk (S.sk (S.sk (S.o q.pt (S.end (hK _ ?_))))))); clear hK K; refine Ev.ct ?_; refine Ev.sr fun K hK => S.o q.as (S.end (hK _ ?_)); clear hK K; refine Ev.ret ?_; refine Ev.ret1 ?_; refine ⟨?_, rfl⟩
            first
             | exact bT (hok.2 ⟨‹_›, ‹_›, by omega, by omega, by omega, by omega, by rw [← hp]; exact hinv⟩)
             | exact bF (fun h => absurd (hok.1 h).1 ‹_›)
             | exact bF (fun h => absurd (hok.1 h).2.1 ‹_›)
             | exact bF (fun h => by have h1 := (hok.1 h).2.2.1; have h2 := (hok.1 h).2.2.2.1; have h3 := (hok.1 h).2.2.2.2.1; have h4 := (hok.1 h).2.2.2.2.2.1; omega)
             | exact bF (fun h => by have h1 := dims_cut hp (hok.1 h).2.2.2.2.2.2; omega)
          · first
          | omega | contradiction
          | refine S.o (q.fa 4 am_fi72_4 am_cl66) (S.o (q.lv am_ag66) (S.o (q.lens am_el66) (S.o q.mv (S.o q.neq (S.o q.pf (S.end (hK _ ?_))))))); clear hK K; refine Ev.cn (fun c6 => ?_) (fun c6 => ?_)
            · first
            | omega | contradiction
            | refine Ev.sr fun K hK => S.o q.as (S.end (hK _ ?_)); clear hK K; refine Ev.ret ?_; refine Ev.ret1 ?_; refine ⟨?_, rfl⟩
              first
               | exact bT (hok.2 ⟨‹_›, ‹_›, by omega, by omega, by omega, by omega, by rw [← hp]; exact hinv⟩)
               | exact bF (fun h => absurd (hok.1 h).1 ‹_›)
               | exact bF (fun h => absurd (hok.1 h).2.1 ‹_›)
               | exact bF (fun h => by have h1 := (hok.1 h).2.2.1; have h2 := (hok.1 h).2.2.2.1; have h3 := (hok.1 h).2.2.2.2.1; have h4 := (hok.1 h).2.2.2.2.2.1; omega)
               | exact bF (fun h => by have h1 := dims_cut hp (hok.1 h).2.2.2.2.2.2; omega)
            · first
            | omega | contradiction
            | refine Ev.skip ?_; show Ev _ _ _ _; refine Ev.sr fun K hK => S.o q.as (S.end (hK _ ?_)); clear hK K; refine Ev.seq ?_; refine Ev.sr fun K hK => S.o (q.fa 4 am_fi72_4 am_cl66) (S.o (q.lv am_ag66) (S.o (q.lens am_el66) (S.o q.mv (S.end (hK _ ?_))))); clear hK K; refine Ev.block ?_; refine Ev.loopU (ι := {q : List Int × List Int // q.1 ++ q.2 = b.dims ∧ dimsOK q.1}) [] [46, 47] (fun ⟨(pre, suf), _⟩ => [(48, .lit (.int .i64 ((pre.length : Int)))), (5, .lit (.int .i64 (262144 - sumI pre)))]) (fun ⟨(pre, suf), _⟩ => []) (fun ⟨(pre, suf), _⟩ => suf.length) ⟨([], b.dims), rfl, (show dimsOK [] by decide)⟩ (.c (.c .n)) keep_n (slots_c (he := (by first | rfl | (congr 2; simp; done))) (h := (slots_c (he := (by first | rfl | (congr 2; rw [sumI_app, show sumI [s] = s by simp [sumI]]; omega))) (h := trivial)))) ?_; rintro ⟨⟨pre, suf⟩, hp, hinv⟩ R0 hR0; dsimp only [List.cons_append, List.nil_append, List.length_cons, List.length_nil]
              simp only at hp hinv
              have hpl : pre.length + suf.length = (b.dims).length := by rw [← hp, List.length_append]
              rcases suf with _ | ⟨s, suf⟩
              · rw [List.append_nil] at hp; simp only [List.length_nil] at hpl; refine Ev.sr fun K hK => S.o q.lss (S.end (hK _ ?_)); clear hK K; refine Ev.ud (fun c7 => ?_) (fun c7 => ?_)
                · first
                | omega | contradiction
                | refine Ev.seq ?_; refine Ev.block ?_; refine Ev.sr fun K hK => S.o (q.ix am_el66 am_cl3 (hl := (by first | exact atig (by omega)))) (S.o (q.ls am_ag3) (S.o q.as (S.end (hK _ ?_)))); clear hK K; refine Ev.seq ?_; refine Ev.sr fun K hK => S.o q.mv (S.o q.lss (S.bd q.mv (fun c8 => ?_) (fun c8 => ?_)))
                  · first
                  | omega | contradiction
                  | refine S.sk (S.sk (S.sk (S.o q.pt (S.end (hK _ ?_))))); clear hK K; refine Ev.ct ?_; refine Ev.sr fun K hK => S.o q.as (S.end (hK _ ?_)); clear hK K; refine Ev.ret ?_; refine hR0 _ _ ?_; refine Ev.ret1 ?_; refine ⟨?_, rfl⟩
                    first
                     | exact bT (hok.2 ⟨‹_›, ‹_›, by omega, by omega, by omega, by omega, by rw [← hp]; exact hinv⟩)
                     | exact bF (fun h => absurd (hok.1 h).1 ‹_›)
                     | exact bF (fun h => absurd (hok.1 h).2.1 ‹_›)
                     | exact bF (fun h => by have h1 := (hok.1 h).2.2.1; have h2 := (hok.1 h).2.2.2.1; have h3 := (hok.1 h).2.2.2.2.1; have h4 := (hok.1 h).2.2.2.2.2.1; omega)
                     | exact bF (fun h => by have h1 := dims_cut hp (hok.1 h).2.2.2.2.2.2; omega)
                  · first
                  | omega | contradiction
                  | refine S.o q.mv (S.o q.mv (S.o q.gtr (S.o q.pf (S.end (hK _ ?_))))); clear hK K; refine Ev.cd (fun c9 => ?_) (fun c9 => ?_)
                    · first
                    | omega | contradiction
                    | refine Ev.sr fun K hK => S.o q.as (S.end (hK _ ?_)); clear hK K; refine Ev.ret ?_; refine hR0 _ _ ?_; refine Ev.ret1 ?_; refine ⟨?_, rfl⟩
                      first
                       | exact bT (hok.2 ⟨‹_›, ‹_›, by omega, by omega, by omega, by omega, by rw [← hp]; exact hinv⟩)
                       | exact bF (fun h => absurd (hok.1 h).1 ‹_›)
                       | exact bF (fun h => absurd (hok.1 h).2.1 ‹_›)
                       | exact bF (fun h => by have h1 := (hok.1 h).2.2.1; have h2 := (hok.1 h).2.2.2.1; have h3 := (hok.1 h).2.2.2.2.1; have h4 := (hok.1 h).2.2.2.2.2.1; omega)
                       | exact bF (fun h => by have h1 := dims_cut hp (hok.1 h).2.2.2.2.2.2; omega)
                    · first
                    | omega | contradiction
                    | refine Ev.skip ?_; show Ev _ _ _ _; refine Ev.region_S fun K hK => S.o q.mv (S.o q.mv (S.o q.sub (S.o q.as (S.end (hK _ ?_))))); clear hK K; show Ev _ _ _ _; refine Ev.region_S fun K hK => S.o q.add (S.o q.mv (S.end (hK _ ?_))); clear hK K; refine hR0 _ _ ?_; refine roundU [] [46, 47] ⟨(pre ++ [s], suf), by rw [← hp]; simp, ?_⟩ ?_ keep_n (slots_c (he := (by first | rfl | (congr 2; simp; done))) (h := (slots_c (he := (by first | rfl | (congr 2; rw [sumI_app, show sumI [s] = s by simp [sumI]]; omega))) (h := trivial)))) (.c (.c .n)); refine ⟨fun n hn => ?_, by rw [sumI_app, show sumI [s] = s by simp [sumI]]; omega⟩; simp only [List.mem_append, List.mem_singleton] at hn
                      rcases hn with hn | rfl
                      · exact hinv.1 n hn
                      · omega
                      all_goals (dsimp only; simp only [List.length_cons]; omega)
                · first
                | omega | contradiction
                | refine Ev.exit ?_; refine hR0 _ _ ?_; show Ev _ _ _ _; refine Ev.sr fun K hK => S.o q.as (S.end (hK _ ?_)); clear hK K; refine Ev.ret ?_; refine Ev.ret1 ?_; refine ⟨?_, rfl⟩
                  first
                   | exact bT (hok.2 ⟨‹_›, ‹_›, by omega, by omega, by omega, by omega, by rw [← hp]; exact hinv⟩)
                   | exact bF (fun h => absurd (hok.1 h).1 ‹_›)
                   | exact bF (fun h => absurd (hok.1 h).2.1 ‹_›)
                   | exact bF (fun h => by have h1 := (hok.1 h).2.2.1; have h2 := (hok.1 h).2.2.2.1; have h3 := (hok.1 h).2.2.2.2.1; have h4 := (hok.1 h).2.2.2.2.2.1; omega)
                   | exact bF (fun h => by have h1 := dims_cut hp (hok.1 h).2.2.2.2.2.2; omega)
              · simp only [List.length_cons] at hpl
                have hidx : b.dims[pre.length]? = some s := by rw [← hp]; simp
                have hnn := sumI_nn pre hinv.1; have hle := hinv.2; refine Ev.sr fun K hK => S.o q.lss (S.end (hK _ ?_)); clear hK K; refine Ev.ud (fun c10 => ?_) (fun c10 => ?_)
                · first
                | omega | contradiction
                | refine Ev.seq ?_; refine Ev.block ?_; refine Ev.sr fun K hK => S.o (q.ix am_el66 am_cl3 (hl := (by first | exact ati hidx (by omega) | exact atig (by omega)))) (S.o (q.ls am_ag3) (S.o q.as (S.end (hK _ ?_)))); clear hK K; refine Ev.seq ?_; refine Ev.sr fun K hK => S.o q.mv (S.o q.lss (S.bd q.mv (fun c11 => ?_) (fun c11 => ?_)))
                  · first
                  | omega | contradiction
                  | refine S.sk (S.sk (S.sk (S.o q.pt (S.end (hK _ ?_))))); clear hK K; refine Ev.ct ?_; refine Ev.sr fun K hK => S.o q.as (S.end (hK _ ?_)); clear hK K; refine Ev.ret ?_; refine hR0 _ _ ?_; refine Ev.ret1 ?_; refine ⟨?_, rfl⟩
                    first
                     | exact bT (hok.2 ⟨‹_›, ‹_›, by omega, by omega, by omega, by omega, by rw [← hp]; exact hinv⟩)
                     | exact bF (fun h => absurd (hok.1 h).1 ‹_›)
                     | exact bF (fun h => absurd (hok.1 h).2.1 ‹_›)
                     | exact bF (fun h => by have h1 := (hok.1 h).2.2.1; have h2 := (hok.1 h).2.2.2.1; have h3 := (hok.1 h).2.2.2.2.1; have h4 := (hok.1 h).2.2.2.2.2.1; omega)
                     | exact bF (fun h => by have h1 := dims_cut hp (hok.1 h).2.2.2.2.2.2; omega)
                  · first
                  | omega | contradiction
                  | refine S.o q.mv (S.o q.mv (S.o q.gtr (S.o q.pf (S.end (hK _ ?_))))); clear hK K; refine Ev.cd (fun c12 => ?_) (fun c12 => ?_)
                    · first
                    | omega | contradiction
                    | refine Ev.sr fun K hK => S.o q.as (S.end (hK _ ?_)); clear hK K; refine Ev.ret ?_; refine hR0 _ _ ?_; refine Ev.ret1 ?_; refine ⟨?_, rfl⟩
                      first
                       | exact bT (hok.2 ⟨‹_›, ‹_›, by omega, by omega, by omega, by omega, by rw [← hp]; exact hinv⟩)
                       | exact bF (fun h => absurd (hok.1 h).1 ‹_›)
                       | exact bF (fun h => absurd (hok.1 h).2.1 ‹_›)
                       | exact bF (fun h => by have h1 := (hok.1 h).2.2.1; have h2 := (hok.1 h).2.2.2.1; have h3 := (hok.1 h).2.2.2.2.1; have h4 := (hok.1 h).2.2.2.2.2.1; omega)
                       | exact bF (fun h => by have h1 := dims_cut hp (hok.1 h).2.2.2.2.2.2; omega)
                    · first
                    | omega | contradiction
                    | refine Ev.skip ?_; show Ev _ _ _ _; refine Ev.region_S fun K hK => S.o q.mv (S.o q.mv (S.o q.sub (S.o q.as (S.end (hK _ ?_))))); clear hK K; show Ev _ _ _ _; refine Ev.region_S fun K hK => S.o q.add (S.o q.mv (S.end (hK _ ?_))); clear hK K; refine hR0 _ _ ?_; refine roundU [] [46, 47] ⟨(pre ++ [s], suf), by rw [← hp]; simp, ?_⟩ ?_ keep_n (slots_c (he := (by first | rfl | (congr 2; simp; done))) (h := (slots_c (he := (by first | rfl | (congr 2; rw [sumI_app, show sumI [s] = s by simp [sumI]]; omega))) (h := trivial)))) (.c (.c .n)); refine ⟨fun n hn => ?_, by rw [sumI_app, show sumI [s] = s by simp [sumI]]; omega⟩; simp only [List.mem_append, List.mem_singleton] at hn
                      rcases hn with hn | rfl
                      · exact hinv.1 n hn
                      · omega
                      all_goals (dsimp only; simp only [List.length_cons]; omega)
                · first
                | omega | contradiction
                | refine Ev.exit ?_; refine hR0 _ _ ?_; show Ev _ _ _ _; refine Ev.sr fun K hK => S.o q.as (S.end (hK _ ?_)); clear hK K; refine Ev.ret ?_; refine Ev.ret1 ?_; refine ⟨?_, rfl⟩
                  first
                   | exact bT (hok.2 ⟨‹_›, ‹_›, by omega, by omega, by omega, by omega, by rw [← hp]; exact hinv⟩)
                   | exact bF (fun h => absurd (hok.1 h).1 ‹_›)
                   | exact bF (fun h => absurd (hok.1 h).2.1 ‹_›)
                   | exact bF (fun h => by have h1 := (hok.1 h).2.2.1; have h2 := (hok.1 h).2.2.2.1; have h3 := (hok.1 h).2.2.2.2.1; have h4 := (hok.1 h).2.2.2.2.2.1; omega)
                   | exact bF (fun h => by have h1 := dims_cut hp (hok.1 h).2.2.2.2.2.2; omega)
end Go.Proofs.YtkbpignlggahaaaGreatDoor
namespace Go.Proofs.YtkbpignlggahaaaGreatDoor
open Go Go.AM
set_option linter.unusedSimpArgs false
set_option linter.unusedVariables false
set_option maxRecDepth 100000
theorem indexFuncBar1 (g : FuncId) (c0 : List AV) (p : Bar → Bool) (hg : ∀ s, Fun Tryz.prog g [.agg (Bar.c s), .sadr c0 0] (Ret (.lit (.bool (p s))) [])) (l : List (Bar)) (hlen : l.length ≤ 140737488355328) :
    Fun Tryz.prog 50 [.sh 5 (l.map Bar.c), .fn (.func g) [] [.sadr c0 0]] (Ret (.lit (.int .i64 (idxP p l 0))) []) := by
  refine Fun.of (nt := 19) (rs := [.tmp 4]) Tryz.func50 rfl rfl rfl rfl rfl ?_; refine Ev.sr fun K hK => S.o q.as (S.end (hK _ ?_)); clear hK K; refine Ev.seq ?_; refine Ev.sr fun K hK => S.o q.mv (S.o (q.lens am_el27) (S.o q.mv (S.end (hK _ ?_)))); clear hK K; refine Ev.block ?_; refine Ev.loopU (ι := {q : List (Bar) × List (Bar) // q.1 ++ q.2 = l ∧ ∀ x ∈ q.1, p x = false}) [] [0, 1, 7] (fun ⟨(pre, suf), _⟩ => [(8, .lit (.int .i64 ((pre.length : Int))))]) (fun ⟨(pre, suf), _⟩ => []) (fun ⟨(pre, suf), _⟩ => suf.length) ⟨([], l), rfl, fun x hx => by simp at hx⟩ (.c (.c (.c .n))) keep_n (slots_c (he := (by first | rfl | (simp; done) | (congr 2; omega))) (h := trivial)) ?_; rintro ⟨⟨pre, suf⟩, hp, hinv⟩ R0 hR0; dsimp only [List.cons_append, List.nil_append, List.length_cons, List.length_nil]
  simp only at hp hinv
  have hpl : pre.length + suf.length = (l).length := by rw [← hp, List.length_append]
  rcases suf with _ | ⟨s, suf⟩
  · rw [List.append_nil] at hp; subst hp; simp only [List.length_nil] at hpl; refine Ev.sr fun K hK => S.o q.lss (S.end (hK _ ?_)); clear hK K; refine Ev.ud (fun c1 => ?_) (fun c1 => ?_)
    · first
    | omega | contradiction
    | refine Ev.seq ?_; refine Ev.block ?_; refine Ev.sr fun K hK => S.o q.mv (S.o q.as (S.end (hK _ ?_))); clear hK K; refine Ev.sr fun K hK => S.o q.mv (S.o q.mv (S.o q.mv (S.o (q.ix am_el27 am_cl72 (hl := (by first | exact atig (by omega)))) (S.o (q.lsA [_, _, _, _, _] am_ag72 am_cl72) (S.c0 (hF := hg s) (h := S.end (hK _ ?_))))))); clear hK K; refine Ev.c (fun c2 => ?_) (fun c2 => ?_)
      · first
      | omega | contradiction
      | refine Ev.sr fun K hK => S.o q.mv (S.o q.as (S.end (hK _ ?_))); clear hK K; refine Ev.ret ?_; refine hR0 _ _ ?_; refine Ev.ret1 ?_; refine ⟨?_, rfl⟩
        first | (congr 2; rw [← hp, idxP_append p pre _ 0 hinv, idxP, if_pos ‹_›]; omega) | (congr 2; rw [idxP_none p pre 0 hinv])
      · first
      | omega | contradiction
      | refine Ev.skip ?_; show Ev _ _ _ _; refine Ev.region_S fun K hK => S.o q.add (S.o q.mv (S.end (hK _ ?_))); clear hK K; refine hR0 _ _ ?_; refine roundU [] [0, 1, 7] ⟨(pre ++ [s], suf), by rw [← hp]; simp, ?_⟩ ?_ keep_n (slots_c (he := (by first | rfl | (simp; done) | (congr 2; omega))) (h := trivial)) (.c (.c (.c .n)))
        intro x hx; simp only [List.mem_append, List.mem_singleton] at hx; rcases hx with hx | rfl
        · exact hinv x hx
        · assumption
        all_goals (dsimp only; simp only [List.length_cons]; omega)
    · first
    | omega | contradiction
    | refine Ev.exit ?_; refine hR0 _ _ ?_; show Ev _ _ _ _; refine Ev.sr fun K hK => S.o q.as (S.end (hK _ ?_)); clear hK K; refine Ev.ret ?_; refine Ev.ret1 ?_; refine ⟨?_, rfl⟩
      first | (congr 2; rw [← hp, idxP_append p pre _ 0 hinv, idxP, if_pos ‹_›]; omega) | (congr 2; rw [idxP_none p pre 0 hinv])
  · simp only [List.length_cons] at hpl
    have hidx : (l)[pre.length]? = some s := by rw [← hp]; simp
    refine Ev.sr fun K hK => S.o q.lss (S.end (hK _ ?_)); clear hK K; refine Ev.ud (fun c3 => ?_) (fun c3 => ?_)
    · first
    | omega | contradiction
    | refine Ev.seq ?_; refine Ev.block ?_; refine Ev.sr fun K hK => S.o q.mv (S.o q.as (S.end (hK _ ?_))); clear hK K; refine Ev.sr fun K hK => S.o q.mv (S.o q.mv (S.o q.mv (S.o (q.ix am_el27 am_cl72 (hl := (by first | exact ati hidx (by omega) | exact atig (by omega)))) (S.o (q.lsA [_, _, _, _, _] am_ag72 am_cl72) (S.c0 (hF := hg s) (h := S.end (hK _ ?_))))))); clear hK K; refine Ev.c (fun c4 => ?_) (fun c4 => ?_)
      · first
      | omega | contradiction
      | refine Ev.sr fun K hK => S.o q.mv (S.o q.as (S.end (hK _ ?_))); clear hK K; refine Ev.ret ?_; refine hR0 _ _ ?_; refine Ev.ret1 ?_; refine ⟨?_, rfl⟩
        first | (congr 2; rw [← hp, idxP_append p pre _ 0 hinv, idxP, if_pos ‹_›]; omega) | (congr 2; rw [idxP_none p pre 0 hinv])
      · first
      | omega | contradiction
      | refine Ev.skip ?_; show Ev _ _ _ _; refine Ev.region_S fun K hK => S.o q.add (S.o q.mv (S.end (hK _ ?_))); clear hK K; refine hR0 _ _ ?_; refine roundU [] [0, 1, 7] ⟨(pre ++ [s], suf), by rw [← hp]; simp, ?_⟩ ?_ keep_n (slots_c (he := (by first | rfl | (simp; done) | (congr 2; omega))) (h := trivial)) (.c (.c (.c .n)))
        intro x hx; simp only [List.mem_append, List.mem_singleton] at hx; rcases hx with hx | rfl
        · exact hinv x hx
        · assumption
        all_goals (dsimp only; simp only [List.length_cons]; omega)
    · first
    | omega | contradiction
    | refine Ev.exit ?_; refine hR0 _ _ ?_; show Ev _ _ _ _; refine Ev.sr fun K hK => S.o q.as (S.end (hK _ ?_)); clear hK K; refine Ev.ret ?_; refine Ev.ret1 ?_; refine ⟨?_, rfl⟩
      first | (congr 2; rw [← hp, idxP_append p pre _ 0 hinv, idxP, if_pos ‹_›]; omega) | (congr 2; rw [idxP_none p pre 0 hinv])
theorem containsFuncBar1 (g : FuncId) (c0 : List AV) (p : Bar → Bool) (hg : ∀ s, Fun Tryz.prog g [.agg (Bar.c s), .sadr c0 0] (Ret (.lit (.bool (p s))) [])) (l : List (Bar)) (hlen : l.length ≤ 140737488355328) :
    Fun Tryz.prog 27 [.sh 5 (l.map Bar.c), .fn (.func g) [] [.sadr c0 0]] (Ret (.lit (.bool (decide (∃ x ∈ l, p x = true)))) []) := by
  have hd : (decide (∃ x ∈ l, p x = true)) = decide (0 ≤ idxP p l 0) := by simp only [idxP_nonneg p l 0 (Int.le_refl _)]
  rw [hd]; refine Fun.of (nt := 9) (rs := [.tmp 4]) Tryz.func27 rfl rfl rfl rfl rfl ?_; refine Ev.sr fun K hK => S.o q.as (S.end (hK _ ?_)); clear hK K; refine Ev.sr fun K hK => S.o q.mv (S.o q.mv (S.c0 (hF := indexFuncBar1 g c0 p hg l hlen) (h := S.o q.geq (S.o q.as (S.end (hK _ ?_)))))); clear hK K; refine Ev.ret ?_; refine Ev.ret1 ?_; refine ⟨?_, rfl⟩; rfl
theorem index1_fun (mk : List UInt8) (b : Bar) : Fun Tryz.prog 102 [.agg b.c, .sadr [.lit (str mk)] 0] (Ret (.lit (.bool (decide (b.mark = mk)))) []) := by
  refine Fun.of (nt := 8) (rs := [.tmp 3]) Tryz.func102 rfl rfl rfl rfl rfl ?_; refine Ev.sr fun K hK => S.nn (q.bx [_, _, _, _, _] true) (S.o q.as (S.end (hK _ ?_))); clear hK K; refine Ev.sr fun K hK => S.o (q.fa 0 am_fi72_0 am_cl9) (S.o (q.lv am_ag9) (S.o (q.ls am_ag9) (S.o q.seqs (S.o q.as (S.end (hK _ ?_)))))); clear hK K; refine Ev.ret ?_; refine Ev.ret1 ?_; refine ⟨?_, rfl⟩; rfl
def markI (l : List Bar) (mk : List UInt8) : Int := idxP (fun b => decide (b.mark = mk)) l 0
theorem schedIndex_fun (l : List Bar) (mk : List UInt8) (hlen : l.length ≤ 140737488355328) : Fun Tryz.prog 57 [.sh 5 (l.map Bar.c), .lit (str mk)] (Ret (.lit (.int .i64 (markI l mk))) []) := by
  refine Fun.of (nt := 8) (rs := [.tmp 4]) Tryz.func57 rfl rfl rfl rfl rfl ?_; refine Ev.sr fun K hK => S.nn (q.bx [_] true) (S.o q.as (S.end (hK _ ?_))); clear hK K; refine Ev.sr fun K hK => S.o q.mv (S.o q.mf (S.c0 (hF := indexFuncBar1 _ _ _ (index1_fun mk) l (by omega)) (h := S.o q.as (S.end (hK _ ?_))))); clear hK K; refine Ev.ret ?_; refine Ev.ret1 ?_; refine ⟨?_, rfl⟩; rfl
def okSched (l : List Bar) : Prop := l.length ≤ 60 ∧ (∀ b ∈ l, okBar b) ∧ l.Pairwise (fun a b => a.mark ≠ b.mark)
instance (l) : Decidable (okSched l) := by unfold okSched; infer_instance
def schedW (l : List Bar) : Prop := ∀ b ∈ l, b.w
theorem markI_at {pre suf l : List Bar} {s : Bar} (hp : pre ++ s :: suf = l) : markI l s.mark = pre.length ↔ ∀ a ∈ pre, a.mark ≠ s.mark := by
  constructor
  · intro h a ha hm; obtain ⟨p1, p2, rfl⟩ := List.append_of_mem ha
    have hle : markI l s.mark ≤ p1.length := by
      rw [← hp, markI, List.append_assoc]
      have : ∀ (q : List Bar) (k : Int) (r : List Bar), a.mark = s.mark → idxP (fun b : Bar => decide (b.mark = s.mark)) (q ++ a :: r) k ≤ k + q.length := by
        intro q
        induction q with
        | nil => intro k r hm; rw [List.nil_append, idxP, if_pos (by simp [hm])]; simp
        | cons x q ih =>
          intro k r hm; rw [List.cons_append, idxP]
          split
          · simp only [List.length_cons]; omega
          · have := ih (k + 1) r hm; simp only [List.length_cons]; omega
      have := this p1 0 (p2 ++ s :: suf) hm
      simpa using this
    rw [h] at hle; simp only [List.length_append, List.length_cons] at hle; omega
  · intro h; rw [markI, ← hp, idxP_append _ pre _ 0 (fun a ha => by simp [h a ha]), idxP, if_pos (by simp)]; omega
theorem sched_cut {pre suf l : List Bar} {s : Bar} (hp : pre ++ s :: suf = l) (h : okSched l) : okBar s ∧ markI l s.mark = pre.length := by
  obtain ⟨h1, h2, h3⟩ := h; refine ⟨h2 s (by rw [← hp]; simp), (markI_at hp).2 fun a ha => ?_⟩; rw [← hp, List.pairwise_append] at h3; exact h3.2.2 a ha s (by simp)
theorem sched_snoc {pre suf l : List Bar} {s : Bar} (hp : pre ++ s :: suf = l) (h : (∀ b ∈ pre, okBar b) ∧ pre.Pairwise (fun a b => a.mark ≠ b.mark)) (h1 : okBar s) (h2 : markI l s.mark = pre.length) :
    (∀ b ∈ pre ++ [s], okBar b) ∧ (pre ++ [s]).Pairwise (fun a b => a.mark ≠ b.mark) := by
  refine ⟨fun b hb => ?_, List.pairwise_append.2 ⟨h.2, by simp, fun a ha b hb => ?_⟩⟩
  · rcases List.mem_append.1 hb with hb | hb
    · exact h.1 b hb
    · simp at hb; subst hb; exact h1
  · simp at hb; subst hb
    exact (markI_at hp).1 h2 a ha
theorem schedValid_fun (l : List Bar) (hlen : l.length ≤ 140737488355328) (hw : schedW l) : Fun Tryz.prog 31 [.sh 5 (l.map Bar.c)] (Ret (.lit (.bool (decide (okSched l)))) []) := by
  refine Fun.of (nt := 27) (rs := [.tmp 2]) Tryz.func31 rfl rfl rfl rfl rfl ?_; refine Ev.sr fun K hK => S.o q.as (S.end (hK _ ?_)); clear hK K; refine Ev.seq ?_; refine Ev.sr fun K hK => S.o q.mv (S.o (q.lens am_el27) (S.o q.gtr (S.end (hK _ ?_)))); clear hK K; refine Ev.cd (fun c1 => ?_) (fun c1 => ?_)
  · first
  | omega | contradiction
  | refine Ev.sr fun K hK => S.o q.as (S.end (hK _ ?_)); clear hK K; refine Ev.ret ?_; refine Ev.ret1 ?_; refine ⟨?_, rfl⟩
    first
     | exact bF (fun h => by have h1 := h.1; omega)
     | exact bF (fun h => absurd (sched_cut hp h).1 ‹_›)
     | exact bF (fun h => by have h1 := (sched_cut hp h).2; omega)
     | exact bT ⟨by omega, by rw [← hp]; exact hinv⟩
  · first
  | omega | contradiction
  | refine Ev.skip ?_; show Ev _ _ _ _; refine Ev.seq ?_; refine Ev.sr fun K hK => S.o q.mv (S.o (q.lens am_el27) (S.o q.mv (S.end (hK _ ?_)))); clear hK K; refine Ev.block ?_; refine Ev.loopU (ι := {q : List Bar × List Bar // q.1 ++ q.2 = l ∧ (∀ b ∈ q.1, okBar b) ∧ q.1.Pairwise (fun a b => a.mark ≠ b.mark)}) [] [0, 8, 9] (fun ⟨(pre, suf), _⟩ => [(10, .lit (.int .i64 ((pre.length : Int))))]) (fun ⟨(pre, suf), _⟩ => []) (fun ⟨(pre, suf), _⟩ => suf.length) ⟨([], l), rfl, ⟨fun b hb => by simp at hb, by simp⟩⟩ (.c (.c (.c .n))) keep_n (slots_c (he := (by first | rfl | (simp; done) | (congr 2; omega))) (h := trivial)) ?_; rintro ⟨⟨pre, suf⟩, hp, hinv⟩ R0 hR0; dsimp only [List.cons_append, List.nil_append, List.length_cons, List.length_nil]
    simp only at hp hinv
    have hpl : pre.length + suf.length = (l).length := by rw [← hp, List.length_append]
    rcases suf with _ | ⟨s, suf⟩
    · rw [List.append_nil] at hp; simp only [List.length_nil] at hpl; refine Ev.sr fun K hK => S.o q.lss (S.end (hK _ ?_)); clear hK K; refine Ev.ud (fun c2 => ?_) (fun c2 => ?_)
      · first
      | omega | contradiction
      | refine Ev.seq ?_; refine Ev.block ?_; refine Ev.sr fun K hK => S.o q.mv (S.o (q.ix am_el27 am_cl72 (hl := (by first | exact atig (by omega)))) (S.o (q.lsA [_, _, _, _, _] am_ag72 am_cl72) (S.nn (q.al am_ze72) (S.o q.as (S.sv [_, _, _, _, _] true [] am_in72 am_cl72 (h := S.end (hK _ ?_))))))); clear hK K; refine Ev.sr fun K hK => S.o (q.lvA [_, _, _, _, _] am_ag72 am_cl72) (S.c0 (hF := valid_fun _ (by assumption)) (h := S.o q.not (S.bn q.mv (fun c3 => ?_) (fun c3 => ?_))))
        · first
        | omega | contradiction
        | refine S.sk (S.sk (S.sk (S.sk (S.sk (S.sk (S.o q.pt (S.end (hK _ ?_)))))))); clear hK K; refine Ev.ct ?_; refine Ev.sr fun K hK => S.o q.as (S.end (hK _ ?_)); clear hK K; refine Ev.ret ?_; refine hR0 _ _ ?_; refine Ev.ret1 ?_; refine ⟨?_, rfl⟩
          first
           | exact bF (fun h => by have h1 := h.1; omega)
           | exact bF (fun h => absurd (sched_cut hp h).1 ‹_›)
           | exact bF (fun h => by have h1 := (sched_cut hp h).2; omega)
           | exact bT ⟨by omega, by rw [← hp]; exact hinv⟩
        · first
        | omega | contradiction
        | refine S.o q.mv (S.o (q.fa 0 am_fi72_0 am_cl9) (S.o (q.lv am_ag9) (S.c0 (hF := schedIndex_fun _ _ (by omega)) (h := S.o q.mv (S.o q.neq (S.o q.pf (S.end (hK _ ?_)))))))); clear hK K; refine Ev.cn (fun c4 => ?_) (fun c4 => ?_)
          · first
          | omega | contradiction
          | refine Ev.sr fun K hK => S.o q.as (S.end (hK _ ?_)); clear hK K; refine Ev.ret ?_; refine hR0 _ _ ?_; refine Ev.ret1 ?_; refine ⟨?_, rfl⟩
            first
             | exact bF (fun h => by have h1 := h.1; omega)
             | exact bF (fun h => absurd (sched_cut hp h).1 ‹_›)
             | exact bF (fun h => by have h1 := (sched_cut hp h).2; omega)
             | exact bT ⟨by omega, by rw [← hp]; exact hinv⟩
          · first
          | omega | contradiction
          | refine Ev.skip ?_; show Ev _ _ _ _; refine Ev.region_S fun K hK => S.o q.add (S.o q.mv (S.end (hK _ ?_))); clear hK K; refine hR0 _ _ ?_; refine roundU [] [0, 8, 9] ⟨(pre ++ [s], suf), by rw [← hp]; simp, ?_⟩ ?_ keep_n (slots_c (he := (by first | rfl | (simp; done) | (congr 2; omega))) (h := trivial)) (.c (.c (.c .n))); exact sched_snoc hp hinv ‹_› (by omega); all_goals (dsimp only; simp only [List.length_cons]; omega)
      · first
      | omega | contradiction
      | refine Ev.exit ?_; refine hR0 _ _ ?_; show Ev _ _ _ _; refine Ev.sr fun K hK => S.o q.as (S.end (hK _ ?_)); clear hK K; refine Ev.ret ?_; refine Ev.ret1 ?_; refine ⟨?_, rfl⟩
        first
         | exact bF (fun h => by have h1 := h.1; omega)
         | exact bF (fun h => absurd (sched_cut hp h).1 ‹_›)
         | exact bF (fun h => by have h1 := (sched_cut hp h).2; omega)
         | exact bT ⟨by omega, by rw [← hp]; exact hinv⟩
    · simp only [List.length_cons] at hpl
      have hidx : l[pre.length]? = some s := by rw [← hp]; simp
      have hsw : s.w := hw s (by rw [← hp]; simp); refine Ev.sr fun K hK => S.o q.lss (S.end (hK _ ?_)); clear hK K; refine Ev.ud (fun c5 => ?_) (fun c5 => ?_)
      · first
      | omega | contradiction
      | refine Ev.seq ?_; refine Ev.block ?_; refine Ev.sr fun K hK => S.o q.mv (S.o (q.ix am_el27 am_cl72 (hl := (by first | exact ati hidx (by omega) | exact atig (by omega)))) (S.o (q.lsA [_, _, _, _, _] am_ag72 am_cl72) (S.nn (q.al am_ze72) (S.o q.as (S.sv [_, _, _, _, _] true [] am_in72 am_cl72 (h := S.end (hK _ ?_))))))); clear hK K; refine Ev.sr fun K hK => S.o (q.lvA [_, _, _, _, _] am_ag72 am_cl72) (S.c0 (hF := valid_fun _ (by assumption)) (h := S.o q.not (S.bn q.mv (fun c6 => ?_) (fun c6 => ?_))))
        · first
        | omega | contradiction
        | refine S.sk (S.sk (S.sk (S.sk (S.sk (S.sk (S.o q.pt (S.end (hK _ ?_)))))))); clear hK K; refine Ev.ct ?_; refine Ev.sr fun K hK => S.o q.as (S.end (hK _ ?_)); clear hK K; refine Ev.ret ?_; refine hR0 _ _ ?_; refine Ev.ret1 ?_; refine ⟨?_, rfl⟩
          first
           | exact bF (fun h => by have h1 := h.1; omega)
           | exact bF (fun h => absurd (sched_cut hp h).1 ‹_›)
           | exact bF (fun h => by have h1 := (sched_cut hp h).2; omega)
           | exact bT ⟨by omega, by rw [← hp]; exact hinv⟩
        · first
        | omega | contradiction
        | refine S.o q.mv (S.o (q.fa 0 am_fi72_0 am_cl9) (S.o (q.lv am_ag9) (S.c0 (hF := schedIndex_fun _ _ (by omega)) (h := S.o q.mv (S.o q.neq (S.o q.pf (S.end (hK _ ?_)))))))); clear hK K; refine Ev.cn (fun c7 => ?_) (fun c7 => ?_)
          · first
          | omega | contradiction
          | refine Ev.sr fun K hK => S.o q.as (S.end (hK _ ?_)); clear hK K; refine Ev.ret ?_; refine hR0 _ _ ?_; refine Ev.ret1 ?_; refine ⟨?_, rfl⟩
            first
             | exact bF (fun h => by have h1 := h.1; omega)
             | exact bF (fun h => absurd (sched_cut hp h).1 ‹_›)
             | exact bF (fun h => by have h1 := (sched_cut hp h).2; omega)
             | exact bT ⟨by omega, by rw [← hp]; exact hinv⟩
          · first
          | omega | contradiction
          | refine Ev.skip ?_; show Ev _ _ _ _; refine Ev.region_S fun K hK => S.o q.add (S.o q.mv (S.end (hK _ ?_))); clear hK K; refine hR0 _ _ ?_; refine roundU [] [0, 8, 9] ⟨(pre ++ [s], suf), by rw [← hp]; simp, ?_⟩ ?_ keep_n (slots_c (he := (by first | rfl | (simp; done) | (congr 2; omega))) (h := trivial)) (.c (.c (.c .n))); exact sched_snoc hp hinv ‹_› (by omega); all_goals (dsimp only; simp only [List.length_cons]; omega)
      · first
      | omega | contradiction
      | refine Ev.exit ?_; refine hR0 _ _ ?_; show Ev _ _ _ _; refine Ev.sr fun K hK => S.o q.as (S.end (hK _ ?_)); clear hK K; refine Ev.ret ?_; refine Ev.ret1 ?_; refine ⟨?_, rfl⟩
        first
         | exact bF (fun h => by have h1 := h.1; omega)
         | exact bF (fun h => absurd (sched_cut hp h).1 ‹_›)
         | exact bF (fun h => by have h1 := (sched_cut hp h).2; omega)
         | exact bT ⟨by omega, by rw [← hp]; exact hinv⟩
end Go.Proofs.YtkbpignlggahaaaGreatDoor
