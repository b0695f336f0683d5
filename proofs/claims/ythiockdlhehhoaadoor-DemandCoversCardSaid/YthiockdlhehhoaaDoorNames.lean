/-
  Layer 1: names.
  Conditions: none.
-/
import Derived.Test.YthiockdlhehhoaaDoorBase
namespace Go.Proofs.YthiockdlhehhoaaDoor
open Go Go.AM
set_option linter.unusedSimpArgs false
set_option linter.unusedVariables false
set_option maxRecDepth 100000

def IsL (c : Int) : Prop := (97 ≤ c ∧ c ≤ 122) ∨ (65 ≤ c ∧ c ≤ 90)
def IsD (c : Int) : Prop := 48 ≤ c ∧ c ≤ 57
instance (c) : Decidable (IsL c) := by unfold IsL; infer_instance
instance (c) : Decidable (IsD c) := by unfold IsD; infer_instance
def IsW (c : Int) : Prop := IsL c ∨ IsD c ∨ c = 95
instance (c) : Decidable (IsW c) := by unfold IsW; infer_instance
theorem notW {c : Int} (h1 : ¬ IsL c) (h2 : ¬ IsD c) (h3 : ¬ c = 95) : ¬ IsW c := by rintro (h | h | h) <;> contradiction
/-- How many bytes at the beginning are those of a word. -/
def wordN : List UInt8 → Nat
  | [] => 0
  | c :: l => if IsW (c.toNat : Int) then wordN l + 1 else 0
theorem wordN_app : ∀ (a b : List UInt8), (∀ x ∈ a, IsW (x.toNat : Int)) → wordN (a ++ b) = a.length + wordN b
  | [], b, _ => by simp
  | x :: a, b, h => by
    rw [List.cons_append, wordN, if_pos (h x (by simp)), wordN_app a b (fun y hy => h y (by simp [hy])), List.length_cons]
    omega
def IsName (s : List UInt8) : Prop := 0 < s.length ∧ s.length ≤ 20 ∧ (∀ c, s[0]? = some c → IsL (c.toNat : Int)) ∧ wordN s = s.length
instance (s) : Decidable (IsName s) := by
  unfold IsName
  cases h : s[0]? with
  | none => exact decidable_of_iff (0 < s.length ∧ s.length ≤ 20 ∧ wordN s = s.length) (by simp)
  | some c => exact decidable_of_iff (0 < s.length ∧ s.length ≤ 20 ∧ IsL (c.toNat : Int) ∧ wordN s = s.length) (by simp)
theorem letter_fun (c : Int) : Fun Tryd.prog 69 [.lit (.int .u8 c)] (Ret (.lit (.bool (decide (IsL c)))) []) := by
  refine Fun.of (nt := 17) (rs := [.tmp 2]) Tryd.func69 rfl rfl rfl rfl rfl ?_
  refine Ev.sr fun K hK => S.o q.as (S.end (hK _ ?_))
  clear hK K
  refine Ev.sr fun K hK => S.o q.mv (S.o q.geq (S.bd q.mv (fun c1 => ?_) (fun c1 => ?_)))
  · first
  | (first | omega | contradiction)
  | refine S.o q.mv (S.o q.leq (S.o q.pt (S.bd q.mv (fun c2 => ?_) (fun c2 => ?_))))
    · first
    | (first | omega | contradiction)
    | refine S.sk (S.sk (S.sk (S.sk (S.sk (S.sk (S.o q.pt (S.o q.as (S.end (hK _ ?_)))))))))
      clear hK K
      refine Ev.ret ?_
      refine Ev.ret1 ?_
      refine ⟨?_, rfl⟩
      first | exact bT (by unfold IsL; omega) | exact bF (by unfold IsL; omega) | exact dI (by unfold IsL; omega)
    · first
    | (first | omega | contradiction)
    | refine S.o q.mv (S.o q.geq (S.bd q.mv (fun c3 => ?_) (fun c3 => ?_)))
      · first
      | (first | omega | contradiction)
      | refine S.o q.mv (S.o q.leq (S.o q.pt (S.o q.pf (S.o q.as (S.end (hK _ ?_))))))
        clear hK K
        refine Ev.ret ?_
        refine Ev.ret1 ?_
        refine ⟨?_, rfl⟩
        first | exact bT (by unfold IsL; omega) | exact bF (by unfold IsL; omega) | exact dI (by unfold IsL; omega)
      · first
      | (first | omega | contradiction)
      | refine S.sk (S.sk (S.o q.pf (S.o q.pf (S.o q.as (S.end (hK _ ?_))))))
        clear hK K
        refine Ev.ret ?_
        refine Ev.ret1 ?_
        refine ⟨?_, rfl⟩
        first | exact bT (by unfold IsL; omega) | exact bF (by unfold IsL; omega) | exact dI (by unfold IsL; omega)
  · first
  | (first | omega | contradiction)
  | refine S.sk (S.sk (S.o q.pf (S.o q.mv (S.o q.mv (S.o q.geq (S.bd q.mv (fun c4 => ?_) (fun c4 => ?_)))))))
    · first
    | (first | omega | contradiction)
    | refine S.o q.mv (S.o q.leq (S.o q.pt (S.o q.pf (S.o q.as (S.end (hK _ ?_))))))
      clear hK K
      refine Ev.ret ?_
      refine Ev.ret1 ?_
      refine ⟨?_, rfl⟩
      first | exact bT (by unfold IsL; omega) | exact bF (by unfold IsL; omega) | exact dI (by unfold IsL; omega)
    · first
    | (first | omega | contradiction)
    | refine S.sk (S.sk (S.o q.pf (S.o q.pf (S.o q.as (S.end (hK _ ?_))))))
      clear hK K
      refine Ev.ret ?_
      refine Ev.ret1 ?_
      refine ⟨?_, rfl⟩
      first | exact bT (by unfold IsL; omega) | exact bF (by unfold IsL; omega) | exact dI (by unfold IsL; omega)
theorem digit_fun (c : Int) : Fun Tryd.prog 78 [.lit (.int .u8 c)] (Ret (.lit (.bool (decide (IsD c)))) []) := by
  refine Fun.of (nt := 9) (rs := [.tmp 2]) Tryd.func78 rfl rfl rfl rfl rfl ?_
  refine Ev.sr fun K hK => S.o q.as (S.end (hK _ ?_))
  clear hK K
  refine Ev.sr fun K hK => S.o q.mv (S.o q.geq (S.bd q.mv (fun c1 => ?_) (fun c1 => ?_)))
  · first
  | (first | omega | contradiction)
  | refine S.o q.mv (S.o q.leq (S.o q.pt (S.o q.as (S.end (hK _ ?_)))))
    clear hK K
    refine Ev.ret ?_
    refine Ev.ret1 ?_
    refine ⟨?_, rfl⟩
    first | exact bT (by unfold IsD; omega) | exact bF (by unfold IsD; omega) | exact dI (by unfold IsD; omega)
  · first
  | (first | omega | contradiction)
  | refine S.sk (S.sk (S.o q.pf (S.o q.as (S.end (hK _ ?_)))))
    clear hK K
    refine Ev.ret ?_
    refine Ev.ret1 ?_
    refine ⟨?_, rfl⟩
    first | exact bT (by unfold IsD; omega) | exact bF (by unfold IsD; omega) | exact dI (by unfold IsD; omega)
theorem word_fun (s : List UInt8) (hlen : s.length ≤ 140737488355328) : Fun Tryd.prog 70 [.lit (str s)] (Ret (.lit (.int .i64 (wordN s : Int))) []) := by
  refine Fun.of (nt := 29) (rs := [.tmp 2]) Tryd.func70 rfl rfl rfl rfl rfl ?_
  refine Ev.sr fun K hK => S.o q.as (S.end (hK _ ?_))
  clear hK K
  refine Ev.sr fun K hK => S.o q.as (S.end (hK _ ?_))
  clear hK K
  refine Ev.seq ?_
  refine Ev.block ?_
  refine Ev.loopU (ι := {q : List UInt8 × List UInt8 // q.1 ++ q.2 = s ∧ ∀ x ∈ q.1, IsW (x.toNat : Int)}) [] [0, 2] (fun ⟨(pre, suf), _⟩ => [(3, .lit (.int .i64 ((pre.length : Int))))]) (fun ⟨(pre, suf), _⟩ => []) (fun ⟨(pre, suf), _⟩ => suf.length) ⟨([], s), rfl, fun x hx => by simp at hx⟩ (.c (.c .n)) keep_n (slots_c (he := (by first | rfl | (simp; done) | (congr 2; omega))) (h := trivial)) ?_
  rintro ⟨⟨pre, suf⟩, hp, hinv⟩ R0 hR0
  dsimp only [List.cons_append, List.nil_append, List.length_cons, List.length_nil]
  simp only at hp hinv
  have hpl : pre.length + suf.length = s.length := by rw [← hp, List.length_append]
  rcases suf with _ | ⟨c, suf⟩
  · rw [List.append_nil] at hp; subst hp; simp only [List.length_nil] at hpl
    refine Ev.seq ?_
    refine Ev.sr fun K hK => S.o q.mv (S.o q.mv (S.o (q.slen am_el9 am_un9) (S.o q.lss (S.bd q.mv (fun c1 => ?_) (fun c1 => ?_)))))
    · first
    | (first | omega | contradiction)
    | refine S.o q.mv (S.o q.mv (S.o (q.six am_un9 (hl := (by first | exact atig (by omega)))) (S.c0 (hF := letter_fun _) (h := S.bd q.mv (fun c2 => ?_) (fun c2 => ?_)))))
      · first
      | (first | omega | contradiction)
      | refine S.sk (S.sk (S.sk (S.sk (S.o q.pt (S.o q.mv (S.sk (S.sk (S.sk (S.sk (S.o q.pt (S.o q.pt (S.end (hK _ ?_)))))))))))))
        clear hK K
        refine Ev.ct ?_
        refine Ev.skip ?_
        show Ev _ _ _ _
        refine Ev.block ?_
        refine Ev.region_S fun K hK => S.o q.mv (S.o q.add (S.o q.as (S.end (hK _ ?_))))
        clear hK K
        refine hR0 _ _ ?_
        refine roundU [] [0, 2] ⟨(pre ++ [c], suf), by rw [← hp]; simp, ?_⟩ ?_ keep_n (slots_c (he := (by first | rfl | (simp; done) | (congr 2; omega))) (h := trivial)) (.c (.c .n))
        intro x hx; simp only [List.mem_append, List.mem_singleton] at hx; rcases hx with hx | rfl
        · exact hinv x hx
        · (unfold IsW; first | omega | (left; assumption) | (right; left; assumption))
        all_goals (dsimp only; simp only [List.length_cons]; omega)
      · first
      | (first | omega | contradiction)
      | refine S.o q.mv (S.o q.mv (S.o (q.six am_un9 (hl := (by first | exact atig (by omega)))) (S.c0 (hF := digit_fun _) (h := S.o q.pf (S.bd q.mv (fun c3 => ?_) (fun c3 => ?_))))))
        · first
        | (first | omega | contradiction)
        | refine S.sk (S.sk (S.sk (S.sk (S.o q.pt (S.o q.pt (S.end (hK _ ?_)))))))
          clear hK K
          refine Ev.ct ?_
          refine Ev.skip ?_
          show Ev _ _ _ _
          refine Ev.block ?_
          refine Ev.region_S fun K hK => S.o q.mv (S.o q.add (S.o q.as (S.end (hK _ ?_))))
          clear hK K
          refine hR0 _ _ ?_
          refine roundU [] [0, 2] ⟨(pre ++ [c], suf), by rw [← hp]; simp, ?_⟩ ?_ keep_n (slots_c (he := (by first | rfl | (simp; done) | (congr 2; omega))) (h := trivial)) (.c (.c .n))
          intro x hx; simp only [List.mem_append, List.mem_singleton] at hx; rcases hx with hx | rfl
          · exact hinv x hx
          · (unfold IsW; first | omega | (left; assumption) | (right; left; assumption))
          all_goals (dsimp only; simp only [List.length_cons]; omega)
        · first
        | (first | omega | contradiction)
        | refine S.o q.mv (S.o q.mv (S.o (q.six am_un9 (hl := (by first | exact atig (by omega)))) (S.o q.eql (S.o q.pf (S.o q.pt (S.end (hK _ ?_)))))))
          clear hK K
          refine Ev.cd (fun c4 => ?_) (fun c4 => ?_)
          · first
          | (first | omega | contradiction)
          | refine Ev.skip ?_
            show Ev _ _ _ _
            refine Ev.block ?_
            refine Ev.region_S fun K hK => S.o q.mv (S.o q.add (S.o q.as (S.end (hK _ ?_))))
            clear hK K
            refine hR0 _ _ ?_
            refine roundU [] [0, 2] ⟨(pre ++ [c], suf), by rw [← hp]; simp, ?_⟩ ?_ keep_n (slots_c (he := (by first | rfl | (simp; done) | (congr 2; omega))) (h := trivial)) (.c (.c .n))
            intro x hx; simp only [List.mem_append, List.mem_singleton] at hx; rcases hx with hx | rfl
            · exact hinv x hx
            · (unfold IsW; first | omega | (left; assumption) | (right; left; assumption))
            all_goals (dsimp only; simp only [List.length_cons]; omega)
          · first
          | (first | omega | contradiction)
          | refine Ev.exit ?_
            refine hR0 _ _ ?_
            show Ev _ _ _ _
            refine Ev.sr fun K hK => S.o q.mv (S.o q.as (S.end (hK _ ?_)))
            clear hK K
            refine Ev.ret ?_
            refine Ev.ret1 ?_
            refine ⟨?_, rfl⟩
            first
             | (congr 2; have := wordN_app pre [] hinv; rw [List.append_nil] at this; rw [this]; simp [wordN]; done)
             | (congr 2; rw [← hp, wordN_app pre _ hinv, wordN, if_neg (notW ‹_› ‹_› ‹_›)]; simp; done)
    · first
    | (first | omega | contradiction)
    | refine S.sk (S.sk (S.sk (S.sk (S.sk (S.sk (S.sk (S.sk (S.sk (S.sk (S.sk (S.sk (S.sk (S.sk (S.sk (S.sk (S.o q.pf (S.end (hK _ ?_))))))))))))))))))
      clear hK K
      refine Ev.cf ?_
      refine Ev.exit ?_
      refine hR0 _ _ ?_
      show Ev _ _ _ _
      refine Ev.sr fun K hK => S.o q.mv (S.o q.as (S.end (hK _ ?_)))
      clear hK K
      refine Ev.ret ?_
      refine Ev.ret1 ?_
      refine ⟨?_, rfl⟩
      first
       | (congr 2; have := wordN_app pre [] hinv; rw [List.append_nil] at this; rw [this]; simp [wordN]; done)
       | (congr 2; rw [← hp, wordN_app pre _ hinv, wordN, if_neg (notW ‹_› ‹_› ‹_›)]; simp; done)
  · simp only [List.length_cons] at hpl
    have hidx : s[pre.length]? = some c := by rw [← hp]; simp
    refine Ev.seq ?_
    refine Ev.sr fun K hK => S.o q.mv (S.o q.mv (S.o (q.slen am_el9 am_un9) (S.o q.lss (S.bd q.mv (fun c5 => ?_) (fun c5 => ?_)))))
    · first
    | (first | omega | contradiction)
    | refine S.o q.mv (S.o q.mv (S.o (q.six am_un9 (hl := (by first | exact ati hidx (by omega) | exact atig (by omega)))) (S.c0 (hF := letter_fun _) (h := S.bd q.mv (fun c6 => ?_) (fun c6 => ?_)))))
      · first
      | (first | omega | contradiction)
      | refine S.sk (S.sk (S.sk (S.sk (S.o q.pt (S.o q.mv (S.sk (S.sk (S.sk (S.sk (S.o q.pt (S.o q.pt (S.end (hK _ ?_)))))))))))))
        clear hK K
        refine Ev.ct ?_
        refine Ev.skip ?_
        show Ev _ _ _ _
        refine Ev.block ?_
        refine Ev.region_S fun K hK => S.o q.mv (S.o q.add (S.o q.as (S.end (hK _ ?_))))
        clear hK K
        refine hR0 _ _ ?_
        refine roundU [] [0, 2] ⟨(pre ++ [c], suf), by rw [← hp]; simp, ?_⟩ ?_ keep_n (slots_c (he := (by first | rfl | (simp; done) | (congr 2; omega))) (h := trivial)) (.c (.c .n))
        intro x hx; simp only [List.mem_append, List.mem_singleton] at hx; rcases hx with hx | rfl
        · exact hinv x hx
        · (unfold IsW; first | omega | (left; assumption) | (right; left; assumption))
        all_goals (dsimp only; simp only [List.length_cons]; omega)
      · first
      | (first | omega | contradiction)
      | refine S.o q.mv (S.o q.mv (S.o (q.six am_un9 (hl := (by first | exact ati hidx (by omega) | exact atig (by omega)))) (S.c0 (hF := digit_fun _) (h := S.o q.pf (S.bd q.mv (fun c7 => ?_) (fun c7 => ?_))))))
        · first
        | (first | omega | contradiction)
        | refine S.sk (S.sk (S.sk (S.sk (S.o q.pt (S.o q.pt (S.end (hK _ ?_)))))))
          clear hK K
          refine Ev.ct ?_
          refine Ev.skip ?_
          show Ev _ _ _ _
          refine Ev.block ?_
          refine Ev.region_S fun K hK => S.o q.mv (S.o q.add (S.o q.as (S.end (hK _ ?_))))
          clear hK K
          refine hR0 _ _ ?_
          refine roundU [] [0, 2] ⟨(pre ++ [c], suf), by rw [← hp]; simp, ?_⟩ ?_ keep_n (slots_c (he := (by first | rfl | (simp; done) | (congr 2; omega))) (h := trivial)) (.c (.c .n))
          intro x hx; simp only [List.mem_append, List.mem_singleton] at hx; rcases hx with hx | rfl
          · exact hinv x hx
          · (unfold IsW; first | omega | (left; assumption) | (right; left; assumption))
          all_goals (dsimp only; simp only [List.length_cons]; omega)
        · first
        | (first | omega | contradiction)
        | refine S.o q.mv (S.o q.mv (S.o (q.six am_un9 (hl := (by first | exact ati hidx (by omega) | exact atig (by omega)))) (S.o q.eql (S.o q.pf (S.o q.pt (S.end (hK _ ?_)))))))
          clear hK K
          refine Ev.cd (fun c8 => ?_) (fun c8 => ?_)
          · first
          | (first | omega | contradiction)
          | refine Ev.skip ?_
            show Ev _ _ _ _
            refine Ev.block ?_
            refine Ev.region_S fun K hK => S.o q.mv (S.o q.add (S.o q.as (S.end (hK _ ?_))))
            clear hK K
            refine hR0 _ _ ?_
            refine roundU [] [0, 2] ⟨(pre ++ [c], suf), by rw [← hp]; simp, ?_⟩ ?_ keep_n (slots_c (he := (by first | rfl | (simp; done) | (congr 2; omega))) (h := trivial)) (.c (.c .n))
            intro x hx; simp only [List.mem_append, List.mem_singleton] at hx; rcases hx with hx | rfl
            · exact hinv x hx
            · (unfold IsW; first | omega | (left; assumption) | (right; left; assumption))
            all_goals (dsimp only; simp only [List.length_cons]; omega)
          · first
          | (first | omega | contradiction)
          | refine Ev.exit ?_
            refine hR0 _ _ ?_
            show Ev _ _ _ _
            refine Ev.sr fun K hK => S.o q.mv (S.o q.as (S.end (hK _ ?_)))
            clear hK K
            refine Ev.ret ?_
            refine Ev.ret1 ?_
            refine ⟨?_, rfl⟩
            first
             | (congr 2; have := wordN_app pre [] hinv; rw [List.append_nil] at this; rw [this]; simp [wordN]; done)
             | (congr 2; rw [← hp, wordN_app pre _ hinv, wordN, if_neg (notW ‹_› ‹_› ‹_›)]; simp; done)
    · first
    | (first | omega | contradiction)
    | refine S.sk (S.sk (S.sk (S.sk (S.sk (S.sk (S.sk (S.sk (S.sk (S.sk (S.sk (S.sk (S.sk (S.sk (S.sk (S.sk (S.o q.pf (S.end (hK _ ?_))))))))))))))))))
      clear hK K
      refine Ev.cf ?_
      refine Ev.exit ?_
      refine hR0 _ _ ?_
      show Ev _ _ _ _
      refine Ev.sr fun K hK => S.o q.mv (S.o q.as (S.end (hK _ ?_)))
      clear hK K
      refine Ev.ret ?_
      refine Ev.ret1 ?_
      refine ⟨?_, rfl⟩
      first
       | (congr 2; have := wordN_app pre [] hinv; rw [List.append_nil] at this; rw [this]; simp [wordN]; done)
       | (congr 2; rw [← hp, wordN_app pre _ hinv, wordN, if_neg (notW ‹_› ‹_› ‹_›)]; simp; done)
theorem isName_fun (s : List UInt8) (hlen : s.length ≤ 140737488355328) : Fun Tryd.prog 52 [.lit (str s)] (Ret (.lit (.bool (decide (IsName s)))) []) := by
  have hg : ∀ h : 0 < s.length, s[0]? = some (s[0]'h) := fun h => List.getElem?_eq_getElem h
  have hz : ¬ s = [] → 0 < s.length := fun h => List.length_pos_iff.2 h
  have hI : IsName s ↔ 0 < s.length ∧ s.length ≤ 20 ∧ (∀ h : 0 < s.length, IsL ((s[0]'h).toNat : Int)) ∧ wordN s = s.length := by
    unfold IsName
    constructor
    · rintro ⟨h1, h2, h3, h4⟩; exact ⟨h1, h2, fun h => h3 _ (hg h), h4⟩
    · rintro ⟨h1, h2, h3, h4⟩; exact ⟨h1, h2, fun c hc => by rw [hg h1] at hc; simp only [Option.some.injEq] at hc; rw [← hc]; exact h3 h1, h4⟩
  refine Fun.of (nt := 22) (rs := [.tmp 2]) Tryd.func52 rfl rfl rfl rfl rfl ?_
  refine Ev.sr fun K hK => S.o q.as (S.end (hK _ ?_))
  clear hK K
  refine Ev.sr fun K hK => S.o q.mv (S.o q.snes (S.bn q.mv (fun c1 => ?_) (fun c1 => ?_)))
  · first
  | (first | omega | contradiction)
  | refine S.o q.mv (S.o (q.slen am_el9 am_un9) (S.o q.leq (S.o q.pt (S.bd q.mv (fun c2 => ?_) (fun c2 => ?_)))))
    · first
    | (first | omega | contradiction)
    | refine S.o q.mv (S.o (q.six am_un9 (hl := (by first | exact ati (hg (by first | omega | exact hz ‹_›)) (by omega) | exact atig (by omega)))) (S.c0 (hF := letter_fun _) (h := S.o q.pt (S.bd q.mv (fun c3 => ?_) (fun c3 => ?_)))))
      · first
      | (first | omega | contradiction)
      | refine S.o q.mv (S.c0 (hF := word_fun _ (by omega)) (h := S.o q.mv (S.o (q.slen am_el9 am_un9) (S.o q.eql (S.o q.pt (S.o q.as (S.end (hK _ ?_))))))))
        clear hK K
        refine Ev.ret ?_
        refine Ev.ret1 ?_
        refine ⟨?_, rfl⟩
        first
         | exact bF (fun h => by have h1 := (hI.1 h).1; first | omega | (rw [‹s = []›] at h1; exact absurd h1 (by decide)))
         | exact bF (fun h => by have := (hI.1 h).2.1; omega)
         | exact bF (fun h => absurd ((hI.1 h).2.2.1 (by first | omega | exact hz ‹_›)) ‹_›)
         | exact dI ⟨fun h => hI.2 ⟨(by first | omega | exact hz ‹_›), by omega, fun _ => ‹_›, by omega⟩, fun h => by have := (hI.1 h).2.2.2; omega⟩
         | exact bT (hI.2 ⟨(by first | omega | exact hz ‹_›), by omega, fun _ => ‹_›, by omega⟩)
         | exact bF (fun h => by have := (hI.1 h).2.2.2; omega)
      · first
      | (first | omega | contradiction)
      | refine S.sk (S.sk (S.sk (S.sk (S.sk (S.o q.pf (S.o q.as (S.end (hK _ ?_))))))))
        clear hK K
        refine Ev.ret ?_
        refine Ev.ret1 ?_
        refine ⟨?_, rfl⟩
        first
         | exact bF (fun h => by have h1 := (hI.1 h).1; first | omega | (rw [‹s = []›] at h1; exact absurd h1 (by decide)))
         | exact bF (fun h => by have := (hI.1 h).2.1; omega)
         | exact bF (fun h => absurd ((hI.1 h).2.2.1 (by first | omega | exact hz ‹_›)) ‹_›)
         | exact dI ⟨fun h => hI.2 ⟨(by first | omega | exact hz ‹_›), by omega, fun _ => ‹_›, by omega⟩, fun h => by have := (hI.1 h).2.2.2; omega⟩
         | exact bT (hI.2 ⟨(by first | omega | exact hz ‹_›), by omega, fun _ => ‹_›, by omega⟩)
         | exact bF (fun h => by have := (hI.1 h).2.2.2; omega)
    · first
    | (first | omega | contradiction)
    | refine S.sk (S.sk (S.sk (S.o q.pf (S.o q.mv (S.sk (S.sk (S.sk (S.sk (S.sk (S.o q.pf (S.o q.as (S.end (hK _ ?_)))))))))))))
      clear hK K
      refine Ev.ret ?_
      refine Ev.ret1 ?_
      refine ⟨?_, rfl⟩
      first
       | exact bF (fun h => by have h1 := (hI.1 h).1; first | omega | (rw [‹s = []›] at h1; exact absurd h1 (by decide)))
       | exact bF (fun h => by have := (hI.1 h).2.1; omega)
       | exact bF (fun h => absurd ((hI.1 h).2.2.1 (by first | omega | exact hz ‹_›)) ‹_›)
       | exact dI ⟨fun h => hI.2 ⟨(by first | omega | exact hz ‹_›), by omega, fun _ => ‹_›, by omega⟩, fun h => by have := (hI.1 h).2.2.2; omega⟩
       | exact bT (hI.2 ⟨(by first | omega | exact hz ‹_›), by omega, fun _ => ‹_›, by omega⟩)
       | exact bF (fun h => by have := (hI.1 h).2.2.2; omega)
  · first
  | (first | omega | contradiction)
  | refine S.sk (S.sk (S.sk (S.o q.pf (S.o q.mv (S.sk (S.sk (S.sk (S.o q.pf (S.o q.mv (S.sk (S.sk (S.sk (S.sk (S.sk (S.o q.pf (S.o q.as (S.end (hK _ ?_))))))))))))))))))
    clear hK K
    refine Ev.ret ?_
    refine Ev.ret1 ?_
    refine ⟨?_, rfl⟩
    first
     | exact bF (fun h => by have h1 := (hI.1 h).1; first | omega | (rw [‹s = []›] at h1; exact absurd h1 (by decide)))
     | exact bF (fun h => by have := (hI.1 h).2.1; omega)
     | exact bF (fun h => absurd ((hI.1 h).2.2.1 (by first | omega | exact hz ‹_›)) ‹_›)
     | exact dI ⟨fun h => hI.2 ⟨(by first | omega | exact hz ‹_›), by omega, fun _ => ‹_›, by omega⟩, fun h => by have := (hI.1 h).2.2.2; omega⟩
     | exact bT (hI.2 ⟨(by first | omega | exact hz ‹_›), by omega, fun _ => ‹_›, by omega⟩)
     | exact bF (fun h => by have := (hI.1 h).2.2.2; omega)
theorem rletter_fun (c : Int) : Fun Tryd.prog 41 [.lit (.int .u8 c)] (Ret (.lit (.bool (decide (IsL c)))) []) := by
  refine Fun.of (nt := 17) (rs := [.tmp 2]) Tryd.func41 rfl rfl rfl rfl rfl ?_
  refine Ev.sr fun K hK => S.o q.as (S.end (hK _ ?_))
  clear hK K
  refine Ev.sr fun K hK => S.o q.mv (S.o q.geq (S.bd q.mv (fun c1 => ?_) (fun c1 => ?_)))
  · first
  | (first | omega | contradiction)
  | refine S.o q.mv (S.o q.leq (S.o q.pt (S.bd q.mv (fun c2 => ?_) (fun c2 => ?_))))
    · first
    | (first | omega | contradiction)
    | refine S.sk (S.sk (S.sk (S.sk (S.sk (S.sk (S.o q.pt (S.o q.as (S.end (hK _ ?_)))))))))
      clear hK K
      refine Ev.ret ?_
      refine Ev.ret1 ?_
      refine ⟨?_, rfl⟩
      first | exact bT (by unfold IsL; omega) | exact bF (by unfold IsL; omega) | exact dI (by unfold IsL; omega)
    · first
    | (first | omega | contradiction)
    | refine S.o q.mv (S.o q.geq (S.bd q.mv (fun c3 => ?_) (fun c3 => ?_)))
      · first
      | (first | omega | contradiction)
      | refine S.o q.mv (S.o q.leq (S.o q.pt (S.o q.pf (S.o q.as (S.end (hK _ ?_))))))
        clear hK K
        refine Ev.ret ?_
        refine Ev.ret1 ?_
        refine ⟨?_, rfl⟩
        first | exact bT (by unfold IsL; omega) | exact bF (by unfold IsL; omega) | exact dI (by unfold IsL; omega)
      · first
      | (first | omega | contradiction)
      | refine S.sk (S.sk (S.o q.pf (S.o q.pf (S.o q.as (S.end (hK _ ?_))))))
        clear hK K
        refine Ev.ret ?_
        refine Ev.ret1 ?_
        refine ⟨?_, rfl⟩
        first | exact bT (by unfold IsL; omega) | exact bF (by unfold IsL; omega) | exact dI (by unfold IsL; omega)
  · first
  | (first | omega | contradiction)
  | refine S.sk (S.sk (S.o q.pf (S.o q.mv (S.o q.mv (S.o q.geq (S.bd q.mv (fun c4 => ?_) (fun c4 => ?_)))))))
    · first
    | (first | omega | contradiction)
    | refine S.o q.mv (S.o q.leq (S.o q.pt (S.o q.pf (S.o q.as (S.end (hK _ ?_))))))
      clear hK K
      refine Ev.ret ?_
      refine Ev.ret1 ?_
      refine ⟨?_, rfl⟩
      first | exact bT (by unfold IsL; omega) | exact bF (by unfold IsL; omega) | exact dI (by unfold IsL; omega)
    · first
    | (first | omega | contradiction)
    | refine S.sk (S.sk (S.o q.pf (S.o q.pf (S.o q.as (S.end (hK _ ?_))))))
      clear hK K
      refine Ev.ret ?_
      refine Ev.ret1 ?_
      refine ⟨?_, rfl⟩
      first | exact bT (by unfold IsL; omega) | exact bF (by unfold IsL; omega) | exact dI (by unfold IsL; omega)
theorem rdigit_fun (c : Int) : Fun Tryd.prog 55 [.lit (.int .u8 c)] (Ret (.lit (.bool (decide (IsD c)))) []) := by
  refine Fun.of (nt := 9) (rs := [.tmp 2]) Tryd.func55 rfl rfl rfl rfl rfl ?_
  refine Ev.sr fun K hK => S.o q.as (S.end (hK _ ?_))
  clear hK K
  refine Ev.sr fun K hK => S.o q.mv (S.o q.geq (S.bd q.mv (fun c1 => ?_) (fun c1 => ?_)))
  · first
  | (first | omega | contradiction)
  | refine S.o q.mv (S.o q.leq (S.o q.pt (S.o q.as (S.end (hK _ ?_)))))
    clear hK K
    refine Ev.ret ?_
    refine Ev.ret1 ?_
    refine ⟨?_, rfl⟩
    first | exact bT (by unfold IsD; omega) | exact bF (by unfold IsD; omega) | exact dI (by unfold IsD; omega)
  · first
  | (first | omega | contradiction)
  | refine S.sk (S.sk (S.o q.pf (S.o q.as (S.end (hK _ ?_)))))
    clear hK K
    refine Ev.ret ?_
    refine Ev.ret1 ?_
    refine ⟨?_, rfl⟩
    first | exact bT (by unfold IsD; omega) | exact bF (by unfold IsD; omega) | exact dI (by unfold IsD; omega)
theorem rword_fun (s : List UInt8) (hlen : s.length ≤ 140737488355328) : Fun Tryd.prog 42 [.lit (str s), .lit (.int .i64 0)] (Ret (.lit (.int .i64 (wordN s : Int))) []) := by
  refine Fun.of (nt := 30) (rs := [.tmp 4]) Tryd.func42 rfl rfl rfl rfl rfl ?_
  refine Ev.sr fun K hK => S.o q.as (S.end (hK _ ?_))
  clear hK K
  refine Ev.seq ?_
  refine Ev.block ?_
  refine Ev.loopU (ι := {q : List UInt8 × List UInt8 // q.1 ++ q.2 = s ∧ ∀ x ∈ q.1, IsW (x.toNat : Int)}) [] [0, 4] (fun ⟨(pre, suf), _⟩ => [(1, .lit (.int .i64 ((pre.length : Int))))]) (fun ⟨(pre, suf), _⟩ => []) (fun ⟨(pre, suf), _⟩ => suf.length) ⟨([], s), rfl, fun x hx => by simp at hx⟩ (.c (.c .n)) keep_n (slots_c (he := (by first | rfl | (simp; done) | (congr 2; omega))) (h := trivial)) ?_
  rintro ⟨⟨pre, suf⟩, hp, hinv⟩ R0 hR0
  dsimp only [List.cons_append, List.nil_append, List.length_cons, List.length_nil]
  simp only at hp hinv
  have hpl : pre.length + suf.length = s.length := by rw [← hp, List.length_append]
  rcases suf with _ | ⟨c, suf⟩
  · rw [List.append_nil] at hp; subst hp; simp only [List.length_nil] at hpl
    refine Ev.seq ?_
    refine Ev.sr fun K hK => S.o q.mv (S.o q.mv (S.o (q.slen am_el9 am_un9) (S.o q.lss (S.bd q.mv (fun c1 => ?_) (fun c1 => ?_)))))
    · first
    | (first | omega | contradiction)
    | refine S.o q.mv (S.o q.mv (S.o (q.six am_un9 (hl := (by first | exact atig (by omega)))) (S.c0 (hF := rletter_fun _) (h := S.bd q.mv (fun c2 => ?_) (fun c2 => ?_)))))
      · first
      | (first | omega | contradiction)
      | refine S.sk (S.sk (S.sk (S.sk (S.o q.pt (S.o q.mv (S.sk (S.sk (S.sk (S.sk (S.o q.pt (S.o q.pt (S.end (hK _ ?_)))))))))))))
        clear hK K
        refine Ev.ct ?_
        refine Ev.skip ?_
        show Ev _ _ _ _
        refine Ev.block ?_
        refine Ev.region_S fun K hK => S.o q.mv (S.o q.add (S.o q.as (S.end (hK _ ?_))))
        clear hK K
        refine hR0 _ _ ?_
        refine roundU [] [0, 4] ⟨(pre ++ [c], suf), by rw [← hp]; simp, ?_⟩ ?_ keep_n (slots_c (he := (by first | rfl | (simp; done) | (congr 2; omega))) (h := trivial)) (.c (.c .n))
        intro x hx; simp only [List.mem_append, List.mem_singleton] at hx; rcases hx with hx | rfl
        · exact hinv x hx
        · (unfold IsW; first | omega | (left; assumption) | (right; left; assumption))
        all_goals (dsimp only; simp only [List.length_cons]; omega)
      · first
      | (first | omega | contradiction)
      | refine S.o q.mv (S.o q.mv (S.o (q.six am_un9 (hl := (by first | exact atig (by omega)))) (S.c0 (hF := rdigit_fun _) (h := S.o q.pf (S.bd q.mv (fun c3 => ?_) (fun c3 => ?_))))))
        · first
        | (first | omega | contradiction)
        | refine S.sk (S.sk (S.sk (S.sk (S.o q.pt (S.o q.pt (S.end (hK _ ?_)))))))
          clear hK K
          refine Ev.ct ?_
          refine Ev.skip ?_
          show Ev _ _ _ _
          refine Ev.block ?_
          refine Ev.region_S fun K hK => S.o q.mv (S.o q.add (S.o q.as (S.end (hK _ ?_))))
          clear hK K
          refine hR0 _ _ ?_
          refine roundU [] [0, 4] ⟨(pre ++ [c], suf), by rw [← hp]; simp, ?_⟩ ?_ keep_n (slots_c (he := (by first | rfl | (simp; done) | (congr 2; omega))) (h := trivial)) (.c (.c .n))
          intro x hx; simp only [List.mem_append, List.mem_singleton] at hx; rcases hx with hx | rfl
          · exact hinv x hx
          · (unfold IsW; first | omega | (left; assumption) | (right; left; assumption))
          all_goals (dsimp only; simp only [List.length_cons]; omega)
        · first
        | (first | omega | contradiction)
        | refine S.o q.mv (S.o q.mv (S.o (q.six am_un9 (hl := (by first | exact atig (by omega)))) (S.o q.eql (S.o q.pf (S.o q.pt (S.end (hK _ ?_)))))))
          clear hK K
          refine Ev.cd (fun c4 => ?_) (fun c4 => ?_)
          · first
          | (first | omega | contradiction)
          | refine Ev.skip ?_
            show Ev _ _ _ _
            refine Ev.block ?_
            refine Ev.region_S fun K hK => S.o q.mv (S.o q.add (S.o q.as (S.end (hK _ ?_))))
            clear hK K
            refine hR0 _ _ ?_
            refine roundU [] [0, 4] ⟨(pre ++ [c], suf), by rw [← hp]; simp, ?_⟩ ?_ keep_n (slots_c (he := (by first | rfl | (simp; done) | (congr 2; omega))) (h := trivial)) (.c (.c .n))
            intro x hx; simp only [List.mem_append, List.mem_singleton] at hx; rcases hx with hx | rfl
            · exact hinv x hx
            · (unfold IsW; first | omega | (left; assumption) | (right; left; assumption))
            all_goals (dsimp only; simp only [List.length_cons]; omega)
          · first
          | (first | omega | contradiction)
          | refine Ev.exit ?_
            refine hR0 _ _ ?_
            show Ev _ _ _ _
            refine Ev.sr fun K hK => S.o q.mv (S.o q.as (S.end (hK _ ?_)))
            clear hK K
            refine Ev.ret ?_
            refine Ev.ret1 ?_
            refine ⟨?_, rfl⟩
            first
             | (congr 2; have := wordN_app pre [] hinv; rw [List.append_nil] at this; rw [this]; simp [wordN]; done)
             | (congr 2; rw [← hp, wordN_app pre _ hinv, wordN, if_neg (notW ‹_› ‹_› ‹_›)]; simp; done)
    · first
    | (first | omega | contradiction)
    | refine S.sk (S.sk (S.sk (S.sk (S.sk (S.sk (S.sk (S.sk (S.sk (S.sk (S.sk (S.sk (S.sk (S.sk (S.sk (S.sk (S.o q.pf (S.end (hK _ ?_))))))))))))))))))
      clear hK K
      refine Ev.cf ?_
      refine Ev.exit ?_
      refine hR0 _ _ ?_
      show Ev _ _ _ _
      refine Ev.sr fun K hK => S.o q.mv (S.o q.as (S.end (hK _ ?_)))
      clear hK K
      refine Ev.ret ?_
      refine Ev.ret1 ?_
      refine ⟨?_, rfl⟩
      first
       | (congr 2; have := wordN_app pre [] hinv; rw [List.append_nil] at this; rw [this]; simp [wordN]; done)
       | (congr 2; rw [← hp, wordN_app pre _ hinv, wordN, if_neg (notW ‹_› ‹_› ‹_›)]; simp; done)
  · simp only [List.length_cons] at hpl
    have hidx : s[pre.length]? = some c := by rw [← hp]; simp
    refine Ev.seq ?_
    refine Ev.sr fun K hK => S.o q.mv (S.o q.mv (S.o (q.slen am_el9 am_un9) (S.o q.lss (S.bd q.mv (fun c5 => ?_) (fun c5 => ?_)))))
    · first
    | (first | omega | contradiction)
    | refine S.o q.mv (S.o q.mv (S.o (q.six am_un9 (hl := (by first | exact ati hidx (by omega) | exact atig (by omega)))) (S.c0 (hF := rletter_fun _) (h := S.bd q.mv (fun c6 => ?_) (fun c6 => ?_)))))
      · first
      | (first | omega | contradiction)
      | refine S.sk (S.sk (S.sk (S.sk (S.o q.pt (S.o q.mv (S.sk (S.sk (S.sk (S.sk (S.o q.pt (S.o q.pt (S.end (hK _ ?_)))))))))))))
        clear hK K
        refine Ev.ct ?_
        refine Ev.skip ?_
        show Ev _ _ _ _
        refine Ev.block ?_
        refine Ev.region_S fun K hK => S.o q.mv (S.o q.add (S.o q.as (S.end (hK _ ?_))))
        clear hK K
        refine hR0 _ _ ?_
        refine roundU [] [0, 4] ⟨(pre ++ [c], suf), by rw [← hp]; simp, ?_⟩ ?_ keep_n (slots_c (he := (by first | rfl | (simp; done) | (congr 2; omega))) (h := trivial)) (.c (.c .n))
        intro x hx; simp only [List.mem_append, List.mem_singleton] at hx; rcases hx with hx | rfl
        · exact hinv x hx
        · (unfold IsW; first | omega | (left; assumption) | (right; left; assumption))
        all_goals (dsimp only; simp only [List.length_cons]; omega)
      · first
      | (first | omega | contradiction)
      | refine S.o q.mv (S.o q.mv (S.o (q.six am_un9 (hl := (by first | exact ati hidx (by omega) | exact atig (by omega)))) (S.c0 (hF := rdigit_fun _) (h := S.o q.pf (S.bd q.mv (fun c7 => ?_) (fun c7 => ?_))))))
        · first
        | (first | omega | contradiction)
        | refine S.sk (S.sk (S.sk (S.sk (S.o q.pt (S.o q.pt (S.end (hK _ ?_)))))))
          clear hK K
          refine Ev.ct ?_
          refine Ev.skip ?_
          show Ev _ _ _ _
          refine Ev.block ?_
          refine Ev.region_S fun K hK => S.o q.mv (S.o q.add (S.o q.as (S.end (hK _ ?_))))
          clear hK K
          refine hR0 _ _ ?_
          refine roundU [] [0, 4] ⟨(pre ++ [c], suf), by rw [← hp]; simp, ?_⟩ ?_ keep_n (slots_c (he := (by first | rfl | (simp; done) | (congr 2; omega))) (h := trivial)) (.c (.c .n))
          intro x hx; simp only [List.mem_append, List.mem_singleton] at hx; rcases hx with hx | rfl
          · exact hinv x hx
          · (unfold IsW; first | omega | (left; assumption) | (right; left; assumption))
          all_goals (dsimp only; simp only [List.length_cons]; omega)
        · first
        | (first | omega | contradiction)
        | refine S.o q.mv (S.o q.mv (S.o (q.six am_un9 (hl := (by first | exact ati hidx (by omega) | exact atig (by omega)))) (S.o q.eql (S.o q.pf (S.o q.pt (S.end (hK _ ?_)))))))
          clear hK K
          refine Ev.cd (fun c8 => ?_) (fun c8 => ?_)
          · first
          | (first | omega | contradiction)
          | refine Ev.skip ?_
            show Ev _ _ _ _
            refine Ev.block ?_
            refine Ev.region_S fun K hK => S.o q.mv (S.o q.add (S.o q.as (S.end (hK _ ?_))))
            clear hK K
            refine hR0 _ _ ?_
            refine roundU [] [0, 4] ⟨(pre ++ [c], suf), by rw [← hp]; simp, ?_⟩ ?_ keep_n (slots_c (he := (by first | rfl | (simp; done) | (congr 2; omega))) (h := trivial)) (.c (.c .n))
            intro x hx; simp only [List.mem_append, List.mem_singleton] at hx; rcases hx with hx | rfl
            · exact hinv x hx
            · (unfold IsW; first | omega | (left; assumption) | (right; left; assumption))
            all_goals (dsimp only; simp only [List.length_cons]; omega)
          · first
          | (first | omega | contradiction)
          | refine Ev.exit ?_
            refine hR0 _ _ ?_
            show Ev _ _ _ _
            refine Ev.sr fun K hK => S.o q.mv (S.o q.as (S.end (hK _ ?_)))
            clear hK K
            refine Ev.ret ?_
            refine Ev.ret1 ?_
            refine ⟨?_, rfl⟩
            first
             | (congr 2; have := wordN_app pre [] hinv; rw [List.append_nil] at this; rw [this]; simp [wordN]; done)
             | (congr 2; rw [← hp, wordN_app pre _ hinv, wordN, if_neg (notW ‹_› ‹_› ‹_›)]; simp; done)
    · first
    | (first | omega | contradiction)
    | refine S.sk (S.sk (S.sk (S.sk (S.sk (S.sk (S.sk (S.sk (S.sk (S.sk (S.sk (S.sk (S.sk (S.sk (S.sk (S.sk (S.o q.pf (S.end (hK _ ?_))))))))))))))))))
      clear hK K
      refine Ev.cf ?_
      refine Ev.exit ?_
      refine hR0 _ _ ?_
      show Ev _ _ _ _
      refine Ev.sr fun K hK => S.o q.mv (S.o q.as (S.end (hK _ ?_)))
      clear hK K
      refine Ev.ret ?_
      refine Ev.ret1 ?_
      refine ⟨?_, rfl⟩
      first
       | (congr 2; have := wordN_app pre [] hinv; rw [List.append_nil] at this; rw [this]; simp [wordN]; done)
       | (congr 2; rw [← hp, wordN_app pre _ hinv, wordN, if_neg (notW ‹_› ‹_› ‹_›)]; simp; done)
theorem risName_fun (s : List UInt8) (hlen : s.length ≤ 140737488355328) : Fun Tryd.prog 21 [.lit (str s)] (Ret (.lit (.bool (decide (IsName s)))) []) := by
  have hg : ∀ h : 0 < s.length, s[0]? = some (s[0]'h) := fun h => List.getElem?_eq_getElem h
  have hz : ¬ s = [] → 0 < s.length := fun h => List.length_pos_iff.2 h
  have hI : IsName s ↔ 0 < s.length ∧ s.length ≤ 20 ∧ (∀ h : 0 < s.length, IsL ((s[0]'h).toNat : Int)) ∧ wordN s = s.length := by
    unfold IsName
    constructor
    · rintro ⟨h1, h2, h3, h4⟩; exact ⟨h1, h2, fun h => h3 _ (hg h), h4⟩
    · rintro ⟨h1, h2, h3, h4⟩; exact ⟨h1, h2, fun c hc => by rw [hg h1] at hc; simp only [Option.some.injEq] at hc; rw [← hc]; exact h3 h1, h4⟩
  refine Fun.of (nt := 22) (rs := [.tmp 2]) Tryd.func21 rfl rfl rfl rfl rfl ?_
  refine Ev.sr fun K hK => S.o q.as (S.end (hK _ ?_))
  clear hK K
  refine Ev.seq ?_
  refine Ev.sr fun K hK => S.o q.mv (S.o (q.slen am_el9 am_un9) (S.o q.eql (S.bd q.mv (fun c1 => ?_) (fun c1 => ?_))))
  · first
  | (first | omega | contradiction)
  | refine S.sk (S.sk (S.sk (S.o q.pt (S.o q.mv (S.sk (S.sk (S.sk (S.sk (S.o q.pt (S.end (hK _ ?_)))))))))))
    clear hK K
    refine Ev.ct ?_
    refine Ev.sr fun K hK => S.o q.as (S.end (hK _ ?_))
    clear hK K
    refine Ev.ret ?_
    refine Ev.ret1 ?_
    refine ⟨?_, rfl⟩
    first
     | exact bF (fun h => by have h1 := (hI.1 h).1; first | omega | (rw [‹s = []›] at h1; exact absurd h1 (by decide)))
     | exact bF (fun h => by have := (hI.1 h).2.1; omega)
     | exact bF (fun h => absurd ((hI.1 h).2.2.1 (by first | omega | exact hz ‹_›)) ‹_›)
     | exact dI ⟨fun h => hI.2 ⟨(by first | omega | exact hz ‹_›), by omega, fun _ => ‹_›, by omega⟩, fun h => by have := (hI.1 h).2.2.2; omega⟩
     | exact bT (hI.2 ⟨(by first | omega | exact hz ‹_›), by omega, fun _ => ‹_›, by omega⟩)
     | exact bF (fun h => by have := (hI.1 h).2.2.2; omega)
  · first
  | (first | omega | contradiction)
  | refine S.o q.mv (S.o (q.slen am_el9 am_un9) (S.o q.gtr (S.o q.pf (S.bd q.mv (fun c2 => ?_) (fun c2 => ?_)))))
    · first
    | (first | omega | contradiction)
    | refine S.sk (S.sk (S.sk (S.sk (S.o q.pt (S.end (hK _ ?_))))))
      clear hK K
      refine Ev.ct ?_
      refine Ev.sr fun K hK => S.o q.as (S.end (hK _ ?_))
      clear hK K
      refine Ev.ret ?_
      refine Ev.ret1 ?_
      refine ⟨?_, rfl⟩
      first
       | exact bF (fun h => by have h1 := (hI.1 h).1; first | omega | (rw [‹s = []›] at h1; exact absurd h1 (by decide)))
       | exact bF (fun h => by have := (hI.1 h).2.1; omega)
       | exact bF (fun h => absurd ((hI.1 h).2.2.1 (by first | omega | exact hz ‹_›)) ‹_›)
       | exact dI ⟨fun h => hI.2 ⟨(by first | omega | exact hz ‹_›), by omega, fun _ => ‹_›, by omega⟩, fun h => by have := (hI.1 h).2.2.2; omega⟩
       | exact bT (hI.2 ⟨(by first | omega | exact hz ‹_›), by omega, fun _ => ‹_›, by omega⟩)
       | exact bF (fun h => by have := (hI.1 h).2.2.2; omega)
    · first
    | (first | omega | contradiction)
    | refine S.o q.mv (S.o (q.six am_un9 (hl := (by first | exact ati (hg (by first | omega | exact hz ‹_›)) (by omega) | exact atig (by omega)))) (S.c0 (hF := rletter_fun _) (h := S.o q.not (S.o q.pf (S.end (hK _ ?_))))))
      clear hK K
      refine Ev.cn (fun c3 => ?_) (fun c3 => ?_)
      · first
      | (first | omega | contradiction)
      | refine Ev.sr fun K hK => S.o q.as (S.end (hK _ ?_))
        clear hK K
        refine Ev.ret ?_
        refine Ev.ret1 ?_
        refine ⟨?_, rfl⟩
        first
         | exact bF (fun h => by have h1 := (hI.1 h).1; first | omega | (rw [‹s = []›] at h1; exact absurd h1 (by decide)))
         | exact bF (fun h => by have := (hI.1 h).2.1; omega)
         | exact bF (fun h => absurd ((hI.1 h).2.2.1 (by first | omega | exact hz ‹_›)) ‹_›)
         | exact dI ⟨fun h => hI.2 ⟨(by first | omega | exact hz ‹_›), by omega, fun _ => ‹_›, by omega⟩, fun h => by have := (hI.1 h).2.2.2; omega⟩
         | exact bT (hI.2 ⟨(by first | omega | exact hz ‹_›), by omega, fun _ => ‹_›, by omega⟩)
         | exact bF (fun h => by have := (hI.1 h).2.2.2; omega)
      · first
      | (first | omega | contradiction)
      | refine Ev.skip ?_
        show Ev _ _ _ _
        refine Ev.sr fun K hK => S.o q.mv (S.c0 (hF := rword_fun _ (by omega)) (h := S.o q.mv (S.o (q.slen am_el9 am_un9) (S.o q.eql (S.o q.as (S.end (hK _ ?_)))))))
        clear hK K
        refine Ev.ret ?_
        refine Ev.ret1 ?_
        refine ⟨?_, rfl⟩
        first
         | exact bF (fun h => by have h1 := (hI.1 h).1; first | omega | (rw [‹s = []›] at h1; exact absurd h1 (by decide)))
         | exact bF (fun h => by have := (hI.1 h).2.1; omega)
         | exact bF (fun h => absurd ((hI.1 h).2.2.1 (by first | omega | exact hz ‹_›)) ‹_›)
         | exact dI ⟨fun h => hI.2 ⟨(by first | omega | exact hz ‹_›), by omega, fun _ => ‹_›, by omega⟩, fun h => by have := (hI.1 h).2.2.2; omega⟩
         | exact bT (hI.2 ⟨(by first | omega | exact hz ‹_›), by omega, fun _ => ‹_›, by omega⟩)
         | exact bF (fun h => by have := (hI.1 h).2.2.2; omega)
end Go.Proofs.YthiockdlhehhoaaDoor
