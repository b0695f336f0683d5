/-
  Part 23 of the proof: functions walked on the abstract machine.
  Conditions: none.
-/
import Derived.Test.YtlpgjlnkfgacbaaGreatX22
set_option linter.unusedSimpArgs false
set_option linter.unusedVariables false
set_option maxRecDepth 100000
set_option maxHeartbeats 1000000
namespace Go.Proofs.YtlpgjlnkfgacbaaGreat
open Go Go.AM
theorem bT {p : Prop} [Decidable p] (h : p) : bL true = bL (decide p) := by rw [decide_eq_true h]
theorem bF {p : Prop} [Decidable p] (h : ¬ p) : bL false = bL (decide p) := by rw [decide_eq_false h]
theorem dI {p q : Prop} [Decidable p] [Decidable q] (h : p ↔ q) : bL (decide p) = bL (decide q) := by rw [decide_eq_decide.2 h]
theorem lawT {p : Prop} [Decidable p] (h : p) : bL (decide p) = bL true := by rw [decide_eq_true h]
theorem iE {a b : Int} (h : a = b) : iL a = iL b := by rw [h]
def intC (n : Int) : List AV := [iL n]
def pairC : Int × Int → List AV
  | (a, b) => [iL a, iL b]
theorem last_get {T : Type} {pre : List T} (h : 0 < pre.length) : pre.getLast? = some (pre.getLast (List.ne_nil_of_length_pos h)) := List.getLast?_eq_some_getLast _
theorem pre_last {T : Type} {pre suf l : List T} (hp : pre ++ suf = l) (h : 0 < pre.length) : l[pre.length - 1]? = some (pre.getLast (List.ne_nil_of_length_pos h)) := by
  rw [← hp, List.getElem?_append_left (by omega), ← List.getLast?_eq_getElem?, last_get h]
theorem mul_bd {k a K A : Int} (h1 : 0 ≤ k) (h2 : k ≤ K) (h3 : 0 ≤ a) (h4 : a ≤ A) : 0 ≤ k * a ∧ k * a ≤ K * A := ⟨Int.mul_nonneg h1 h3, Int.mul_le_mul h2 h4 h3 (by omega)⟩
theorem snoc_ind {T : Type} {P : List T → Prop} (h0 : P []) (hs : ∀ l s, P l → P (l ++ [s])) : ∀ l, P l := by
  intro l
  have : ∀ n, ∀ l : List T, l.length = n → P l := by
    intro n
    induction n with
    | zero => intro l h; rw [List.eq_nil_of_length_eq_zero h]; exact h0
    | succ n ih =>
      intro l h
      have hne : l ≠ [] := by intro e; subst e; simp at h
      rw [← List.dropLast_concat_getLast hne]; exact hs _ _ (ih _ (by simp [h]))
  exact this _ l rfl
def idxP {T : Type} (p : T → Bool) : List T → Int → Int
  | [], _ => -1
  | x :: l, k => if p x = true then k else idxP p l (k + 1)
theorem idxP_append {T : Type} (p : T → Bool) : ∀ (l m : List T) (k : Int), (∀ x ∈ l, p x = false) → idxP p (l ++ m) k = idxP p m (k + l.length)
  | [], m, k, _ => by simp
  | x :: l, m, k, h => by
    have h1 := h x (by simp); rw [List.cons_append, idxP, h1, if_neg (by simp), idxP_append p l m _ (fun y hy => h y (by simp [hy]))]
    congr 1
    simp; omega
theorem idxP_none {T : Type} (p : T → Bool) (l : List T) (k : Int) (h : ∀ x ∈ l, p x = false) : idxP p l k = -1 := by
  have := idxP_append p l [] k h; rw [List.append_nil] at this; rw [this]; rfl
theorem idxP_nonneg {T : Type} (p : T → Bool) : ∀ (l : List T) (k : Int), 0 ≤ k → (0 ≤ idxP p l k ↔ ∃ x ∈ l, p x = true)
  | [], k, _ => by simp [idxP]
  | x :: l, k, hk => by
    rw [idxP]
    split
    · rename_i h; simp [h, hk]
    · rename_i h; rw [idxP_nonneg p l (k + 1) (by omega)]; simp [h]
def IsL (c : Int) : Prop := (97 ≤ c ∧ c ≤ 122) ∨ (65 ≤ c ∧ c ≤ 90)
def IsD (c : Int) : Prop := 48 ≤ c ∧ c ≤ 57
instance (c) : Decidable (IsL c) := by unfold IsL; infer_instance
instance (c) : Decidable (IsD c) := by unfold IsD; infer_instance
def IsW (c : Int) : Prop := IsL c ∨ IsD c ∨ c = 95
instance (c) : Decidable (IsW c) := by unfold IsW; infer_instance
theorem notW {c : Int} (h1 : ¬ IsL c) (h2 : ¬ IsD c) (h3 : ¬ c = 95) : ¬ IsW c := by rintro (h | h | h) <;> contradiction
def wordN : List UInt8 → Nat
  | [] => 0
  | c :: l => if IsW (c.toNat : Int) then wordN l + 1 else 0
theorem wordN_app : ∀ (a b : List UInt8), (∀ x ∈ a, IsW (x.toNat : Int)) → wordN (a ++ b) = a.length + wordN b
  | [], b, _ => by simp
  | x :: a, b, h => by
    rw [List.cons_append, wordN, if_pos (h x (by simp)), wordN_app a b (fun y hy => h y (by simp [hy])), List.length_cons]; omega
def IsName (s : List UInt8) : Prop := 0 < s.length ∧ s.length ≤ 20 ∧ (∀ c, s[0]? = some c → IsL (c.toNat : Int)) ∧ wordN s = s.length
instance (s) : Decidable (IsName s) := by
  unfold IsName
  cases h : s[0]? with
  | none => exact decidable_of_iff (0 < s.length ∧ s.length ≤ 20 ∧ wordN s = s.length) (by simp)
  | some c => exact decidable_of_iff (0 < s.length ∧ s.length ≤ 20 ∧ IsL (c.toNat : Int) ∧ wordN s = s.length) (by simp)
theorem letter_fun (c : Int) : Fun Tryz.prog 105 [.lit (.int .u8 c)] (Ret (bL (decide (IsL c))) []) := by
  refine Fun.of (nt := 17) (rs := [.tmp 2]) Tryz.func105 rfl rfl rfl rfl rfl (Ev.sr fun _ k=>S.o q.as (S.e k (Ev.sr fun _ k=>S.o q.mv (S.o q.geq (S.bd q.mv (fun c1 => ?_) (fun c1 => ?_))))))
  · refine S.o q.mv (S.o q.leq (S.o q.pt (S.bd q.mv (fun c2 => ?_) (fun c2 => ?_))))
    · refine S.s2 (S.s2 (S.s2 (S.o q.pt (S.o q.as (S.e k (Ev.ret (Ev.p1 ?_))))))); exact bT (by unfold IsL; omega)
    refine S.o q.mv (S.o q.geq (S.bd q.mv (fun c3 => ?_) (fun c3 => ?_)))
    · refine S.o q.mv (S.o q.leq (S.o q.pt (S.o q.pf (S.o q.as (S.e k (Ev.ret (Ev.p1 ?_))))))); exact dI (by unfold IsL; omega)
    omega
  refine S.s2 (S.o q.pf (S.o q.mv (S.o q.mv (S.o q.geq (S.bd q.mv (fun c4 => ?_) (fun c4 => ?_))))))
  · refine S.o q.mv (S.o q.leq (S.o q.pt (S.o q.pf (S.o q.as (S.e k (Ev.ret (Ev.p1 ?_))))))); exact dI (by unfold IsL; omega)
  refine S.s2 (S.o q.pf (S.o q.pf (S.o q.as (S.e k (Ev.ret (Ev.p1 ?_)))))); exact bF (by unfold IsL; omega)
theorem digit_fun (c : Int) : Fun Tryz.prog 132 [.lit (.int .u8 c)] (Ret (bL (decide (IsD c))) []) := by
  refine Fun.of (nt := 9) (rs := [.tmp 2]) Tryz.func132 rfl rfl rfl rfl rfl (Ev.sr fun _ k=>S.o q.as (S.e k (Ev.sr fun _ k=>S.o q.mv (S.o q.geq (S.bd q.mv (fun c1 => ?_) (fun c1 => ?_))))))
  · refine S.o q.mv (S.o q.leq (S.o q.pt (S.o q.as (S.e k (Ev.ret (Ev.p1 ?_)))))); exact dI (by unfold IsD; omega)
  refine S.s2 (S.o q.pf (S.o q.as (S.e k (Ev.ret (Ev.p1 ?_))))); exact bF (by unfold IsD; omega)
theorem word_fun (s : List UInt8) (hlen : s.length ≤ 140737488355328) : Fun Tryz.prog 106 [sL s] (Ret (iL (wordN s : Int)) []) := by
  refine Fun.of (nt := 29) (rs := [.tmp 2]) Tryz.func106 rfl rfl rfl rfl rfl (Ev.sr fun _ k=>S.o q.as (S.e k (Ev.sr fun _ k=>S.o q.as (S.e k (Ev.seq (Ev.block (Ev.loopU (ι := {q : List UInt8 × List UInt8 // q.1 ++ q.2 = s ∧ ∀ x ∈ q.1, IsW (x.toNat : Int)}) [] [0] (fun ⟨(pre, suf), _⟩ => [(3, iL (pre.length : Int))]) (fun ⟨(pre, suf), _⟩ => []) (fun ⟨(pre, suf), _⟩ => suf.length) ⟨([], s), rfl, fun x hx => by simp at hx⟩ (.c .n) keep_n (slots_c) ?_))))))); rintro ⟨⟨pre, suf⟩, hp, hinv⟩ R0 hR0; dsimp only [cA, nA, lC, lN]
  simp only at hp hinv
  have hpl : pre.length + suf.length = s.length := by rw [← hp, List.length_append]
  rcases suf with _ | ⟨c, suf⟩
  · rw [List.append_nil] at hp; subst hp; simp only [List.length_nil] at hpl; refine Ev.seq (Ev.sr fun _ k=>S.o q.mv (S.o q.mv (S.o (q.slen am_el9 am_un9) (S.o q.lss (S.bd q.mv (fun c1 => ?_) (fun c1 => ?_))))))
    · omega
    refine S.s2 (S.s2 (S.s2 (S.s2 (S.s2 (S.s2 (S.s2 (S.s2 (S.o q.pf (S.e k (Ev.cf (Ev.exit (hR0 _ _ (Ev.sr fun _ k=>S.o q.mv (S.o q.as (S.e k (Ev.ret (Ev.p1 ?_)))))))))))))))))
    congr 2; have := wordN_app pre [] hinv; rw [List.append_nil] at this; rw [this]; simp [wordN]
  simp only [lC] at hpl; have hidx := getA hp; refine Ev.seq (Ev.sr fun _ k=>S.o q.mv (S.o q.mv (S.o (q.slen am_el9 am_un9) (S.o q.lss (S.bd q.mv (fun c5 => ?_) (fun c5 => ?_))))))
  · refine S.o q.mv (S.o q.mv (S.o (q.six am_un9 (hl := (by exact ati hidx (by omega)))) (S.c0 (hF := letter_fun _) (h := S.bd q.mv (fun c6 => ?_) (fun c6 => ?_)))))
    · refine S.s2 (S.s2 (S.o q.pt (S.o q.mv (S.s2 (S.s2 (S.o q.pt (S.o q.pt (S.e k (Ev.ct (Ev.skip (Ev.block (Ev.region_S fun _ k=>S.o q.mv (S.o q.add (S.o q.as (S.e k (hR0 _ _ (roundU [] [0] ⟨(pre ++ [c], suf), sucA hp, ?_⟩ muL keep_n (slots_c (he := (by simp))) (.c .n))))))))))))))))))
      intro x hx; simp only [List.mem_append, List.mem_singleton] at hx; rcases hx with hx | rfl
      · exact hinv x hx
      · (unfold IsW; (left; assumption))
    refine S.o q.mv (S.o q.mv (S.o (q.six am_un9 (hl := (by exact ati hidx (by omega)))) (S.c0 (hF := digit_fun _) (h := S.o q.pf (S.bd q.mv (fun c7 => ?_) (fun c7 => ?_))))))
    · refine S.s2 (S.s2 (S.o q.pt (S.o q.pt (S.e k (Ev.ct (Ev.skip (Ev.block (Ev.region_S fun _ k=>S.o q.mv (S.o q.add (S.o q.as (S.e k (hR0 _ _ (roundU [] [0] ⟨(pre ++ [c], suf), sucA hp, ?_⟩ muL keep_n (slots_c (he := (by simp))) (.c .n))))))))))))))
      intro x hx; simp only [List.mem_append, List.mem_singleton] at hx; rcases hx with hx | rfl
      · exact hinv x hx
      · (unfold IsW; (right; left; assumption))
    refine S.o q.mv (S.o q.mv (S.o (q.six am_un9 (hl := (by exact ati hidx (by omega)))) (S.o q.eql (S.o q.pf (S.o q.pt (S.e k (Ev.cd (fun c8 => ?_) (fun c8 => ?_))))))))
    · refine Ev.skip (Ev.block (Ev.region_S fun _ k=>S.o q.mv (S.o q.add (S.o q.as (S.e k (hR0 _ _ (roundU [] [0] ⟨(pre ++ [c], suf), sucA hp, ?_⟩ muL keep_n (slots_c (he := (by simp))) (.c .n))))))))
      intro x hx; simp only [List.mem_append, List.mem_singleton] at hx; rcases hx with hx | rfl
      · exact hinv x hx
      · (unfold IsW; omega)
    refine Ev.exit (hR0 _ _ (Ev.sr fun _ k=>S.o q.mv (S.o q.as (S.e k (Ev.ret (Ev.p1 ?_))))))
    congr 2; rw [← hp, wordN_app pre _ hinv, wordN, if_neg (notW ‹_› ‹_› ‹_›)]; simp
  omega
theorem isName_fun (s : List UInt8) (hlen : s.length ≤ 140737488355328) : Fun Tryz.prog 87 [sL s] (Ret (bL (decide (IsName s))) []) := by
  have hg : ∀ h : 0 < s.length, s[0]? = some (s[0]'h) := fun h => List.getElem?_eq_getElem h; have hz : ¬ s = [] → 0 < s.length := fun h => List.length_pos_iff.2 h
  have hI : IsName s ↔ 0 < s.length ∧ s.length ≤ 20 ∧ (∀ h : 0 < s.length, IsL ((s[0]'h).toNat : Int)) ∧ wordN s = s.length := by
    unfold IsName
    constructor
    · rintro ⟨h1, h2, h3, h4⟩; exact ⟨h1, h2, fun h => h3 _ (hg h), h4⟩
    rintro ⟨h1, h2, h3, h4⟩; exact ⟨h1, h2, fun c hc => by rw [hg h1] at hc; simp only [Option.some.injEq] at hc; rw [← hc]; exact h3 h1, h4⟩
  refine Fun.of (nt := 22) (rs := [.tmp 2]) Tryz.func87 rfl rfl rfl rfl rfl (Ev.sr fun _ k=>S.o q.as (S.e k (Ev.sr fun _ k=>S.o q.mv (S.o q.snes (S.bn q.mv (fun c1 => ?_) (fun c1 => ?_))))))
  · refine S.o q.mv (S.o (q.slen am_el9 am_un9) (S.o q.leq (S.o q.pt (S.bd q.mv (fun c2 => ?_) (fun c2 => ?_)))))
    · refine S.o q.mv (S.o (q.six am_un9 (hl := (by exact ati (hg (by exact hz ‹_›)) (by omega)))) (S.c0 (hF := letter_fun _) (h := S.o q.pt (S.bd q.mv (fun c3 => ?_) (fun c3 => ?_)))))
      · refine S.o q.mv (S.c0 (hF := word_fun _ (by omega)) (h := S.o q.mv (S.o (q.slen am_el9 am_un9) (S.o q.eql (S.o q.pt (S.o q.as (S.e k (Ev.ret (Ev.p1 ?_))))))))); exact dI ⟨fun h => hI.2 ⟨(by exact hz ‹_›), by omega, fun _ => ‹_›, by omega⟩, fun h => by have := (hI.1 h).2.2.2; omega⟩
      refine S.s2 (S.s2 (S.sk (S.o q.pf (S.o q.as (S.e k (Ev.ret (Ev.p1 ?_))))))); exact bF (fun h => absurd ((hI.1 h).2.2.1 (by exact hz ‹_›)) ‹_›)
    refine S.s2 (S.sk (S.o q.pf (S.o q.mv (S.s2 (S.s2 (S.sk (S.o q.pf (S.o q.as (S.e k (Ev.ret (Ev.p1 ?_))))))))))); exact bF (fun h => by have := (hI.1 h).2.1; omega)
  refine S.s2 (S.sk (S.o q.pf (S.o q.mv (S.s2 (S.sk (S.o q.pf (S.o q.mv (S.s2 (S.s2 (S.sk (S.o q.pf (S.o q.as (S.e k (Ev.ret (Ev.p1 ?_))))))))))))))); exact bF (fun h => by have h1 := (hI.1 h).1; (rw [‹s = []›] at h1; exact absurd h1 (by decide)))
def sizes : List Int := [6, 8, 10, 12, 16, 20, 25, 32, 40]
theorem size_bd {d : Int} (h : d ∈ sizes) : 6 ≤ d ∧ d ≤ 40 := by
  simp only [sizes, List.mem_cons, List.not_mem_nil, or_false] at h; omega
def idxI (l : List Int) (v : Int) : Int := idxP (fun x => decide (v = x)) l 0
theorem index_fun (l : List Int) (v : Int) (hlen : l.length ≤ 140737488355328) : Fun Tryz.prog 44 [.sh 1 (l.map intC), iL v] (Ret (iL (idxI l v)) []) := by
  unfold idxI
  refine Fun.of (nt := 19) (rs := [.tmp 4]) Tryz.func44 rfl rfl rfl rfl rfl (Ev.sr fun _ k=>S.o q.as (S.e k (Ev.seq (Ev.sr fun _ k=>S.o q.mv (S.o (q.lens am_el56) (S.o q.mv (S.e k (Ev.block (Ev.loopU (ι := {q : List Int × List Int // q.1 ++ q.2 = l ∧ ∀ x ∈ q.1, decide (v = x) = false}) [] [0, 1, 7] (fun ⟨(pre, suf), _⟩ => [(8, iL (pre.length : Int))]) (fun ⟨(pre, suf), _⟩ => []) (fun ⟨(pre, suf), _⟩ => suf.length) ⟨([], l), rfl, fun x hx => by simp at hx⟩ (.c (.c (.c .n))) keep_n (slots_c) ?_))))))))); rintro ⟨⟨pre, suf⟩, hp, hinv⟩ R0 hR0; dsimp only [cA, nA, lC, lN]
  simp only at hp hinv
  have hpl := lenA hp
  rcases suf with _ | ⟨s, suf⟩
  · rw [List.append_nil] at hp; subst hp; simp only [List.length_nil] at hpl; refine Ev.sr fun _ k=>S.o q.lss (S.e k (Ev.ud (fun c1 => ?_) (fun c1 => ?_)))
    · omega
    refine Ev.exit (hR0 _ _ (Ev.sr fun _ k=>S.o q.as (S.e k (Ev.ret (Ev.p1 ?_)))))
    congr 2; rw [idxP_none _ pre 0 hinv]
  simp only [lC] at hpl; have hidx := getA hp; refine Ev.sr fun _ k=>S.o q.lss (S.e k (Ev.ud (fun c3 => ?_) (fun c3 => ?_)))
  · refine Ev.seq (Ev.block (Ev.sr fun _ k=>S.o q.mv (S.o q.as (S.e k (Ev.sr fun _ k=>S.o q.mv (S.o q.mv (S.o q.mv (S.o (q.ix am_el56 am_cl3 (hl := (by exact ati hidx (by omega)))) (S.o (q.ls am_ag3) (S.o q.eql (S.e k (Ev.cd (fun c4 => ?_) (fun c4 => ?_)))))))))))))
    · refine Ev.sr fun _ k=>S.o q.mv (S.o q.as (S.e k (Ev.ret (hR0 _ _ (Ev.p1 ?_)))))
      congr 2; rw [← hp, idxP_append _ pre _ 0 hinv, idxP, if_pos (decide_eq_true ‹_›)]; omega
    refine Ev.skip (Ev.region_S fun _ k=>S.o q.add (S.o q.mv (S.e k (hR0 _ _ (roundU [] [0, 1, 7] ⟨(pre ++ [s], suf), sucA hp, ?_⟩ muL keep_n (slots_c (he := (by simp))) (.c (.c (.c .n))))))))
    intro x hx; simp only [List.mem_append, List.mem_singleton] at hx; rcases hx with hx | rfl
    · exact hinv x hx
    · exact decide_eq_false ‹_›
  omega
theorem contains_fun (l : List Int) (v : Int) (hlen : l.length ≤ 140737488355328) : Fun Tryz.prog 90 [.sh 1 (l.map intC), iL v] (Ret (bL (decide (v ∈ l))) []) := by
  have hd : decide (v ∈ l) = decide (0 ≤ idxI l v) := by
    rw [decide_eq_decide, idxI, idxP_nonneg _ l 0 (Int.le_refl _)]
    constructor
    · intro h; exact ⟨v, h, by simp⟩
    rintro ⟨x, hx, h⟩; rw [of_decide_eq_true h]; exact hx
  rw [hd]; refine Fun.of (nt := 9) (rs := [.tmp 4]) Tryz.func90 rfl rfl rfl rfl rfl (Ev.sr fun _ k=>S.o q.as (S.e k (Ev.sr fun _ k=>S.o q.mv (S.o q.mv (S.c0 (hF := index_fun _ _ (by omega)) (h := S.o q.geq (S.o q.as (S.e k (Ev.ret (Ev.p1 ?_)))))))))); rfl
theorem sizes_fun : Fun Tryz.prog 37 [] (Ret (.sh 1 (sizes.map intC)) []) := by
  refine Fun.of (nt := 2) (rs := [.tmp 0]) Tryz.func37 rfl rfl rfl rfl rfl (Ev.sr fun _ k=>S.o q.as (S.e k (Ev.sr fun _ k=>S.nn (q.bs [[_], [_], [_], [_], [_], [_], [_], [_], [_]] true am_el56 am_ze3 am_cl3) (S.o q.as (S.e k (Ev.weaken (Wk.frzl (f := intC) [_, _, _, _, _, _, _, _, _] 0 []) (Ev.ret (Ev.p1 ?_)))))))); rfl
theorem size_fun (d : Int) : Fun Tryz.prog 66 [iL d] (Ret (bL (decide (d ∈ sizes))) []) := by
  refine Fun.of (nt := 6) (rs := [.tmp 2]) Tryz.func66 rfl rfl rfl rfl rfl (Ev.sr fun _ k=>S.o q.as (S.e k (Ev.sr fun _ k=>S.c0 (hF := sizes_fun) (h := S.o q.mv (S.c0 (hF := contains_fun _ _ (by decide)) (h := S.o q.as (S.e k (Ev.ret (Ev.p1 ?_))))))))); rfl
def szV (d v : Int) : Int := if d ∈ sizes then v else 0
def szE (d : Int) : Int := if d ∈ sizes then 0 else 1
theorem sized1_fun (d : Int) (g : FuncId) (c0 : List AV) (v : Int) (hg : d ∈ sizes → Fun Tryz.prog g [.sadr c0 0] (Ret (iL v) [])) :
    Fun Tryz.prog 67 [iL d, .fn (.func g) [] [.sadr c0 0]] (Ret (.tup [iL (szV d v), iL (szE d)]) []) := by
  refine Fun.of (nt := 11) (rs := [.tmp 4, .tmp 5]) Tryz.func67 rfl rfl rfl rfl rfl (Ev.sr fun _ k=>S.o q.as (S.o q.as (S.e k (Ev.seq (Ev.sr fun _ k=>S.o q.mv (S.c0 (hF := size_fun _) (h := S.o q.not (S.e k (Ev.cn (fun c1 => ?_) (fun c1 => ?_))))))))))
  · refine Ev.sr fun _ k=>S.o q.as (S.o q.as (S.e k (Ev.ret (Ev.p2 ?_)))); rw [szV, szE, if_neg ‹_›, if_neg ‹_›]
  refine Ev.skip (Ev.sr fun _ k=>S.o q.mv (S.c0 (hF := hg ‹_›) (h := S.o q.as (S.o q.as (S.e k (Ev.ret (Ev.p2 ?_))))))); rw [szV, szE, if_pos ‹_›, if_pos ‹_›]
theorem sized2_fun (d : Int) (g : FuncId) (c0 : List AV) (c1 : List AV) (v : Int) (hg : d ∈ sizes → Fun Tryz.prog g [.sadr c0 0, .sadr c1 0] (Ret (iL v) [])) :
    Fun Tryz.prog 67 [iL d, .fn (.func g) [] [.sadr c0 0, .sadr c1 0]] (Ret (.tup [iL (szV d v), iL (szE d)]) []) := by
  refine Fun.of (nt := 11) (rs := [.tmp 4, .tmp 5]) Tryz.func67 rfl rfl rfl rfl rfl (Ev.sr fun _ k=>S.o q.as (S.o q.as (S.e k (Ev.seq (Ev.sr fun _ k=>S.o q.mv (S.c0 (hF := size_fun _) (h := S.o q.not (S.e k (Ev.cn (fun c1 => ?_) (fun c1 => ?_))))))))))
  · refine Ev.sr fun _ k=>S.o q.as (S.o q.as (S.e k (Ev.ret (Ev.p2 ?_)))); rw [szV, szE, if_neg ‹_›, if_neg ‹_›]
  refine Ev.skip (Ev.sr fun _ k=>S.o q.mv (S.c0 (hF := hg ‹_›) (h := S.o q.as (S.o q.as (S.e k (Ev.ret (Ev.p2 ?_))))))); rw [szV, szE, if_pos ‹_›, if_pos ‹_›]
structure Bar where
  mark : List UInt8
  size : Int
  count : Int
  code : Int
  dims : List Int
def Bar.c : Bar → List AV
  | ⟨m, s, n, k, d⟩ => [sL m, iL s, iL n, iL k, .sh 1 (d.map intC)]
def legC : Int × Int → List AV
  | (a, b) => [iL a, .lit (.int .u8 b)]
def legsL (k : Int) : List (Int × Int) :=
  if k = 0 then [(0, 120)] else if k = 11 then [(0, 120), (1, 121)] else if k = 21 then [(0, 89), (1, 120), (2, 121)] else if k = 26 then [(0, 120), (1, 121), (2, 120)]
  else if k = 31 then [(0, 120), (1, 121), (2, 122)] else if k = 41 then [(0, 120), (1, 121), (2, 120), (3, 89), (4, 120)] else if k = 51 then [(2, 89), (0, 120), (1, 121), (0, 88), (1, 89), (2, 120)]
  else if k = 98 then [(0, 122), (1, 89), (2, 120), (1, 121), (0, 122)] else []
def dimsN (k : Int) : Int := if k = 0 then 1 else if k = 11 then 2 else if k = 21 then 3 else if k = 26 then 3 else if k = 31 then 3 else if k = 51 then 3 else if k = 98 then 3 else if k = 41 then 5 else 0
def dimsM (k : Int) : Int := (legsL k).foldl (fun m s => max m s.1) (-1)
theorem codes (k : Int) : k = 0 ∨ k = 11 ∨ k = 21 ∨ k = 26 ∨ k = 31 ∨ k = 41 ∨ k = 51 ∨ k = 98 ∨ (k ≠ 0 ∧ k ≠ 11 ∧ k ≠ 21 ∧ k ≠ 26 ∧ k ≠ 31 ∧ k ≠ 41 ∧ k ≠ 51 ∧ k ≠ 98) := by omega
theorem legsL_none {k : Int} (h : k ≠ 0 ∧ k ≠ 11 ∧ k ≠ 21 ∧ k ≠ 26 ∧ k ≠ 31 ∧ k ≠ 41 ∧ k ≠ 51 ∧ k ≠ 98) : legsL k = [] ∧ dimsN k = 0 := by
  obtain ⟨h1, h2, h3, h4, h5, h6, h7, h8⟩ := h
  constructor
  · rw [legsL, if_neg h1, if_neg h2, if_neg h3, if_neg h4, if_neg h5, if_neg h6, if_neg h7, if_neg h8]
  rw [dimsN, if_neg h1, if_neg h2, if_neg h3, if_neg h4, if_neg h5, if_neg h7, if_neg h8, if_neg h6]
theorem dims_eq (k : Int) : dimsM k = dimsN k - 1 ∧ 0 ≤ dimsN k ∧ dimsN k ≤ 5 ∧ (legsL k).length ≤ 6 := by
  rcases codes k with rfl | rfl | rfl | rfl | rfl | rfl | rfl | rfl | h
  iterate 8 decide
  obtain ⟨h1, h2⟩ := legsL_none h; rw [dimsM, h1, h2]
  decide
theorem leg_bd (k : Int) : ∀ s ∈ legsL k, 0 ≤ s.1 ∧ s.1 < dimsN k := by
  rcases codes k with rfl | rfl | rfl | rfl | rfl | rfl | rfl | rfl | h
  iterate 8 decide
  rw [(legsL_none h).1]; intro s hs; cases hs
theorem legs_fun (k : Int) : Fun Tryz.prog 104 [iL k] (Ret (.sh 2 ((legsL k).map legC)) []) := by
  refine Fun.of (nt := 56) (rs := [.tmp 2]) Tryz.func104 rfl rfl rfl rfl rfl (Ev.sr fun _ z=>S.o q.as (S.e z (Ev.seq (Ev.sr fun _ z=>S.o q.mv (S.e z (Ev.block (Ev.sr fun _ z=>S.o q.eql (S.o q.as (S.e z (Ev.cd (fun c1 => ?_) (fun c1 => ?_)))))))))))
  · refine Ev.sr fun _ z=>S.o (q.bd _ am_ze166 am_pl166) (S.nn (q.bs [[_, _]] true am_el163 am_ze166 am_cl166) (S.o q.as (S.e z (Ev.weaken (Wk.frzl (f := legC) [(⟨_, _⟩ : Int × Int)] 2 []) (Ev.ret (Ev.p1 ?_))))))
    (obtain rfl : k = 0 := by assumption
     rfl)
  refine Ev.sr fun _ z=>S.o q.eql (S.o q.as (S.e z (Ev.cd (fun c2 => ?_) (fun c2 => ?_))))
  · refine Ev.sr fun _ z=>S.o (q.bd _ am_ze166 am_pl166) (S.o (q.bd _ am_ze166 am_pl166) (S.nn (q.bs [[_, _], [_, _]] true am_el163 am_ze166 am_cl166) (S.o q.as (S.e z (Ev.weaken (Wk.frzl (f := legC) [(⟨_, _⟩ : Int × Int), (⟨_, _⟩ : Int × Int)] 2 []) (Ev.ret (Ev.p1 ?_))))))); subst k; rfl
  refine Ev.sr fun _ z=>S.o q.eql (S.o q.as (S.e z (Ev.cd (fun c3 => ?_) (fun c3 => ?_))))
  · refine Ev.sr fun _ z=>S.o (q.bd _ am_ze166 am_pl166) (S.o (q.bd _ am_ze166 am_pl166) (S.o (q.bd _ am_ze166 am_pl166) (S.nn (q.bs [[_, _], [_, _], [_, _]] true am_el163 am_ze166 am_cl166) (S.o q.as (S.e z (Ev.weaken (Wk.frzl (f := legC) [(⟨_, _⟩ : Int × Int), (⟨_, _⟩ : Int × Int), (⟨_, _⟩ : Int × Int)] 2 []) (Ev.ret (Ev.p1 ?_)))))))); subst k; rfl
  refine Ev.sr fun _ z=>S.o q.eql (S.o q.as (S.e z (Ev.cd (fun c4 => ?_) (fun c4 => ?_))))
  · refine Ev.sr fun _ z=>S.o (q.bd _ am_ze166 am_pl166) (S.o (q.bd _ am_ze166 am_pl166) (S.o (q.bd _ am_ze166 am_pl166) (S.nn (q.bs [[_, _], [_, _], [_, _]] true am_el163 am_ze166 am_cl166) (S.o q.as (S.e z (Ev.weaken (Wk.frzl (f := legC) [(⟨_, _⟩ : Int × Int), (⟨_, _⟩ : Int × Int), (⟨_, _⟩ : Int × Int)] 2 []) (Ev.ret (Ev.p1 ?_)))))))); subst k; rfl
  refine Ev.sr fun _ z=>S.o q.eql (S.o q.as (S.e z (Ev.cd (fun c5 => ?_) (fun c5 => ?_))))
  · refine Ev.sr fun _ z=>S.o (q.bd _ am_ze166 am_pl166) (S.o (q.bd _ am_ze166 am_pl166) (S.o (q.bd _ am_ze166 am_pl166) (S.nn (q.bs [[_, _], [_, _], [_, _]] true am_el163 am_ze166 am_cl166) (S.o q.as (S.e z (Ev.weaken (Wk.frzl (f := legC) [(⟨_, _⟩ : Int × Int), (⟨_, _⟩ : Int × Int), (⟨_, _⟩ : Int × Int)] 2 []) (Ev.ret (Ev.p1 ?_)))))))); subst k; rfl
  refine Ev.sr fun _ z=>S.o q.eql (S.o q.as (S.e z (Ev.cd (fun c6 => ?_) (fun c6 => ?_))))
  · refine Ev.sr fun _ z=>S.o (q.bd _ am_ze166 am_pl166) (S.o (q.bd _ am_ze166 am_pl166) (S.o (q.bd _ am_ze166 am_pl166) (S.o (q.bd _ am_ze166 am_pl166) (S.o (q.bd _ am_ze166 am_pl166) (S.nn (q.bs [[_, _], [_, _], [_, _], [_, _], [_, _]] true am_el163 am_ze166 am_cl166) (S.o q.as (S.e z (Ev.weaken (Wk.frzl (f := legC) [(⟨_, _⟩ : Int × Int), (⟨_, _⟩ : Int × Int), (⟨_, _⟩ : Int × Int), (⟨_, _⟩ : Int × Int), (⟨_, _⟩ : Int × Int)] 2 []) (Ev.ret (Ev.p1 ?_)))))))))); subst k; rfl
  refine Ev.sr fun _ z=>S.o q.eql (S.o q.as (S.e z (Ev.cd (fun c7 => ?_) (fun c7 => ?_))))
  · refine Ev.sr fun _ z=>S.o (q.bd _ am_ze166 am_pl166) (S.o (q.bd _ am_ze166 am_pl166) (S.o (q.bd _ am_ze166 am_pl166) (S.o (q.bd _ am_ze166 am_pl166) (S.o (q.bd _ am_ze166 am_pl166) (S.o (q.bd _ am_ze166 am_pl166) (S.nn (q.bs [[_, _], [_, _], [_, _], [_, _], [_, _], [_, _]] true am_el163 am_ze166 am_cl166) (S.o q.as (S.e z (Ev.weaken (Wk.frzl (f := legC) [(⟨_, _⟩ : Int × Int), (⟨_, _⟩ : Int × Int), (⟨_, _⟩ : Int × Int), (⟨_, _⟩ : Int × Int), (⟨_, _⟩ : Int × Int), (⟨_, _⟩ : Int × Int)] 2 []) (Ev.ret (Ev.p1 ?_))))))))))); subst k; rfl
  refine Ev.sr fun _ z=>S.o q.eql (S.o q.as (S.e z (Ev.cd (fun c8 => ?_) (fun c8 => ?_))))
  · refine Ev.sr fun _ z=>S.o (q.bd _ am_ze166 am_pl166) (S.o (q.bd _ am_ze166 am_pl166) (S.o (q.bd _ am_ze166 am_pl166) (S.o (q.bd _ am_ze166 am_pl166) (S.o (q.bd _ am_ze166 am_pl166) (S.nn (q.bs [[_, _], [_, _], [_, _], [_, _], [_, _]] true am_el163 am_ze166 am_cl166) (S.o q.as (S.e z (Ev.weaken (Wk.frzl (f := legC) [(⟨_, _⟩ : Int × Int), (⟨_, _⟩ : Int × Int), (⟨_, _⟩ : Int × Int), (⟨_, _⟩ : Int × Int), (⟨_, _⟩ : Int × Int)] 2 []) (Ev.ret (Ev.p1 ?_)))))))))); subst k; rfl
  refine Ev.skip (Ev.sr fun _ z=>S.o q.as (S.e z (Ev.weaken (Wk.nsh legC 2 2) (Ev.ret (Ev.p1 ?_)))))
  rw [(legsL_none ⟨‹_›, ‹_›, ‹_›, ‹_›, ‹_›, ‹_›, ‹_›, ‹_›⟩).1] <;> rfl
def dimsV (k : Int) : Int := if dimsN k = 0 then 0 else dimsN k
def dimsE (k : Int) : Int := if dimsN k = 0 then 11 else 0
theorem dims_fun (k : Int) : Fun Tryz.prog 86 [iL k] (Ret (.tup [iL (dimsV k), iL (dimsE k)]) []) := by
  obtain ⟨d1, d2, d3, d4⟩ := dims_eq k; refine Fun.of (nt := 23) (rs := [.tmp 2, .tmp 3]) Tryz.func86 rfl rfl rfl rfl rfl (Ev.sr fun _ z=>S.o q.as (S.o q.as (S.e z (Ev.sr fun _ z=>S.o q.as (S.e z (Ev.seq (Ev.sr fun _ z=>S.o q.mv (S.c0 (hF := legs_fun _) (h := S.o (q.lens am_el163) (S.o q.mv (S.e z (Ev.block (Ev.loopU (ι := {p : List (Int × Int) × List (Int × Int) // p.1 ++ p.2 = (legsL k) ∧ True}) [] [8, 9] (fun ⟨(pre, suf), _⟩ => [(10, iL (pre.length : Int)), (4, iL (pre.foldl (fun m s => max m s.1) (-1)))]) (fun ⟨(pre, suf), _⟩ => []) (fun ⟨(pre, suf), _⟩ => suf.length) ⟨([], (legsL k)), rfl, trivial⟩ (.c (.c .n)) keep_n (slots_c (h := (slots_c))) ?_))))))))))))); rintro ⟨⟨pre, suf⟩, hp, hinv⟩ R0 hR0; dsimp only [cA, nA, lC, lN]
  simp only at hp hinv
  have hpl := lenA hp
  rcases suf with _ | ⟨s, suf⟩
  · rw [List.append_nil] at hp; simp only [lN] at hpl; refine Ev.sr fun _ z=>S.o q.lss (S.e z (Ev.ud (fun c1 => ?_) (fun c1 => ?_)))
    · omega
    refine Ev.exit (hR0 _ _ (Ev.seq ?_))
    have hd : dimsM k = pre.foldl (fun m s => max m s.1) (-1) := by rw [dimsM, hp]
    rw [← hd]; refine Ev.sr fun _ z=>S.o q.mv (S.o q.lss (S.e z (Ev.cd (fun c2 => ?_) (fun c2 => ?_))))
    · refine Ev.sr fun _ z=>S.o q.as (S.o q.as (S.e z (Ev.ret (Ev.p2 ?_)))); rw [dimsV, dimsE, if_pos (by omega), if_pos (by omega)]
    refine Ev.skip (Ev.sr fun _ z=>S.o q.mv (S.o q.add (S.o q.as (S.o q.as (S.e z (Ev.ret (Ev.p2 ?_))))))); rw [dimsV, dimsE, if_neg (by omega), if_neg (by omega), show dimsM k + 1 = dimsN k by omega]
  simp only [lC] at hpl; have hidx := getA hp; refine Ev.sr fun _ z=>S.o q.lss (S.e z (Ev.ud (fun c3 => ?_) (fun c3 => ?_)))
  · refine Ev.seq (Ev.block (Ev.sr fun _ z=>S.o (q.ix am_el163 am_cl166 (hl := (by exact ati hidx (by omega)))) (S.o (q.lsA _ am_ag166 am_cl166) (S.nn (q.al am_ze166) (S.sv _ true [] am_in166 am_cl166 (h := S.e z (Ev.region_S fun _ z=>S.o q.mv (S.o (q.fa 0 am_fi166_0 am_cl3) (S.o (q.lv am_ag3) (S.o q.max (S.o q.as (S.e z ?_)))))))))))); show Ev _ _ _ _; refine Ev.region_S fun _ z=>S.o q.add (S.o q.mv (S.e z (hR0 _ _ (roundU [] [8, 9] ⟨(pre ++ [s], suf), sucA hp, trivial⟩ muL keep_n (slots_c (he := (by congr 2; simp)) (h := (slots_c (he := (by congr 2 <;> simp [List.foldl_append]))))) (.c (.c .n))))))
  omega
def sumI (l : List Int) : Int := l.foldl (· + ·) 0
theorem sumI_go : ∀ (l : List Int) (a : Int), l.foldl (· + ·) a = a + sumI l
  | [], a => by simp [sumI]
  | x :: l, a => by
    rw [sumI, List.foldl_cons, List.foldl_cons, sumI_go l, sumI_go l (0 + x)]; omega
theorem sumI_app (a b : List Int) : sumI (a ++ b) = sumI a + sumI b := by rw [sumI, List.foldl_append, sumI_go]; rfl
theorem sumI_cons (x : Int) (l : List Int) : sumI (x :: l) = x + sumI l := by rw [sumI, List.foldl_cons, sumI_go]; omega
theorem sumI_nn : ∀ l : List Int, (∀ n ∈ l, 1 ≤ n) → 0 ≤ sumI l
  | [], _ => Int.le_refl _
  | x :: l, h => by
    have := h x (by simp); have := sumI_nn l (fun n hn => h n (by simp [hn])); rw [sumI_cons]; omega
def dimsOK (l : List Int) : Prop := (∀ n ∈ l, 1 ≤ n) ∧ sumI l ≤ 262144
instance (l) : Decidable (dimsOK l) := by unfold dimsOK; infer_instance
theorem dims_cut {pre suf l : List Int} {s : Int} (hp : pre ++ s :: suf = l) (h : dimsOK l) : 1 ≤ s ∧ s ≤ 262144 - sumI pre ∧ sumI pre + s + sumI suf ≤ 262144 ∧ 0 ≤ sumI suf ∧ 0 ≤ sumI pre := by
  obtain ⟨h1, h2⟩ := h; rw [← hp, sumI_app, sumI_cons] at h2; have := sumI_nn suf (fun n hn => h1 n (by rw [← hp]; simp [hn])); have := sumI_nn pre (fun n hn => h1 n (by rw [← hp]; simp [hn])); have := h1 s (by rw [← hp]; simp); omega
theorem dims_in {l : List Int} (h : dimsOK l) {n : Int} (hn : n ∈ l) : 1 ≤ n ∧ n ≤ 262144 := by
  obtain ⟨a, b, rfl⟩ := List.append_of_mem hn; have := dims_cut rfl h; omega
def okBar (b : Bar) : Prop := IsName b.mark ∧ b.size ∈ sizes ∧ 1 ≤ b.count ∧ b.count ≤ 1000 ∧ dimsN b.code ≠ 0 ∧ (b.dims.length : Int) = dimsN b.code ∧ dimsOK b.dims
instance (b) : Decidable (okBar b) := by unfold okBar; infer_instance
def Bar.w (b : Bar) : Prop := b.mark.length ≤ 140737488355328 ∧ b.dims.length ≤ 140737488355328
theorem dimsE_iff {k : Int} : dimsE k = 0 ↔ dimsN k ≠ 0 := by
  unfold dimsE
  split <;> simp [*]
theorem valid_fun (b : Bar) (hw : b.w) : Fun Tryz.prog 62 [.agg b.c] (Ret (bL (decide (okBar b))) []) := by
  obtain ⟨hw1, hw2⟩ := hw; have he := @dimsE_iff b.code; have hv : dimsE b.code = 0 → dimsV b.code = dimsN b.code := fun h => if_neg (he.1 h)
  have hok : okBar b ↔ IsName b.mark ∧ b.size ∈ sizes ∧ 1 ≤ b.count ∧ b.count ≤ 1000 ∧ dimsE b.code = 0 ∧ (b.dims.length : Int) = dimsV b.code ∧ dimsOK b.dims := by
    unfold okBar
    constructor
    · rintro ⟨h1, h2, h3, h4, h5, h6, h7⟩; have h8 := he.2 h5; exact ⟨h1, h2, h3, h4, h8, by rw [hv h8]; exact h6, h7⟩
    rintro ⟨h1, h2, h3, h4, h5, h6, h7⟩; exact ⟨h1, h2, h3, h4, he.1 h5, by rw [← hv h5]; exact h6, h7⟩
  refine Fun.of (nt := 63) (rs := [.tmp 2]) Tryz.func62 rfl rfl rfl rfl rfl (Ev.sr fun _ z=>S.nn (q.bx _ true) (S.o q.as (S.e z (Ev.sr fun _ z=>S.o (q.fa 3 am_fi58_3 am_cl3) (S.o (q.lv am_ag3) (S.c0 (hF := dims_fun _) (h := S.o q.mv (S.o q.ex (S.o q.ex (S.o q.as (S.o q.as (S.e z (Ev.seq (Ev.sr fun _ z=>S.o q.mv (S.o q.neq (S.bn q.mv (fun c1 => ?_) (fun c1 => ?_)))))))))))))))))
  · refine S.s2 (S.s2 (S.o q.pt (S.o q.mv (S.s2 (S.s2 (S.o q.pt (S.o q.mv (S.s2 (S.sk (S.o q.pt (S.o q.mv (S.s2 (S.sk (S.o q.pt (S.o q.mv (S.s2 (S.s2 (S.sk (S.o q.pt (S.e z (Ev.ct (Ev.sr fun _ z=>S.o q.as (S.e z (Ev.ret (Ev.p1 ?_))))))))))))))))))))))))); exact bF (fun h => by have h1 := (hok.1 h).2.2.1; have h2 := (hok.1 h).2.2.2.1; have h3 := (hok.1 h).2.2.2.2.1; have h4 := (hok.1 h).2.2.2.2.2.1; omega)
  refine S.o (q.fa 0 am_fi58_0 am_cl9) (S.o (q.lv am_ag9) (S.c0 (hF := isName_fun _ (by omega)) (h := S.o q.not (S.o q.pf (S.bn q.mv (fun c2 => ?_) (fun c2 => ?_))))))
  · refine S.s2 (S.s2 (S.o q.pt (S.o q.mv (S.s2 (S.sk (S.o q.pt (S.o q.mv (S.s2 (S.sk (S.o q.pt (S.o q.mv (S.s2 (S.s2 (S.sk (S.o q.pt (S.e z (Ev.ct (Ev.sr fun _ z=>S.o q.as (S.e z (Ev.ret (Ev.p1 ?_))))))))))))))))))))); exact bF (fun h => absurd (hok.1 h).1 ‹_›)
  refine S.o (q.fa 1 am_fi58_1 am_cl3) (S.o (q.lv am_ag3) (S.c0 (hF := size_fun _) (h := S.o q.not (S.o q.pf (S.bn q.mv (fun c3 => ?_) (fun c3 => ?_))))))
  · refine S.s2 (S.sk (S.o q.pt (S.o q.mv (S.s2 (S.sk (S.o q.pt (S.o q.mv (S.s2 (S.s2 (S.sk (S.o q.pt (S.e z (Ev.ct (Ev.sr fun _ z=>S.o q.as (S.e z (Ev.ret (Ev.p1 ?_))))))))))))))))); exact bF (fun h => absurd (hok.1 h).2.1 ‹_›)
  refine S.o (q.fa 2 am_fi58_2 am_cl3) (S.o (q.lv am_ag3) (S.o q.lss (S.o q.pf (S.bd q.mv (fun c4 => ?_) (fun c4 => ?_)))))
  · refine S.s2 (S.sk (S.o q.pt (S.o q.mv (S.s2 (S.s2 (S.sk (S.o q.pt (S.e z (Ev.ct (Ev.sr fun _ z=>S.o q.as (S.e z (Ev.ret (Ev.p1 ?_))))))))))))); exact bF (fun h => by have h1 := (hok.1 h).2.2.1; have h2 := (hok.1 h).2.2.2.1; have h3 := (hok.1 h).2.2.2.2.1; have h4 := (hok.1 h).2.2.2.2.2.1; omega)
  refine S.o (q.fa 2 am_fi58_2 am_cl3) (S.o (q.lv am_ag3) (S.o q.gtr (S.o q.pf (S.bd q.mv (fun c5 => ?_) (fun c5 => ?_)))))
  · refine S.s2 (S.s2 (S.sk (S.o q.pt (S.e z (Ev.ct (Ev.sr fun _ z=>S.o q.as (S.e z (Ev.ret (Ev.p1 ?_))))))))); exact bF (fun h => by have h1 := (hok.1 h).2.2.1; have h2 := (hok.1 h).2.2.2.1; have h3 := (hok.1 h).2.2.2.2.1; have h4 := (hok.1 h).2.2.2.2.2.1; omega)
  refine S.o (q.fa 4 am_fi58_4 am_cl56) (S.o (q.lv am_ag56) (S.o (q.lens am_el56) (S.o q.mv (S.o q.neq (S.o q.pf (S.e z (Ev.cn (fun c6 => ?_) (fun c6 => ?_))))))))
  · refine Ev.sr fun _ z=>S.o q.as (S.e z (Ev.ret (Ev.p1 ?_))); exact bF (fun h => by have h1 := (hok.1 h).2.2.1; have h2 := (hok.1 h).2.2.2.1; have h3 := (hok.1 h).2.2.2.2.1; have h4 := (hok.1 h).2.2.2.2.2.1; omega)
  refine Ev.skip (Ev.sr fun _ z=>S.o q.as (S.e z (Ev.seq (Ev.sr fun _ z=>S.o (q.fa 4 am_fi58_4 am_cl56) (S.o (q.lv am_ag56) (S.o (q.lens am_el56) (S.o q.mv (S.e z (Ev.block (Ev.loopU (ι := {q : List Int × List Int // q.1 ++ q.2 = b.dims ∧ dimsOK q.1}) [] [46, 47] (fun ⟨(pre, suf), _⟩ => [(48, iL (pre.length : Int)), (5, iL (262144 - sumI pre))]) (fun ⟨(pre, suf), _⟩ => []) (fun ⟨(pre, suf), _⟩ => suf.length) ⟨([], b.dims), rfl, (show dimsOK [] by decide)⟩ (.c (.c .n)) keep_n (slots_c (h := (slots_c))) ?_)))))))))); rintro ⟨⟨pre, suf⟩, hp, hinv⟩ R0 hR0; dsimp only [cA, nA, lC, lN]
  simp only at hp hinv
  have hpl := lenA hp
  rcases suf with _ | ⟨s, suf⟩
  · rw [List.append_nil] at hp; simp only [lN] at hpl; refine Ev.sr fun _ z=>S.o q.lss (S.e z (Ev.ud (fun c7 => ?_) (fun c7 => ?_)))
    · omega
    refine Ev.exit (hR0 _ _ (Ev.sr fun _ z=>S.o q.as (S.e z (Ev.ret (Ev.p1 ?_))))); exact bT (hok.2 ⟨‹_›, ‹_›, by omega, by omega, by omega, by omega, by rw [← hp]; exact hinv⟩)
  simp only [lC] at hpl; have hidx := getA hp; have hnn := sumI_nn pre hinv.1; have hle := hinv.2; refine Ev.sr fun _ z=>S.o q.lss (S.e z (Ev.ud (fun c10 => ?_) (fun c10 => ?_)))
  · refine Ev.seq (Ev.block (Ev.sr fun _ z=>S.o (q.ix am_el56 am_cl3 (hl := (by exact ati hidx (by omega)))) (S.o (q.ls am_ag3) (S.o q.as (S.e z (Ev.seq (Ev.sr fun _ z=>S.o q.mv (S.o q.lss (S.bd q.mv (fun c11 => ?_) (fun c11 => ?_))))))))))
    · refine S.s2 (S.sk (S.o q.pt (S.e z (Ev.ct (Ev.sr fun _ z=>S.o q.as (S.e z (Ev.ret (hR0 _ _ (Ev.p1 ?_))))))))); exact bF (fun h => by have h1 := dims_cut hp (hok.1 h).2.2.2.2.2.2; omega)
    refine S.o q.mv (S.o q.mv (S.o q.gtr (S.o q.pf (S.e z (Ev.cd (fun c12 => ?_) (fun c12 => ?_))))))
    · refine Ev.sr fun _ z=>S.o q.as (S.e z (Ev.ret (hR0 _ _ (Ev.p1 ?_)))); exact bF (fun h => by have h1 := dims_cut hp (hok.1 h).2.2.2.2.2.2; omega)
    refine Ev.skip (Ev.region_S fun _ z=>S.o q.mv (S.o q.mv (S.o q.sub (S.o q.as (S.e z ?_))))); show Ev _ _ _ _; refine Ev.region_S fun _ z=>S.o q.add (S.o q.mv (S.e z (hR0 _ _ (roundU [] [46, 47] ⟨(pre ++ [s], suf), sucA hp, ?_⟩ muL keep_n (slots_c (he := (by congr 2; simp)) (h := (slots_c (he := (by congr 2; rw [sumI_app, show sumI [s] = s by simp [sumI]]; omega))))) (.c (.c .n)))))); refine ⟨fun n hn => ?_, by rw [sumI_app, show sumI [s] = s by simp [sumI]]; omega⟩; simp only [List.mem_append, List.mem_singleton] at hn
    rcases hn with hn | rfl
    · exact hinv.1 n hn
    · omega
  omega
theorem indexFuncBar1 (g : FuncId) (c0 : List AV) (p : Bar → Bool) (hg : ∀ s, Fun Tryz.prog g [.agg (Bar.c s), .sadr c0 0] (Ret (bL (p s)) [])) (l : List (Bar)) (hlen : l.length ≤ 140737488355328) :
    Fun Tryz.prog 42 [.sh 5 (l.map Bar.c), .fn (.func g) [] [.sadr c0 0]] (Ret (iL (idxP p l 0)) []) := by
  refine Fun.of (nt := 19) (rs := [.tmp 4]) Tryz.func42 rfl rfl rfl rfl rfl (Ev.sr fun _ z=>S.o q.as (S.e z (Ev.seq (Ev.sr fun _ z=>S.o q.mv (S.o (q.lens am_el27) (S.o q.mv (S.e z (Ev.block (Ev.loopU (ι := {q : List (Bar) × List (Bar) // q.1 ++ q.2 = l ∧ ∀ x ∈ q.1, p x = false}) [] [0, 1, 7] (fun ⟨(pre, suf), _⟩ => [(8, iL (pre.length : Int))]) (fun ⟨(pre, suf), _⟩ => []) (fun ⟨(pre, suf), _⟩ => suf.length) ⟨([], l), rfl, fun x hx => by simp at hx⟩ (.c (.c (.c .n))) keep_n (slots_c) ?_))))))))); rintro ⟨⟨pre, suf⟩, hp, hinv⟩ R0 hR0; dsimp only [cA, nA, lC, lN]
  simp only at hp hinv
  have hpl := lenA hp
  rcases suf with _ | ⟨s, suf⟩
  · rw [List.append_nil] at hp; subst hp; simp only [List.length_nil] at hpl; refine Ev.sr fun _ z=>S.o q.lss (S.e z (Ev.ud (fun c1 => ?_) (fun c1 => ?_)))
    · omega
    refine Ev.exit (hR0 _ _ (Ev.sr fun _ z=>S.o q.as (S.e z (Ev.ret (Ev.p1 ?_)))))
    congr 2; rw [idxP_none p pre 0 hinv]
  simp only [lC] at hpl; have hidx := getA hp; refine Ev.sr fun _ z=>S.o q.lss (S.e z (Ev.ud (fun c3 => ?_) (fun c3 => ?_)))
  · refine Ev.seq (Ev.block (Ev.sr fun _ z=>S.o q.mv (S.o q.as (S.e z (Ev.sr fun _ z=>S.o q.mv (S.o q.mv (S.o q.mv (S.o (q.ix am_el27 am_cl58 (hl := (by exact ati hidx (by omega)))) (S.o (q.lsA _ am_ag58 am_cl58) (S.c0 (hF := hg s) (h := S.e z (Ev.c (fun c4 => ?_) (fun c4 => ?_)))))))))))))
    · refine Ev.sr fun _ z=>S.o q.mv (S.o q.as (S.e z (Ev.ret (hR0 _ _ (Ev.p1 ?_)))))
      congr 2; rw [← hp, idxP_append p pre _ 0 hinv, idxP, if_pos ‹_›]; omega
    refine Ev.skip (Ev.region_S fun _ z=>S.o q.add (S.o q.mv (S.e z (hR0 _ _ (roundU [] [0, 1, 7] ⟨(pre ++ [s], suf), sucA hp, ?_⟩ muL keep_n (slots_c (he := (by simp))) (.c (.c (.c .n))))))))
    intro x hx; simp only [List.mem_append, List.mem_singleton] at hx; rcases hx with hx | rfl
    · exact hinv x hx
    · assumption
  omega
theorem containsFuncBar1 (g : FuncId) (c0 : List AV) (p : Bar → Bool) (hg : ∀ s, Fun Tryz.prog g [.agg (Bar.c s), .sadr c0 0] (Ret (bL (p s)) [])) (l : List (Bar)) (hlen : l.length ≤ 140737488355328) :
    Fun Tryz.prog 38 [.sh 5 (l.map Bar.c), .fn (.func g) [] [.sadr c0 0]] (Ret (bL (decide (∃ x ∈ l, p x = true))) []) := by
  have hd : (decide (∃ x ∈ l, p x = true)) = decide (0 ≤ idxP p l 0) := by simp only [idxP_nonneg p l 0 (Int.le_refl _)]
  rw [hd]; refine Fun.of (nt := 9) (rs := [.tmp 4]) Tryz.func38 rfl rfl rfl rfl rfl (Ev.sr fun _ z=>S.o q.as (S.e z (Ev.sr fun _ z=>S.o q.mv (S.o q.mv (S.c0 (hF := indexFuncBar1 g c0 p hg l hlen) (h := S.o q.geq (S.o q.as (S.e z (Ev.ret (Ev.p1 ?_)))))))))); rfl
theorem index1_fun (mk : List UInt8) (b : Bar) : Fun Tryz.prog 63 [.agg b.c, .sadr [sL mk] 0] (Ret (bL (decide (b.mark = mk))) []) := by
  refine Fun.of (nt := 8) (rs := [.tmp 3]) Tryz.func63 rfl rfl rfl rfl rfl (Ev.sr fun _ z=>S.nn (q.bx _ true) (S.o q.as (S.e z (Ev.sr fun _ z=>S.o (q.fa 0 am_fi58_0 am_cl9) (S.o (q.lv am_ag9) (S.o (q.ls am_ag9) (S.o q.seqs (S.o q.as (S.e z (Ev.ret (Ev.p1 ?_))))))))))); rfl
def markI (l : List Bar) (mk : List UInt8) : Int := idxP (fun b => decide (b.mark = mk)) l 0
theorem schedIndex_fun (l : List Bar) (mk : List UInt8) (hlen : l.length ≤ 140737488355328) : Fun Tryz.prog 33 [.sh 5 (l.map Bar.c), sL mk] (Ret (iL (markI l mk)) []) := by
  refine Fun.of (nt := 8) (rs := [.tmp 4]) Tryz.func33 rfl rfl rfl rfl rfl (Ev.sr fun _ z=>S.nn (q.bx _ true) (S.o q.as (S.e z (Ev.sr fun _ z=>S.o q.mv (S.o q.mf (S.c0 (hF := indexFuncBar1 _ _ _ (index1_fun mk) l (by omega)) (h := S.o q.as (S.e z (Ev.ret (Ev.p1 ?_)))))))))); rfl
def okSched (l : List Bar) : Prop := l.length ≤ 60 ∧ (∀ b ∈ l, okBar b) ∧ l.Pairwise (fun a b => a.mark ≠ b.mark)
instance (l) : Decidable (okSched l) := by unfold okSched; infer_instance
def schedW (l : List Bar) : Prop := ∀ b ∈ l, b.w
theorem markI_at {pre suf l : List Bar} {s : Bar} (hp : pre ++ s :: suf = l) : markI l s.mark = pre.length ↔ ∀ a ∈ pre, a.mark ≠ s.mark := by
  constructor
  · intro h a ha hm; obtain ⟨p1, p2, rfl⟩ := List.append_of_mem ha
    have hle : markI l s.mark ≤ p1.length := by
      rw [← hp, markI, List.append_assoc]
      have : ∀ (q : List Bar) (k : Int) (r : List Bar), a.mark = s.mark → idxP (fun b : Bar => decide (b.mark = s.mark)) (q ++ a :: r) k ≤ k + q.length := by
        intro q
        induction q with
        | nil => intro k r hm; rw [List.nil_append, idxP, if_pos (by simp [hm])]; simp
        | cons x q ih =>
          intro k r hm; rw [List.cons_append, idxP]
          split
          · simp only [List.length_cons]; omega
          have := ih (k + 1) r hm; simp only [List.length_cons]; omega
      have := this p1 0 (p2 ++ s :: suf) hm
      simpa using this
    rw [h] at hle; simp only [List.length_append, List.length_cons] at hle; omega
  intro h; rw [markI, ← hp, idxP_append _ pre _ 0 (fun a ha => by simp [h a ha]), idxP, if_pos (by simp)]; omega
theorem sched_cut {pre suf l : List Bar} {s : Bar} (hp : pre ++ s :: suf = l) (h : okSched l) : okBar s ∧ markI l s.mark = pre.length := by
  obtain ⟨h1, h2, h3⟩ := h; refine ⟨h2 s (by rw [← hp]; simp), (markI_at hp).2 fun a ha => ?_⟩; rw [← hp, List.pairwise_append] at h3; exact h3.2.2 a ha s (by simp)
theorem sched_snoc {pre suf l : List Bar} {s : Bar} (hp : pre ++ s :: suf = l) (h : (∀ b ∈ pre, okBar b) ∧ pre.Pairwise (fun a b => a.mark ≠ b.mark)) (h1 : okBar s) (h2 : markI l s.mark = pre.length) :
    (∀ b ∈ pre ++ [s], okBar b) ∧ (pre ++ [s]).Pairwise (fun a b => a.mark ≠ b.mark) := by
  refine ⟨fun b hb => ?_, List.pairwise_append.2 ⟨h.2, by simp, fun a ha b hb => ?_⟩⟩
  · rcases List.mem_append.1 hb with hb | hb
    · exact h.1 b hb
    simp at hb; subst hb; exact h1
  simp at hb; subst hb
  exact (markI_at hp).1 h2 a ha
theorem schedValid_fun (l : List Bar) (hlen : l.length ≤ 140737488355328) (hw : schedW l) : Fun Tryz.prog 32 [.sh 5 (l.map Bar.c)] (Ret (bL (decide (okSched l))) []) := by
  refine Fun.of (nt := 27) (rs := [.tmp 2]) Tryz.func32 rfl rfl rfl rfl rfl (Ev.sr fun _ z=>S.o q.as (S.e z (Ev.seq (Ev.sr fun _ z=>S.o q.mv (S.o (q.lens am_el27) (S.o q.gtr (S.e z (Ev.cd (fun c1 => ?_) (fun c1 => ?_)))))))))
  · refine Ev.sr fun _ z=>S.o q.as (S.e z (Ev.ret (Ev.p1 ?_))); exact bF (fun h => by have h1 := h.1; omega)
  refine Ev.skip (Ev.seq (Ev.sr fun _ z=>S.o q.mv (S.o (q.lens am_el27) (S.o q.mv (S.e z (Ev.block (Ev.loopU (ι := {q : List Bar × List Bar // q.1 ++ q.2 = l ∧ (∀ b ∈ q.1, okBar b) ∧ q.1.Pairwise (fun a b => a.mark ≠ b.mark)}) [] [0, 8, 9] (fun ⟨(pre, suf), _⟩ => [(10, iL (pre.length : Int))]) (fun ⟨(pre, suf), _⟩ => []) (fun ⟨(pre, suf), _⟩ => suf.length) ⟨([], l), rfl, ⟨fun b hb => by simp at hb, by simp⟩⟩ (.c (.c (.c .n))) keep_n (slots_c) ?_))))))); rintro ⟨⟨pre, suf⟩, hp, hinv⟩ R0 hR0; dsimp only [cA, nA, lC, lN]
  simp only at hp hinv
  have hpl := lenA hp
  rcases suf with _ | ⟨s, suf⟩
  · rw [List.append_nil] at hp; simp only [lN] at hpl; refine Ev.sr fun _ z=>S.o q.lss (S.e z (Ev.ud (fun c2 => ?_) (fun c2 => ?_)))
    · omega
    refine Ev.exit (hR0 _ _ (Ev.sr fun _ z=>S.o q.as (S.e z (Ev.ret (Ev.p1 ?_))))); exact bT ⟨by omega, by rw [← hp]; exact hinv⟩
  simp only [lC] at hpl; have hidx := getA hp; have hsw : s.w := hw s (by rw [← hp]; simp); refine Ev.sr fun _ z=>S.o q.lss (S.e z (Ev.ud (fun c5 => ?_) (fun c5 => ?_)))
  · refine Ev.seq (Ev.block (Ev.sr fun _ z=>S.o q.mv (S.o (q.ix am_el27 am_cl58 (hl := (by exact ati hidx (by omega)))) (S.o (q.lsA _ am_ag58 am_cl58) (S.nn (q.al am_ze58) (S.o q.as (S.sv _ true [] am_in58 am_cl58 (h := S.e z (Ev.sr fun _ z=>S.o (q.lvA _ am_ag58 am_cl58) (S.c0 (hF := valid_fun _ (by assumption)) (h := S.o q.not (S.bn q.mv (fun c6 => ?_) (fun c6 => ?_)))))))))))))
    · refine S.s2 (S.s2 (S.s2 (S.o q.pt (S.e z (Ev.ct (Ev.sr fun _ z=>S.o q.as (S.e z (Ev.ret (hR0 _ _ (Ev.p1 ?_)))))))))); exact bF (fun h => absurd (sched_cut hp h).1 ‹_›)
    refine S.o q.mv (S.o (q.fa 0 am_fi58_0 am_cl9) (S.o (q.lv am_ag9) (S.c0 (hF := schedIndex_fun _ _ (by omega)) (h := S.o q.mv (S.o q.neq (S.o q.pf (S.e z (Ev.cn (fun c7 => ?_) (fun c7 => ?_)))))))))
    · refine Ev.sr fun _ z=>S.o q.as (S.e z (Ev.ret (hR0 _ _ (Ev.p1 ?_)))); exact bF (fun h => by have h1 := (sched_cut hp h).2; omega)
    refine Ev.skip (Ev.region_S fun _ z=>S.o q.add (S.o q.mv (S.e z (hR0 _ _ (roundU [] [0, 8, 9] ⟨(pre ++ [s], suf), sucA hp, ?_⟩ muL keep_n (slots_c (he := (by simp))) (.c (.c (.c .n)))))))); exact sched_snoc hp hinv ‹_› (by omega)
  omega
theorem szE_zero {d : Int} (h : szE d = 0) : d ∈ sizes := by
  by_cases hd : d ∈ sizes
  · exact hd
  rw [szE, if_neg hd] at h; cases h
theorem szV_in {d v : Int} (h : d ∈ sizes) : szV d v = v := if_pos h
theorem szE_in {d : Int} (h : d ∈ sizes) : szE d = 0 := if_pos h
theorem szV_out {d v : Int} (h : ¬ szE d = 0) : szV d v = 0 := if_neg (fun h' => h (szE_in h'))
theorem szE_out {d : Int} (h : ¬ szE d = 0) : szE d = 1 := if_neg (fun h' => h (szE_in h'))
def massOf (d n : Int) : Int := (6165 * d * d * n + 500000) / 1000000
theorem mass_pre {d n : Int} (h : d ∈ sizes) (h0 : 0 ≤ n) (h1 : n ≤ 1048576) : 0 ≤ 6165 * d ∧ 6165 * d ≤ 246600 ∧ 0 ≤ 6165 * d * d ∧ 6165 * d * d ≤ 9864000 ∧ 0 ≤ 6165 * d * d * n ∧ 6165 * d * d * n ≤ 9864000 * 1048576 := by
  simp only [sizes, List.mem_cons, List.not_mem_nil, or_false] at h
  rcases h with h | h | h | h | h | h | h | h | h <;> subst h <;> omega
theorem massOf_bd {d n : Int} (h : d ∈ sizes) (h0 : 0 ≤ n) (h1 : n ≤ 1048576) : 0 ≤ massOf d n ∧ massOf d n ≤ 10343154 := by
  have := mass_pre h h0 h1
  unfold massOf
  omega
theorem mass1_fun (d n : Int) (h : d ∈ sizes) (h0 : 0 ≤ n) (h1 : n ≤ 1048576) : Fun Tryz.prog 68 [.sadr [iL d] 0, .sadr [iL n] 0] (Ret (iL (massOf d n)) []) := by
  obtain ⟨m1, m2, m3, m4, m5, m6⟩ := mass_pre h h0 h1; refine Fun.of (nt := 11) (rs := [.tmp 2]) Tryz.func68 rfl rfl rfl rfl rfl (Ev.sr fun _ z=>S.o q.as (S.e z (Ev.sr fun _ z=>S.o (q.ls am_ag3) (S.o q.mul (S.o (q.ls am_ag3) (S.o q.mul (S.o (q.ls am_ag3) (S.o q.mul (S.o q.add (S.o q.quo (S.o q.as (S.e z (Ev.ret (Ev.ret1 (⟨?_, rfl⟩))))))))))))))); rfl
theorem Mass_fun (d n : Int) (h0 : 0 ≤ n) (h1 : n ≤ 1048576) : Fun Tryz.prog 35 [iL d, iL n] (Ret (.tup [iL (szV d (massOf d n)), iL (szE d)]) []) := by
  refine Fun.of (nt := 21) (rs := [.tmp 4, .tmp 5]) Tryz.func35 rfl rfl rfl rfl rfl (Ev.sr fun _ z=>S.nn (q.bx _ true) (S.nn (q.bx _ true) (S.o q.as (S.o q.as (S.e z (Ev.seq (Ev.sr fun _ z=>S.o (q.lv am_ag3) (S.c0 (hF := size_fun _) (h := S.bd q.mv (fun c1 => ?_) (fun c1 => ?_))))))))))
  · refine S.o (q.lv am_ag3) (S.o q.lss (S.bd q.mv (fun c2 => ?_) (fun c2 => ?_)))
    · omega
    refine S.o (q.lv am_ag3) (S.o q.gtr (S.o q.pf (S.o q.pt (S.e z (Ev.cd (fun c3 => ?_) (fun c3 => ?_))))))
    · omega
    refine Ev.skip ?_; show Ev _ _ _ _; refine Ev.sr fun _ z=>S.o (q.lv am_ag3) (S.o q.mf (S.c0 (hF := sized2_fun _ _ _ _ _ (fun h => mass1_fun _ _ h (by omega) (by omega))) (h := S.o q.ex (S.o q.ex (S.o q.as (S.o q.as (S.e z (Ev.ret (Ev.ret2 (⟨?_, rfl⟩)))))))))); rfl
  refine S.s2 (S.s2 (S.s2 (S.o q.pf (S.e z (Ev.cf (Ev.skip ?_)))))); show Ev _ _ _ _; refine Ev.sr fun _ z=>S.o (q.lv am_ag3) (S.o q.mf (S.c0 (hF := sized2_fun _ _ _ _ _ (fun h => mass1_fun _ _ h (by omega) (by omega))) (h := S.o q.ex (S.o q.ex (S.o q.as (S.o q.as (S.e z (Ev.ret (Ev.ret2 (⟨?_, rfl⟩)))))))))); rfl
def bendR (d : Int) : Int := if d ≤ 16 then 5 * d / 2 else 4 * d
def arcLo (d : Int) : Int := 500 * bendR d * 333 / 106
def arcHi (d : Int) : Int := (500 * bendR d * 355 + 113 - 1) / 113
def allLo (d : Int) : Int := 2000 * bendR d - arcHi d
def allHi (d : Int) : Int := 2000 * bendR d - arcLo d
theorem bend_bd {d : Int} (h : d ∈ sizes) : 15 ≤ bendR d ∧ bendR d ≤ 160 ∧ 0 ≤ arcLo d ∧ arcLo d ≤ 300000 ∧ 0 ≤ arcHi d ∧ arcHi d ≤ 300000 ∧ 0 ≤ allLo d ∧ allLo d ≤ 70000 ∧ 0 ≤ allHi d ∧ allHi d ≤ 70000 := by
  simp only [sizes, List.mem_cons, List.not_mem_nil, or_false] at h
  rcases h with h | h | h | h | h | h | h | h | h <;> subst h <;> decide
theorem bend1_fun (d : Int) (h : d ∈ sizes) : Fun Tryz.prog 133 [.sadr [iL d] 0] (Ret (iL (bendR d)) []) := by
  obtain ⟨h0, h1⟩ := size_bd h; refine Fun.of (nt := 9) (rs := [.tmp 1]) Tryz.func133 rfl rfl rfl rfl rfl (Ev.sr fun _ z=>S.o q.as (S.e z (Ev.seq (Ev.sr fun _ z=>S.o (q.ls am_ag3) (S.o q.leq (S.e z (Ev.cd (fun c1 => ?_) (fun c1 => ?_))))))))
  · refine Ev.sr fun _ z=>S.o (q.ls am_ag3) (S.o q.mul (S.o q.quo (S.o q.as (S.e z (Ev.ret (Ev.ret1 (⟨?_, rfl⟩))))))); rw [bendR, if_pos ‹_›]
  refine Ev.skip ?_; show Ev _ _ _ _; refine Ev.sr fun _ z=>S.o (q.ls am_ag3) (S.o q.mul (S.o q.as (S.e z (Ev.ret (Ev.ret1 (⟨?_, rfl⟩)))))); rw [bendR, if_neg ‹_›]
theorem Bend_fun (d : Int) : Fun Tryz.prog 108 [iL d] (Ret (.tup [iL (szV d (bendR d)), iL (szE d)]) []) := by
  refine Fun.of (nt := 9) (rs := [.tmp 2, .tmp 3]) Tryz.func108 rfl rfl rfl rfl rfl (Ev.sr fun _ z=>S.nn (q.bx _ true) (S.o q.as (S.o q.as (S.e z (Ev.sr fun _ z=>S.o (q.lv am_ag3) (S.o q.mf (S.c0 (hF := sized1_fun _ _ _ _ (bend1_fun _)) (h := S.o q.ex (S.o q.ex (S.o q.as (S.o q.as (S.e z (Ev.ret (Ev.ret2 (⟨?_, rfl⟩))))))))))))))); rfl
theorem up_fun (n d : Int) (h0 : 0 ≤ n) (h1 : n ≤ 1000000000000) (h2 : 1 ≤ d) (h3 : d ≤ 1000000) : Fun Tryz.prog 65 [iL n, iL d] (Ret (iL ((n + d - 1) / d)) []) := by
  refine Fun.of (nt := 11) (rs := [.tmp 4]) Tryz.func65 rfl rfl rfl rfl rfl (Ev.sr fun _ z=>S.o q.as (S.e z (Ev.sr fun _ z=>S.o q.mv (S.o q.mv (S.o q.add (S.o q.sub (S.o q.mv (S.o q.quo (S.o q.as (S.e z (Ev.ret (Ev.ret1 (⟨?_, rfl⟩))))))))))))); rfl
theorem arc_fun (d : Int) : Fun Tryz.prog 107 [iL d] (Ret (.tup [.agg [iL (szV d (arcLo d)), iL (szV d (arcHi d))], iL (szE d)]) []) := by
  refine Fun.of (nt := 23) (rs := [.cell 2 117, .tmp 3]) Tryz.func107 rfl rfl rfl rfl rfl (Ev.sr fun _ z=>S.nn (q.al am_ze117) (S.o q.as (S.e z (Ev.sr fun _ z=>S.o q.mv (S.c0 (hF := Bend_fun _) (h := S.o q.mv (S.o q.ex (S.o q.ex (S.o q.as (S.o q.as (S.e z (Ev.seq (Ev.sr fun _ z=>S.o q.mv (S.o q.neq (S.e z (Ev.cn (fun c1 => ?_) (fun c1 => ?_)))))))))))))))))
  · refine Ev.sr fun _ z=>S.o (q.bd _ am_ze117 am_pl117) (S.sv _ true [] am_in117 am_cl117 (h := S.o q.as (S.e z (Ev.ret (Ev.retv2 (res_c [_, _] am_ag117 am_cl117 (res_t res_n)) (⟨?_, rfl⟩)))))); rw [szV_out ‹_›, szV_out ‹_›, szE_out ‹_›]
  refine Ev.skip ?_; show Ev _ _ _ _; have hz := szE_zero ‹szE d = 0›; obtain ⟨b1, b2, b3, b4, b5, b6, b7, b8, b9, b10⟩ := bend_bd hz; have e1 := szV_in (v := bendR d) hz; have e2 := szV_in (v := arcLo d) hz; have e3 := szV_in (v := arcHi d) hz; have a1 : arcLo d = 500 * bendR d * 333 / 106 := rfl; have a2 : arcHi d = (500 * bendR d * 355 + 113 - 1) / 113 := rfl; simp only [e1, e2, e3]; refine Ev.sr fun _ z=>S.o q.mv (S.o q.mul (S.o q.mul (S.o q.quo (S.o q.mv (S.o q.mul (S.o q.mul (S.c0 (hF := up_fun _ _ (by omega) (by omega) (by omega) (by omega)) (h := S.o (q.bd _ am_ze117 am_pl117) (S.sv _ true [] am_in117 am_cl117 (h := S.o q.as (S.e z (Ev.ret (Ev.retv2 (res_c [_, _] am_ag117 am_cl117 (res_t res_n)) (⟨?_, rfl⟩)))))))))))))); rw [szE_in hz]; rfl
theorem allowance_fun (d : Int) : Fun Tryz.prog 89 [iL d] (Ret (.tup [.agg [iL (szV d (allLo d)), iL (szV d (allHi d))], iL (szE d)]) []) := by
  refine Fun.of (nt := 35) (rs := [.cell 2 117, .tmp 3]) Tryz.func89 rfl rfl rfl rfl rfl (Ev.sr fun _ z=>S.nn (q.al am_ze117) (S.o q.as (S.e z (Ev.sr fun _ z=>S.o q.mv (S.c0 (hF := arc_fun _) (h := S.o q.mv (S.o q.ex (S.o q.ex (S.nn (q.al am_ze117) (S.sv _ true [_] am_in117 am_cl117 (h := S.o q.as (S.e z (Ev.seq (Ev.sr fun _ z=>S.o q.mv (S.o q.neq (S.e z (Ev.cn (fun c1 => ?_) (fun c1 => ?_))))))))))))))))))
  · refine Ev.sr fun _ z=>S.o (q.bd _ am_ze117 am_pl117) (S.o q.mv (S.sv _ true [_] am_in117 am_cl117 (h := S.o q.as (S.e z (Ev.ret (Ev.retv2 (res_c [_, _] am_ag117 am_cl117 (res_t res_n)) (⟨?_, rfl⟩))))))); rw [szV_out ‹_›, szV_out ‹_›, szE_out ‹_›]
  refine Ev.skip ?_; show Ev _ _ _ _; refine Ev.sr fun _ z=>S.o q.mv (S.c0 (hF := Bend_fun _) (h := S.o q.mv (S.o q.ex (S.o q.ex (S.o q.as (S.o q.as (S.e z (Ev.seq (Ev.sr fun _ z=>S.o q.mv (S.o q.neq (S.e z (Ev.cn (fun c2 => ?_) (fun c2 => ?_)))))))))))))
  · omega
  refine Ev.skip ?_; show Ev _ _ _ _; have hz := szE_zero ‹szE d = 0›; obtain ⟨b1, b2, b3, b4, b5, b6, b7, b8, b9, b10⟩ := bend_bd hz; have e1 := szV_in (v := bendR d) hz; have e2 := szV_in (v := arcLo d) hz; have e3 := szV_in (v := arcHi d) hz; have a1 : arcLo d = 500 * bendR d * 333 / 106 := rfl; have a2 : arcHi d = (500 * bendR d * 355 + 113 - 1) / 113 := rfl; simp only [e1, e2, e3]; refine Ev.sr fun _ z=>S.o q.mv (S.o q.mul (S.o (q.fa 1 am_fi117_1 am_cl3) (S.o (q.lv am_ag3) (S.o q.sub (S.o q.mv (S.o q.mul (S.o (q.fa 0 am_fi117_0 am_cl3) (S.o (q.lv am_ag3) (S.o q.sub (S.o (q.bd _ am_ze117 am_pl117) (S.sv _ true [_] am_in117 am_cl117 (h := S.o q.as (S.e z (Ev.ret (Ev.retv2 (res_c [_, _] am_ag117 am_cl117 (res_t res_n)) (⟨?_, rfl⟩)))))))))))))))); rw [szV_in hz, szV_in hz, szE_in hz]; rfl
def dimAt (b : Bar) (i : Nat) : Int := (b.dims[i]?).getD 0
def legsOf (b : Bar) : List Int := (legsL b.code).map (fun s => dimAt b s.1.toNat)
def okV (b : Bar) (v : Int) : Int := if okBar b then v else 0
def okE (b : Bar) : Int := if okBar b then 0 else 1
def legsV (b : Bar) : List Int := if okBar b then legsOf b else []
theorem okE_zero {b : Bar} (h : okE b = 0) : okBar b := by
  by_cases hd : okBar b
  · exact hd
  rw [okE, if_neg hd] at h; cases h
theorem okV_in {b : Bar} {v : Int} (h : okBar b) : okV b v = v := if_pos h
theorem okE_in {b : Bar} (h : okBar b) : okE b = 0 := if_pos h
theorem okV_out {b : Bar} {v : Int} (h : ¬ okE b = 0) : okV b v = 0 := if_neg (fun h' => h (okE_in h'))
theorem okE_out {b : Bar} (h : ¬ okE b = 0) : okE b = 1 := if_neg (fun h' => h (okE_in h'))
theorem legsOf_len (b : Bar) : (legsOf b).length ≤ 6 := by
  rw [legsOf, List.length_map]; exact (dims_eq b.code).2.2.2
theorem dim_in {b : Bar} (h : okBar b) {i : Nat} (hi : (i : Int) < dimsN b.code) : b.dims[i]? = some (dimAt b i) ∧ 1 ≤ dimAt b i ∧ dimAt b i ≤ 262144 := by
  have hl := h.2.2.2.2.2.1; have e : b.dims[i]? = some (b.dims[i]'(by omega)) := List.getElem?_eq_getElem _
  have e2 : dimAt b i = b.dims[i]'(by omega) := by rw [dimAt, e]; rfl
  refine ⟨by rw [e, e2], ?_⟩; rw [e2]; exact dims_in h.2.2.2.2.2.2 (List.getElem_mem _)
theorem legs_in {b : Bar} (h : okBar b) : ∀ n ∈ legsOf b, 1 ≤ n ∧ n ≤ 262144 := by
  intro n hn; rw [legsOf, List.mem_map] at hn; obtain ⟨s, hs, rfl⟩ := hn; have := leg_bd b.code s hs; exact (dim_in h (i := s.1.toNat) (by omega)).2
theorem legs_pos {b : Bar} (h : okBar b) : 1 ≤ (legsOf b).length := by
  rw [legsOf, List.length_map]; have h1 := h.2.2.2.2.1
  rcases codes b.code with e | e | e | e | e | e | e | e | e
  iterate 8 (rw [e]; decide)
  exact absurd (legsL_none e).2 h1
theorem legs_fun2 (b : Bar) (hw : b.w) : Fun Tryz.prog 88 [.agg b.c] (Ret (.tup [.sh 1 ((legsV b).map intC), iL (okE b)]) []) := by
  obtain ⟨hw1, hw2⟩ := id hw; obtain ⟨d1, d2, d3, d4⟩ := dims_eq b.code; refine Fun.of (nt := 29) (rs := [.tmp 2, .tmp 3]) Tryz.func88 rfl rfl rfl rfl rfl (Ev.sr fun _ z=>S.nn (q.bx _ true) (S.o q.as (S.o q.as (S.e z (Ev.seq (Ev.sr fun _ z=>S.o (q.lvA _ am_ag58 am_cl58) (S.c0 (hF := valid_fun _ (by assumption)) (h := S.o q.not (S.e z (Ev.cn (fun c1 => ?_) (fun c1 => ?_)))))))))))
  · refine Ev.sr fun _ z=>S.o q.as (S.o q.as (S.e z (Ev.weaken (Wk.nsh intC 2 1) (Ev.ret (Ev.ret2 (⟨?_, rfl⟩)))))); rw [legsV, okE, if_neg ‹_›, if_neg ‹_›]
  refine Ev.skip ?_; show Ev _ _ _ _; refine Ev.sr fun _ z=>S.o q.as (S.e z (Ev.seq (Ev.sr fun _ z=>S.o (q.fa 3 am_fi58_3 am_cl3) (S.o (q.lv am_ag3) (S.c0 (hF := legs_fun _) (h := S.o (q.lens am_el163) (S.o q.mv (S.e z (Ev.block (Ev.weaken (Wk.nown intC 4 3 1) (Ev.loopU (ι := {p : List (Int × Int) × List (Int × Int) // p.1 ++ p.2 = (legsL b.code) ∧ True}) [0, 1] [1, 12, 13] (fun ⟨(pre, suf), _⟩ => [(14, iL (pre.length : Int)), (4, .als 1 0 (pre.map (fun s => dimAt b s.1.toNat)).length)]) (fun ⟨(pre, suf), _⟩ => [(0, ⟨false, 58, 5, [[sL (b.mark), iL (b.size), iL (b.count), iL (b.code), .sh 1 ((b.dims).map intC)]], true⟩), (1, ⟨true, 3, 1, (pre.map (fun s => dimAt b s.1.toNat)).map intC, true⟩)]) (fun ⟨(pre, suf), _⟩ => suf.length) ⟨([], (legsL b.code)), rfl, trivial⟩ (.c (.c (.c .n))) (keep_c (h := (keep_c))) (slots_c (h := (slots_c))) ?_))))))))))); rintro ⟨⟨pre, suf⟩, hp, hinv⟩ R0 hR0; dsimp only [cA, nA, lC, lN]
  simp only at hp hinv
  have hpl := lenA hp
  rcases suf with _ | ⟨s, suf⟩
  · rw [List.append_nil] at hp; simp only [lN] at hpl; refine Ev.sr fun _ z=>S.o q.lss (S.e z (Ev.ud (fun c2 => ?_) (fun c2 => ?_)))
    · omega
    refine Ev.exit (hR0 _ _ ?_); show Ev _ _ _ _; refine Ev.sr fun _ z=>S.o q.mv (S.o q.as (S.o q.as (S.e z (Ev.weaken (Wk.frz 2 [_]) (Ev.ret (Ev.ret2 (⟨?_, rfl⟩))))))); rw [legsV, okE, if_pos ‹_›, if_pos ‹_›, legsOf, ← hp]
  simp only [lC] at hpl; have hidx := getA hp; have hlb := leg_bd b.code s (by rw [← hp]; simp); obtain ⟨hdi, hd1, hd2⟩ := dim_in ‹okBar b› (i := s.1.toNat) (by omega); have hml : (pre.map (fun s : Int × Int => dimAt b s.1.toNat)).length = pre.length := List.length_map _; refine Ev.sr fun _ z=>S.o q.lss (S.e z (Ev.ud (fun c3 => ?_) (fun c3 => ?_)))
  · refine Ev.seq (Ev.block (Ev.sr fun _ z=>S.o (q.ix am_el163 am_cl166 (hl := (by exact ati hidx (by omega)))) (S.o (q.lsA _ am_ag166 am_cl166) (S.nn (q.al am_ze166) (S.sv _ true [_, _] am_in166 am_cl166 (h := S.e z (Ev.region_S fun _ z=>S.o q.mv (S.o (q.fa 4 am_fi58_4 am_cl56) (S.o (q.lv am_ag56) (S.o (q.fa 0 am_fi166_0 am_cl3) (S.o (q.lv am_ag3) (S.o (q.ix am_el56 am_cl3 (hl := (by exact ati hdi (by omega)))) (S.o (q.ls am_ag3) (S.nn (q.bs [[_]] true am_el56 am_ze3 am_cl3) (S.ap' [_, _, _] am_el56 am_ze3 am_cl3 am_by3 (hh := head_own') (hr := (rows_lit [_])) (h := S.o q.as (S.e z ?_))))))))))))))))); show Ev _ _ _ _; refine Ev.region_S fun _ z=>S.o q.add (S.o q.mv (S.e z (hR0 _ _ (roundU [0, 4] [1, 12, 13] ⟨(pre ++ [s], suf), sucA hp, trivial⟩ muL (keep_c (h := (keep_c (he := (by simp))))) (slots_c (he := (by congr 2; simp)) (h := (slots_c (he := (by congr 1; simp))))) (.c (.c (.c .n)))))))
  omega
def devLo (b : Bar) : Int := 1000 * sumI (legsOf b) - ((legsOf b).length - 1) * allHi b.size
def devHi (b : Bar) : Int := 1000 * sumI (legsOf b) - ((legsOf b).length - 1) * allLo b.size
theorem sumI_bd : ∀ (l : List Int), (∀ n ∈ l, 1 ≤ n ∧ n ≤ 262144) → 0 ≤ sumI l ∧ sumI l ≤ 262144 * l.length
  | [], _ => by decide
  | x :: l, h => by
    have := h x (by simp); have := sumI_bd l (fun n hn => h n (by simp [hn])); rw [sumI_cons, List.length_cons]; omega
theorem legs_sum {b : Bar} (h : okBar b) : 0 ≤ sumI (legsOf b) ∧ sumI (legsOf b) ≤ 524288 := by
  refine ⟨(sumI_bd _ (legs_in h)).1, ?_⟩; obtain ⟨_, _, _, _, h1, h2, h3, h4⟩ := h
  have hl : b.dims.length = (dimsN b.code).toNat := by omega
  obtain ⟨mk, sz, cn, cd, ds⟩ := b
  simp only at hl h1 h3 h4
  unfold legsOf dimAt
  simp only
  rcases codes cd with e | e | e | e | e | e | e | e | e
  · subst e
    match ds, hl with
    | [x0], _ =>
      have k0 := h3 x0 (by simp); simp only [sumI, List.foldl_cons, List.foldl_nil] at h4
      simp [sumI, legsL]
      omega
  · subst e
    match ds, hl with
    | [x0, x1], _ =>
      have k0 := h3 x0 (by simp); have k1 := h3 x1 (by simp); simp only [sumI, List.foldl_cons, List.foldl_nil] at h4
      simp [sumI, legsL]
      omega
  · subst e
    match ds, hl with
    | [x0, x1, x2], _ =>
      have k0 := h3 x0 (by simp); have k1 := h3 x1 (by simp); have k2 := h3 x2 (by simp); simp only [sumI, List.foldl_cons, List.foldl_nil] at h4
      simp [sumI, legsL]
      omega
  · subst e
    match ds, hl with
    | [x0, x1, x2], _ =>
      have k0 := h3 x0 (by simp); have k1 := h3 x1 (by simp); have k2 := h3 x2 (by simp); simp only [sumI, List.foldl_cons, List.foldl_nil] at h4
      simp [sumI, legsL]
      omega
  · subst e
    match ds, hl with
    | [x0, x1, x2], _ =>
      have k0 := h3 x0 (by simp); have k1 := h3 x1 (by simp); have k2 := h3 x2 (by simp); simp only [sumI, List.foldl_cons, List.foldl_nil] at h4
      simp [sumI, legsL]
      omega
  · subst e
    match ds, hl with
    | [x0, x1, x2, x3, x4], _ =>
      have k0 := h3 x0 (by simp); have k1 := h3 x1 (by simp); have k2 := h3 x2 (by simp); have k3 := h3 x3 (by simp); have k4 := h3 x4 (by simp); simp only [sumI, List.foldl_cons, List.foldl_nil] at h4
      simp [sumI, legsL]
      omega
  · subst e
    match ds, hl with
    | [x0, x1, x2], _ =>
      have k0 := h3 x0 (by simp); have k1 := h3 x1 (by simp); have k2 := h3 x2 (by simp); simp only [sumI, List.foldl_cons, List.foldl_nil] at h4
      simp [sumI, legsL]
      omega
  · subst e
    match ds, hl with
    | [x0, x1, x2], _ =>
      have k0 := h3 x0 (by simp); have k1 := h3 x1 (by simp); have k2 := h3 x2 (by simp); simp only [sumI, List.foldl_cons, List.foldl_nil] at h4
      simp [sumI, legsL]
      omega
  exact absurd (legsL_none e).2 h1
theorem dev_bd {b : Bar} (h : okBar b) : 0 ≤ ((legsOf b).length - 1) * allHi b.size ∧ ((legsOf b).length - 1) * allHi b.size ≤ 5 * 70000 ∧ 0 ≤ ((legsOf b).length - 1) * allLo b.size ∧ ((legsOf b).length - 1) * allLo b.size ≤ 5 * 70000 ∧ -350000 ≤ devHi b ∧ devHi b ≤ 524288000 := by
  have h1 := legs_pos h; have h2 := legsOf_len b; obtain ⟨b1, b2, b3, b4, b5, b6, b7, b8, b9, b10⟩ := bend_bd h.2.1; obtain ⟨p1, p2⟩ := mul_bd (k := ((legsOf b).length : Int) - 1) (K := 5) (a := allHi b.size) (A := 70000) (by omega) (by omega) b9 b10; obtain ⟨p3, p4⟩ := mul_bd (k := ((legsOf b).length : Int) - 1) (K := 5) (a := allLo b.size) (A := 70000) (by omega) (by omega) b7 b8; obtain ⟨s1, s2⟩ := legs_sum h; refine ⟨p1, p2, p3, p4, ?_⟩
  unfold devHi
  omega
theorem developed_fun (b : Bar) (hw : b.w) : Fun Tryz.prog 64 [.agg b.c] (Ret (.tup [.agg [iL (okV b (devLo b)), iL (okV b (devHi b))], iL (okE b)]) []) := by
  have hl := legsOf_len b; refine Fun.of (nt := 57) (rs := [.cell 2 117, .tmp 3]) Tryz.func64 rfl rfl rfl rfl rfl (Ev.sr fun _ z=>S.nn (q.bx _ true) (S.nn (q.al am_ze117) (S.o q.as (S.e z (Ev.sr fun _ z=>S.o (q.lvA _ am_ag58 am_cl58) (S.c0 (hF := legs_fun2 _ (by assumption)) (h := S.o q.mv (S.o q.ex (S.o q.ex (S.o q.as (S.o q.as (S.e z (Ev.seq (Ev.sr fun _ z=>S.o q.mv (S.o q.neq (S.e z (Ev.cn (fun c1 => ?_) (fun c1 => ?_))))))))))))))))))
  · refine Ev.sr fun _ z=>S.o (q.bd _ am_ze117 am_pl117) (S.o q.mv (S.sv _ true [_] am_in117 am_cl117 (h := S.o q.as (S.e z (Ev.ret (Ev.retv2 (res_c [_, _] am_ag117 am_cl117 (res_t res_n)) (⟨?_, rfl⟩))))))); rw [okV_out ‹_›, okV_out ‹_›, okE_out ‹_›]
  refine Ev.skip ?_; show Ev _ _ _ _; have hok := okE_zero ‹okE b = 0›; have hlv : legsV b = legsOf b := if_pos hok; have hz := hok.2.1; obtain ⟨b1, b2, b3, b4, b5, b6, b7, b8, b9, b10⟩ := bend_bd hz; have e1 := szV_in (v := allLo b.size) hz; have e2 := szV_in (v := allHi b.size) hz; have e3 := szE_in hz; obtain ⟨p1, p2, p3, p4, p5, p6⟩ := dev_bd hok; obtain ⟨s1, s2⟩ := legs_sum hok; rw [hlv]; refine Ev.sr fun _ z=>S.o q.as (S.e z (Ev.seq (Ev.sr fun _ z=>S.o q.mv (S.o (q.lens am_el56) (S.o q.mv (S.e z (Ev.block (Ev.loopU (ι := {p : List (Int) × List (Int) // p.1 ++ p.2 = (legsOf b) ∧ True}) [0, 1] [1, 2, 4, 20, 21] (fun ⟨(pre, suf), _⟩ => [(22, iL (pre.length : Int)), (6, iL (1000 * sumI pre))]) (fun ⟨(pre, suf), _⟩ => [(0, ⟨false, 58, 5, [[sL (b.mark), iL (b.size), iL (b.count), iL (b.code), .sh 1 ((b.dims).map intC)]], true⟩), (1, ⟨false, 117, 2, [[iL (0), iL (0)]], true⟩)]) (fun ⟨(pre, suf), _⟩ => suf.length) ⟨([], (legsOf b)), rfl, trivial⟩ (.c (.c (.c (.c (.c .n))))) (keep_c (h := (keep_c))) (slots_c (h := (slots_c))) ?_)))))))); rintro ⟨⟨pre, suf⟩, hp, hinv⟩ R0 hR0; dsimp only [cA, nA, lC, lN]
  simp only at hp hinv
  have hpl := lenA hp
  rcases suf with _ | ⟨s, suf⟩
  · rw [List.append_nil] at hp; simp only [lN] at hpl; refine Ev.sr fun _ z=>S.o q.lss (S.e z (Ev.ud (fun c2 => ?_) (fun c2 => ?_)))
    · omega
    refine Ev.exit (hR0 _ _ ?_); show Ev _ _ _ _; refine Ev.sr fun _ z=>S.o (q.fa 1 am_fi58_1 am_cl3) (S.o (q.lv am_ag3) (S.c0 (hF := allowance_fun _) (h := S.o q.mv (S.o q.ex (S.o q.ex (S.nn (q.al am_ze117) (S.sv _ true [_, _] am_in117 am_cl117 (h := S.o q.as (S.e z (Ev.seq ?_)))))))))); rw [e3]; refine Ev.sr fun _ z=>S.o q.mv (S.o q.neq (S.e z (Ev.cn (fun c3 => ?_) (fun c3 => ?_))))
    · omega
    refine Ev.skip ?_; show Ev _ _ _ _; simp only [e1, e2]; rw [hp]; refine Ev.sr fun _ z=>S.o q.mv (S.o (q.lens am_el56) (S.o q.sub (S.o q.as (S.e z (Ev.sr fun _ z=>S.o q.mv (S.o q.mv (S.o (q.fa 1 am_fi117_1 am_cl3) (S.o (q.lv am_ag3) (S.o q.mul (S.o q.sub (S.o q.mv (S.o q.mv (S.o (q.fa 0 am_fi117_0 am_cl3) (S.o (q.lv am_ag3) (S.o q.mul (S.o q.sub (S.o (q.bd _ am_ze117 am_pl117) (S.sv _ true [_, _] am_in117 am_cl117 (h := S.o q.as (S.e z (Ev.ret (Ev.retv2 (res_c [_, _] am_ag117 am_cl117 (res_t res_n)) (⟨?_, rfl⟩))))))))))))))))))))))); rw [okV_in hok, okV_in hok, okE_in hok]; rfl
  simp only [lC] at hpl; have hidx := getA hp; have hsb := legs_in hok s (by rw [← hp]; simp); obtain ⟨hs1, hs2⟩ := sumI_bd pre (fun n hn => legs_in hok n (by rw [← hp]; simp [hn])); refine Ev.sr fun _ z=>S.o q.lss (S.e z (Ev.ud (fun c4 => ?_) (fun c4 => ?_)))
  · refine Ev.seq (Ev.block (Ev.sr fun _ z=>S.o (q.ix am_el56 am_cl3 (hl := (by exact ati hidx (by omega)))) (S.o (q.ls am_ag3) (S.o q.as (S.e z (Ev.region_S fun _ z=>S.o q.mv (S.o q.mv (S.o q.mul (S.o q.add (S.o q.as (S.e z ?_))))))))))); show Ev _ _ _ _; refine Ev.region_S fun _ z=>S.o q.add (S.o q.mv (S.e z (hR0 _ _ (roundU [0, 1] [1, 2, 4, 20, 21] ⟨(pre ++ [s], suf), sucA hp, trivial⟩ muL (keep_c (h := (keep_c))) (slots_c (he := (by congr 2; simp)) (h := (slots_c (he := (by congr 2; rw [sumI_app, show sumI [s] = s by simp [sumI]]; omega))))) (.c (.c (.c (.c (.c .n)))))))))
  omega
def cutOf (b : Bar) : Int := max 5 (5 * ((max 0 (devHi b) + 5000 - 1) / 5000))
theorem cutOf_bd {b : Bar} (h : okBar b) : 5 ≤ cutOf b ∧ cutOf b ≤ 1048576 := by
  obtain ⟨_, _, _, _, h1, h2⟩ := dev_bd h
  unfold cutOf
  omega
theorem cut_fun (b : Bar) (hw : b.w) : Fun Tryz.prog 34 [.agg b.c] (Ret (.tup [iL (okV b (cutOf b)), iL (okE b)]) []) := by
  refine Fun.of (nt := 20) (rs := [.tmp 2, .tmp 3]) Tryz.func34 rfl rfl rfl rfl rfl (Ev.sr fun _ z=>S.nn (q.bx _ true) (S.o q.as (S.o q.as (S.e z (Ev.sr fun _ z=>S.o (q.lvA _ am_ag58 am_cl58) (S.c0 (hF := developed_fun _ (by assumption)) (h := S.o q.mv (S.o q.ex (S.o q.ex (S.nn (q.al am_ze117) (S.sv _ true [_] am_in117 am_cl117 (h := S.o q.as (S.e z (Ev.seq (Ev.sr fun _ z=>S.o q.mv (S.o q.neq (S.e z (Ev.cn (fun c1 => ?_) (fun c1 => ?_)))))))))))))))))))
  · refine Ev.sr fun _ z=>S.o q.mv (S.o q.as (S.o q.as (S.e z (Ev.ret (Ev.ret2 (⟨?_, rfl⟩)))))); rw [okV_out ‹_›, okE_out ‹_›]
  refine Ev.skip ?_; show Ev _ _ _ _; have hok := okE_zero ‹okE b = 0›; obtain ⟨_, _, _, _, h1, h2⟩ := dev_bd hok; rw [okV_in hok, okV_in hok]; refine Ev.sr fun _ z=>S.o (q.fa 1 am_fi117_1 am_cl3) (S.o (q.lv am_ag3) (S.o q.max (S.c0 (hF := up_fun _ _ (by omega) (by omega) (by omega) (by omega)) (h := S.o q.mul (S.o q.max (S.o q.as (S.o q.as (S.e z (Ev.ret (Ev.ret2 (⟨?_, rfl⟩))))))))))); rw [okV_in hok, okE_in hok]; rfl
def oneOf (b : Bar) : Int := massOf b.size (cutOf b)
def barMass (b : Bar) : Int := b.count * oneOf b
theorem barMass_bd {b : Bar} (h : okBar b) : 0 ≤ oneOf b ∧ oneOf b ≤ 10343154 ∧ 0 ≤ barMass b ∧ barMass b ≤ 1000 * 10343154 := by
  obtain ⟨h1, h2⟩ := cutOf_bd h; obtain ⟨h3, h4⟩ := massOf_bd h.2.1 (by omega : 0 ≤ cutOf b) h2; have h5 := h.2.2.1; have h6 := h.2.2.2.1; exact ⟨h3, h4, mul_bd (by omega) h6 h3 h4⟩
theorem barMass_fun (b : Bar) (hw : b.w) : Fun Tryz.prog 12 [.agg b.c] (Ret (.tup [iL (okV b (barMass b)), iL (okE b)]) []) := by
  refine Fun.of (nt := 29) (rs := [.tmp 2, .tmp 3]) Tryz.func12 rfl rfl rfl rfl rfl (Ev.sr fun _ z=>S.nn (q.bx _ true) (S.o q.as (S.o q.as (S.e z (Ev.sr fun _ z=>S.o (q.lvA _ am_ag58 am_cl58) (S.c0 (hF := cut_fun _ (by assumption)) (h := S.o q.mv (S.o q.ex (S.o q.ex (S.o q.as (S.o q.as (S.e z (Ev.seq (Ev.sr fun _ z=>S.o q.mv (S.o q.neq (S.e z (Ev.cn (fun c1 => ?_) (fun c1 => ?_))))))))))))))))))
  · refine Ev.sr fun _ z=>S.o q.mv (S.o q.as (S.o q.as (S.e z (Ev.ret (Ev.ret2 (⟨?_, rfl⟩)))))); rw [okV_out ‹_›, okE_out ‹_›]
  refine Ev.skip ?_; show Ev _ _ _ _; have hok := okE_zero ‹okE b = 0›; obtain ⟨h1, h2⟩ := cutOf_bd hok; obtain ⟨h3, h4, h5, h6⟩ := barMass_bd hok; have e1 : szV b.size (massOf b.size (cutOf b)) = oneOf b := szV_in hok.2.1; have e2 := szE_in hok.2.1; rw [okV_in (v := cutOf b) hok]; refine Ev.sr fun _ z=>S.o (q.fa 1 am_fi58_1 am_cl3) (S.o (q.lv am_ag3) (S.o q.mv (S.c0 (hF := Mass_fun _ _ (by omega) (by omega)) (h := S.o q.mv (S.o q.ex (S.o q.ex (S.o q.as (S.o q.as (S.e z (Ev.seq ?_)))))))))); rw [e2]; refine Ev.sr fun _ z=>S.o q.mv (S.o q.neq (S.e z (Ev.cn (fun c2 => ?_) (fun c2 => ?_))))
  · omega
  refine Ev.skip ?_; show Ev _ _ _ _; rw [e1]; refine Ev.sr fun _ z=>S.o (q.fa 2 am_fi58_2 am_cl3) (S.o (q.lv am_ag3) (S.o q.mv (S.o (q.mul (h1 := by unfold barMass at h5; omega) (h2 := by unfold barMass at h6; omega)) (S.o q.as (S.o q.as (S.e z (Ev.ret (Ev.ret2 (⟨?_, rfl⟩))))))))); rw [okV_in hok, okE_in hok]; rfl
def pntC : Int × Int × Int → List AV
  | (a, b, c) => [iL a, iL b, iL c]
abbrev P3 := Int × Int × Int
structure Rn where
  mark : List UInt8
  tx : Int
  ty : Int
  ax : Int
  ay : Int
  az : Int
  sx : Int
  sy : Int
  sz : Int
  n : Int
def Rn.c : Rn → List AV
  | ⟨m, a, b, c, d, e, f, g, h, n⟩ => [sL m, iL a, iL b, iL c, iL d, iL e, iL f, iL g, iL h, iL n]
def Rn.at (r : Rn) : P3 := (r.ax, r.ay, r.az)
def Rn.st (r : Rn) : P3 := (r.sx, r.sy, r.sz)
def axOK (n : Int) : Prop := n ≠ 0 ∧ -3 ≤ n ∧ n ≤ 3
instance (n) : Decidable (axOK n) := by unfold axOK; infer_instance
def turnOK (x y : Int) : Prop := axOK x ∧ axOK y ∧ x ≠ y ∧ x ≠ -y
instance (x y) : Decidable (turnOK x y) := by unfold turnOK; infer_instance
def uV (n i : Int) : Int := if n = i then 1 else if n = -i then -1 else 0
theorem uV_in (n i : Int) : -1 ≤ uV n i ∧ uV n i ≤ 1 := by
  unfold uV
  split
  · omega
  split <;> omega
theorem mulB {a b A B : Int} (ha : -A ≤ a ∧ a ≤ A) (hb : -B ≤ b ∧ b ≤ B) : -(A * B) ≤ a * b ∧ a * b ≤ A * B := by
  have hA : 0 ≤ A := by omega
  have hB : 0 ≤ B := by omega
  rcases Int.le_total 0 a with h | h <;> rcases Int.le_total 0 b with h' | h'
  · have h1 := Int.mul_le_mul ha.2 hb.2 h' hA; have h2 := Int.mul_nonneg h h'; have h3 := Int.mul_nonneg hA hB; omega
  · have h1 := Int.mul_le_mul ha.2 (show -b ≤ B by omega) (by omega) hA; have h2 := Int.mul_nonneg h (show 0 ≤ -b by omega); have h3 := Int.mul_nonneg hA hB; rw [Int.mul_neg] at h1 h2; omega
  · have h1 := Int.mul_le_mul (show -a ≤ A by omega) hb.2 h' hA; have h2 := Int.mul_nonneg (show 0 ≤ -a by omega) h'; have h3 := Int.mul_nonneg hA hB; rw [Int.neg_mul] at h1 h2; omega
  have h1 := Int.mul_le_mul (show -a ≤ A by omega) (show -b ≤ B by omega) (by omega) hA; have h2 := Int.mul_nonneg (show 0 ≤ -a by omega) (show 0 ≤ -b by omega); have h3 := Int.mul_nonneg hA hB; rw [Int.neg_mul_neg] at h1 h2; omega
def crX (x y : Int) : Int := uV x 2 * uV y 3 - uV x 3 * uV y 2
def crY (x y : Int) : Int := uV x 3 * uV y 1 - uV x 1 * uV y 3
def crZ (x y : Int) : Int := uV x 1 * uV y 2 - uV x 2 * uV y 1
theorem cr_in (x y : Int) : (-2 ≤ crX x y ∧ crX x y ≤ 2) ∧ (-2 ≤ crY x y ∧ crY x y ≤ 2) ∧ -2 ≤ crZ x y ∧ crZ x y ≤ 2 := by
  have h : ∀ i j : Int, -1 ≤ uV x i * uV y j ∧ uV x i * uV y j ≤ 1 := fun i j => by
    have := mulB (uV_in x i) (uV_in y j); omega
  have h1 := h 2 3; have h2 := h 3 2; have h3 := h 3 1; have h4 := h 1 3; have h5 := h 1 2; have h6 := h 2 1
  unfold crX crY crZ
  omega
def near1 (p : P3) : Prop := (-1048576 ≤ p.1 ∧ p.1 ≤ 1048576) ∧ (-1048576 ≤ p.2.1 ∧ p.2.1 ≤ 1048576) ∧ -1048576 ≤ p.2.2 ∧ p.2.2 ≤ 1048576
instance (p) : Decidable (near1 p) := by unfold near1; infer_instance
def nearL (l : List P3) : Prop := ∀ p ∈ l, near1 p
instance (l) : Decidable (nearL l) := by unfold nearL; infer_instance
def imP (x y : Int) (p : P3) : P3 := (uV x 1 * p.1 + uV y 1 * p.2.1 + crX x y * p.2.2, uV x 2 * p.1 + uV y 2 * p.2.1 + crY x y * p.2.2, uV x 3 * p.1 + uV y 3 * p.2.1 + crZ x y * p.2.2)
theorem im_bd {x y : Int} {p : P3} (h : near1 p) (i : Int) : (-1048576 ≤ uV x i * p.1 ∧ uV x i * p.1 ≤ 1048576) ∧ (-1048576 ≤ uV y i * p.2.1 ∧ uV y i * p.2.1 ≤ 1048576) := by
  have h1 := mulB (uV_in x i) h.1; have h2 := mulB (uV_in y i) h.2.1; omega
theorem im_bd3 {x y : Int} {p : P3} (h : near1 p) : (-2097152 ≤ crX x y * p.2.2 ∧ crX x y * p.2.2 ≤ 2097152) ∧ (-2097152 ≤ crY x y * p.2.2 ∧ crY x y * p.2.2 ≤ 2097152) ∧ -2097152 ≤ crZ x y * p.2.2 ∧ crZ x y * p.2.2 ≤ 2097152 := by
  obtain ⟨g1, g2, g3⟩ := cr_in x y; have h1 := mulB g1 h.2.2; have h2 := mulB g2 h.2.2; have h3 := mulB g3 h.2.2; omega
def addP (p q : P3) : P3 := (p.1 + q.1, p.2.1 + q.2.1, p.2.2 + q.2.2)
def frE (x y : Int) (at_ : P3) (l : List P3) : Int := if turnOK x y then (if l.length ≤ 1000 then (if near1 at_ ∧ nearL l then 0 else 2) else 4) else 1
def frV (x y : Int) (at_ : P3) (l : List P3) : List P3 := if frE x y at_ l = 0 then l.map (fun p => addP at_ (imP x y p)) else []
theorem frE1 {x y : Int} {at_ : P3} {l : List P3} (h : ¬ turnOK x y) : frE x y at_ l = 1 ∧ frV x y at_ l = [] := by
  have e : frE x y at_ l = 1 := if_neg h; exact ⟨e, if_neg (by omega)⟩
theorem frE4 {x y : Int} {at_ : P3} {l : List P3} (h : turnOK x y) (h2 : ¬ l.length ≤ 1000) : frE x y at_ l = 4 ∧ frV x y at_ l = [] := by
  have e : frE x y at_ l = 4 := (if_pos h).trans (if_neg h2); exact ⟨e, if_neg (by omega)⟩
theorem frE2 {x y : Int} {at_ : P3} {l : List P3} (h : turnOK x y) (h2 : l.length ≤ 1000) (h3 : ¬ (near1 at_ ∧ nearL l)) : frE x y at_ l = 2 ∧ frV x y at_ l = [] := by
  have e : frE x y at_ l = 2 := ((if_pos h).trans (if_pos h2)).trans (if_neg h3); exact ⟨e, if_neg (by omega)⟩
theorem frE0 {x y : Int} {at_ : P3} {l : List P3} (h : turnOK x y) (h2 : l.length ≤ 1000) (h3 : near1 at_ ∧ nearL l) : frE x y at_ l = 0 ∧ frV x y at_ l = l.map (fun p => addP at_ (imP x y p)) := by
  have e : frE x y at_ l = 0 := ((if_pos h).trans (if_pos h2)).trans (if_pos h3); exact ⟨e, if_pos e⟩
def movP (b : Bar) (p : P3) (s : Int × Int) : P3 :=
  if s.2 = 120 then (p.1 + dimAt b s.1.toNat, p.2) else if s.2 = 88 then (p.1 - dimAt b s.1.toNat, p.2) else if s.2 = 121 then (p.1, p.2.1 + dimAt b s.1.toNat, p.2.2)
  else if s.2 = 89 then (p.1, p.2.1 - dimAt b s.1.toNat, p.2.2) else if s.2 = 122 then (p.1, p.2.1, p.2.2 + dimAt b s.1.toNat) else p
def endG (b : Bar) (l : List (Int × Int)) : P3 := l.foldl (movP b) (0, 0, 0)
def pathG (b : Bar) : List (Int × Int) → P3 → List P3
  | [], p => [p]
  | s :: l, p => p :: pathG b l (movP b p s)
theorem endG_snoc (b : Bar) (l : List (Int × Int)) (s : Int × Int) : endG b (l ++ [s]) = movP b (endG b l) s := by simp [endG]
theorem pathG_snoc (b : Bar) (s : Int × Int) : ∀ (l : List (Int × Int)) (p : P3), pathG b (l ++ [s]) p = pathG b l p ++ [movP b (l.foldl (movP b) p) s]
  | [], p => rfl
  | t :: l, p => by rw [List.cons_append, pathG, pathG_snoc b s l, pathG]; rfl
theorem pathG_len (b : Bar) : ∀ (l : List (Int × Int)) (p : P3), (pathG b l p).length = l.length + 1
  | [], _ => rfl
  | t :: l, p => by rw [pathG, List.length_cons, pathG_len b l, List.length_cons]
def pathOf (b : Bar) : List P3 := pathG b (legsL b.code) (0, 0, 0)
def shpV (b : Bar) : List P3 := if okBar b then pathOf b else []
theorem legsL_len (k : Int) : (legsL k).length ≤ 6 := by
  unfold legsL
  repeat' split
  all_goals decide
theorem shpV_len (b : Bar) : (shpV b).length ≤ 7 := by
  unfold shpV
  split
  · have := legsL_len b.code; rw [pathOf, pathG_len]; omega
  simp
def isPl (p : P3) (m : Int) : Prop := (-m ≤ p.1 ∧ p.1 ≤ m) ∧ (-m ≤ p.2.1 ∧ p.2.1 ≤ m) ∧ -m ≤ p.2.2 ∧ p.2.2 ≤ m
instance (p m) : Decidable (isPl p m) := by unfold isPl; infer_instance
def plusP (p s : P3) (k : Int) : P3 := (p.1 + k * s.1, p.2.1 + k * s.2.1, p.2.2 + k * s.2.2)
def lineOf (bars : List Bar) (mk : List UInt8) : Bar := (bars[(markI bars mk).toNat]?).getD ⟨[], 0, 0, 0, []⟩
def turnedV (bars : List Bar) (r : Rn) : List P3 := frV r.tx r.ty (0, 0, 0) (shpV (lineOf bars r.mark))
def ptP (r : Rn) (k : Int) (p : P3) : P3 := if k > 0 then plusP (plusP p r.at 1) r.st k else plusP p r.at 1
def rightP (bars : List Bar) (r : Rn) : Prop :=
  0 ≤ markI bars r.mark ∧ turnOK r.tx r.ty ∧ (1 ≤ r.n ∧ r.n ≤ 1000) ∧ isPl r.at 1048576 ∧ (r.n > 1 → ¬ (r.sx = 0 ∧ r.sy = 0 ∧ r.sz = 0) ∧ isPl r.st 2097152) ∧
    (∀ p ∈ turnedV bars r, isPl (ptP r 0 p) 1048576) ∧ ∀ p ∈ turnedV bars r, isPl (ptP r (r.n - 1) p) 1048576
instance (bars r) : Decidable (rightP bars r) := by unfold rightP; infer_instance
def cntS (runs : List Rn) : Int := (runs.map (·.n)).sum
def runW (l : List Rn) : Prop := ∀ r ∈ l, r.mark.length ≤ 140737488355328
def laidOK (bars : List Bar) (runs : List Rn) : Prop := okSched bars ∧ runs.length ≤ 60 ∧ (∀ r ∈ runs, rightP bars r) ∧ cntS runs ≤ 2000
instance (bars runs) : Decidable (laidOK bars runs) := by unfold laidOK; infer_instance
def Place (n : Int) : Prop := -1048576 ≤ n ∧ n ≤ 1048576
instance (n) : Decidable (Place n) := by unfold Place; infer_instance
def okStp (s : Int × Int) : Prop := Place s.1 ∧ 0 ≤ s.2 ∧ s.2 ≤ 1099511627776
instance (s) : Decidable (okStp s) := by unfold okStp; infer_instance
def okSteps (l : List (Int × Int)) : Prop := l.length ≤ 200 ∧ (∀ s ∈ l, okStp s) ∧ l.Pairwise fun a b => a.1 < b.1
instance (l) : Decidable (okSteps l) := by unfold okSteps; infer_instance
theorem asc_snoc {pre : List (Int × Int)} {s : Int × Int} (h : pre.Pairwise fun a b => a.1 < b.1) (hl : ∀ h : 0 < pre.length, (pre.getLast (List.ne_nil_of_length_pos h)).1 < s.1) : (pre ++ [s]).Pairwise fun a b => a.1 < b.1 := by
  refine List.pairwise_append.2 ⟨h, by simp, fun a ha b hb => ?_⟩; simp only [List.mem_singleton] at hb; subst hb; have hpos : 0 < pre.length := List.length_pos_of_mem ha; have h2 := hl hpos; have hne := List.ne_nil_of_length_pos hpos; rw [← List.dropLast_concat_getLast hne] at h ha; rw [List.pairwise_append] at h
  rcases List.mem_append.1 ha with ha | ha
  · have := h.2.2 a ha _ (List.mem_singleton_self _); omega
  simp only [List.mem_singleton] at ha; rw [ha]; exact h2
theorem steps_snoc {pre : List (Int × Int)} {s : Int × Int} (h : (∀ x ∈ pre, okStp x) ∧ pre.Pairwise fun a b => a.1 < b.1) (hs : okStp s) (hl : ∀ h : 0 < pre.length, (pre.getLast (List.ne_nil_of_length_pos h)).1 < s.1) : (∀ x ∈ pre ++ [s], okStp x) ∧ (pre ++ [s]).Pairwise fun a b => a.1 < b.1 := by
  refine ⟨fun x hx => ?_, asc_snoc h.2 hl⟩; simp only [List.mem_append, List.mem_singleton] at hx
  rcases hx with hx | rfl
  · exact h.1 x hx
  exact hs
theorem steps_cut {pre suf l : List (Int × Int)} {s : Int × Int} (hp : pre ++ s :: suf = l) (h : okSteps l) : okStp s ∧ ∀ h : 0 < pre.length, (pre.getLast (List.ne_nil_of_length_pos h)).1 < s.1 := by
  obtain ⟨h1, h2, h3⟩ := h; refine ⟨h2 s (by rw [← hp]; simp), fun hpos => ?_⟩; rw [← hp, List.pairwise_append] at h3; exact h3.2.2 _ (List.getLast_mem _) s (by simp)
theorem place_fun (n : Int) : Fun Tryz.prog 136 [iL n] (Ret (bL (decide (Place n))) []) := by
  refine Fun.of (nt := 9) (rs := [.tmp 2]) Tryz.func136 rfl rfl rfl rfl rfl (Ev.sr fun _ k=>S.o q.as (S.e k (Ev.sr fun _ k=>S.o q.mv (S.o q.geq (S.bd q.mv (fun c1 => ?_) (fun c1 => ?_))))))
  · refine S.o q.mv (S.o q.leq (S.o q.pt (S.o q.as (S.e k (Ev.ret (Ev.p1 ?_)))))); exact dI (by unfold Place; omega)
  refine S.s2 (S.o q.pf (S.o q.as (S.e k (Ev.ret (Ev.p1 ?_))))); exact bF (by unfold Place; omega)
theorem stepsValid_fun (l : List (Int × Int)) (hlen : l.length ≤ 140737488355328) : Fun Tryz.prog 114 [.sh 2 (l.map pairC)] (Ret (bL (decide (okSteps l))) []) := by
  refine Fun.of (nt := 45) (rs := [.tmp 2]) Tryz.func114 rfl rfl rfl rfl rfl (Ev.sr fun _ k=>S.o q.as (S.e k (Ev.seq (Ev.sr fun _ k=>S.o q.mv (S.o (q.lens am_el60) (S.o q.gtr (S.e k (Ev.cd (fun c1 => ?_) (fun c1 => ?_)))))))))
  · refine Ev.sr fun _ k=>S.o q.as (S.e k (Ev.ret (Ev.p1 ?_))); exact bF (fun h => by have h1 := h.1; omega)
  refine Ev.skip (Ev.seq (Ev.sr fun _ k=>S.o q.mv (S.o (q.lens am_el60) (S.o q.mv (S.e k (Ev.block (Ev.loopU (ι := {q : List (Int × Int) × List (Int × Int) // q.1 ++ q.2 = l ∧ (∀ x ∈ q.1, okStp x) ∧ q.1.Pairwise fun a b => a.1 < b.1}) [] [0, 8, 9] (fun ⟨(pre, suf), _⟩ => [(10, iL (pre.length : Int))]) (fun ⟨(pre, suf), _⟩ => []) (fun ⟨(pre, suf), _⟩ => suf.length) ⟨([], l), rfl, fun x hx => by simp at hx, .nil⟩ (.c (.c (.c .n))) keep_n (slots_c) ?_))))))); rintro ⟨⟨pre, suf⟩, hp, hinv⟩ R0 hR0; dsimp only [cA, nA, lC, lN]
  simp only at hp hinv
  have hpl := lenA hp
  rcases suf with _ | ⟨s, suf⟩
  · rw [List.append_nil] at hp; simp only [lN] at hpl; refine Ev.sr fun _ k=>S.o q.lss (S.e k (Ev.ud (fun c2 => ?_) (fun c2 => ?_)))
    · omega
    refine Ev.exit (hR0 _ _ (Ev.sr fun _ k=>S.o q.as (S.e k (Ev.ret (Ev.p1 ?_))))); exact bT ⟨by omega, by rw [← hp]; exact hinv⟩
  simp only [lC] at hpl; have hidx := getA hp; obtain ⟨sx, sy⟩ := s; have hprev := fun h => pre_last (pre := pre) hp h; refine Ev.sr fun _ k=>S.o q.lss (S.e k (Ev.ud (fun c8 => ?_) (fun c8 => ?_)))
  · refine Ev.seq (Ev.block (Ev.sr fun _ k=>S.o q.mv (S.o (q.ix am_el60 am_cl67 (hl := (by exact ati hidx (by omega)))) (S.o (q.lsA _ am_ag67 am_cl67) (S.nn (q.al am_ze67) (S.o q.as (S.sv _ true [] am_in67 am_cl67 (h := S.e k (Ev.sm (tbs [(0, 0), (1, 1), (2, 3), (3, 7), (4, 15), (5, 31), (6, 63), (7, 127), (8, 255), (9, 511), (10, 1023), (11, 2047), (12, 4095), (13, 8191), (14, 16383), (15, 32767), (16, 65535), (17, 131071), (18, 262143), (19, 524287), (18, 262143), (18, 262143), (22, 2359295), (23, 7602175), (24, 15990783), (25, 32767999), (26, 67108863), (27, 134217727), (28, 268435455)]) 29 fun _ k=>M.o (q.fa 0 am_fi67_0 am_cl3) (M.o (q.lv am_ag3) (M.c0 (hF := place_fun _) (h := M.o q.not (M.bn q.mv (fun c9 => ?_) (fun c9 => ?_))))))))))))))
    · refine M.sk (M.sk (M.sk (M.o q.pt (M.o q.mv (M.sk (M.sk (M.sk (M.o q.pt (M.o q.mv (M.sk (M.sk (M.sk (M.sk (M.sk (M.sk (M.sk (M.sk (M.sk (M.sk (M.sk (M.sk (M.sk (M.o q.pt (M.end [_] (h := S.e k (Ev.ct (Ev.sr fun _ k=>S.o q.as (S.e k (Ev.ret (hR0 _ _ (Ev.p1 ?_))))))))))))))))))))))))))))))); exact bF (fun h => absurd (steps_cut hp h).1.1 ‹_›)
    refine M.o (q.fa 1 am_fi67_1 am_cl3) (M.o (q.lv am_ag3) (M.o q.lss (M.o q.pf (M.bd q.mv (fun c10 => ?_) (fun c10 => ?_)))))
    · refine M.sk (M.sk (M.sk (M.o q.pt (M.o q.mv (M.sk (M.sk (M.sk (M.sk (M.sk (M.sk (M.sk (M.sk (M.sk (M.sk (M.sk (M.sk (M.sk (M.o q.pt (M.end [_] (h := S.e k (Ev.ct (Ev.sr fun _ k=>S.o q.as (S.e k (Ev.ret (hR0 _ _ (Ev.p1 ?_)))))))))))))))))))))))))); exact bF (fun h => by have h1 := (steps_cut hp h).1.2; simp only at h1; omega)
    refine M.o (q.fa 1 am_fi67_1 am_cl3) (M.o (q.lv am_ag3) (M.o q.gtr (M.o q.pf (M.bd q.mv (fun c11 => ?_) (fun c11 => ?_)))))
    · refine M.sk (M.sk (M.sk (M.sk (M.sk (M.sk (M.sk (M.sk (M.sk (M.sk (M.sk (M.sk (M.sk (M.o q.pt (M.end [_] (h := S.e k (Ev.ct (Ev.sr fun _ k=>S.o q.as (S.e k (Ev.ret (hR0 _ _ (Ev.p1 ?_))))))))))))))))))))); exact bF (fun h => by have h1 := (steps_cut hp h).1.2; simp only at h1; omega)
    refine M.o q.mv (M.o q.gtr (M.bd q.mv (fun c12 => ?_) (fun c12 => ?_)))
    · refine M.o (q.fa 0 am_fi67_0 am_cl3) (M.o (q.lv am_ag3) (M.o q.mv (M.o q.mv (M.o q.sub (M.o (q.ix am_el60 am_cl67 (hl := (by exact ati (hprev (by omega)) (by omega)))) (M.o (q.fs 0 am_fi67_0 am_cl3) (M.o (q.ls am_ag3) (M.o q.leq (M.o q.pt (M.o q.pf (M.end [_] (h := S.e k (Ev.cd (fun c13 => ?_) (fun c13 => ?_))))))))))))))
      · refine Ev.sr fun _ k=>S.o q.as (S.e k (Ev.ret (hR0 _ _ (Ev.p1 ?_)))); exact bF (fun h => by have h1 := (steps_cut hp h).2 (by omega); simp only at h1; omega)
      refine Ev.skip (Ev.region_S fun _ k=>S.o q.add (S.o q.mv (S.e k (hR0 _ _ (roundU [] [0, 8, 9] ⟨(pre ++ [(sx, sy)], suf), sucA hp, ?_⟩ muL keep_n (slots_c (he := (by simp))) (.c (.c (.c .n)))))))); refine steps_snoc hinv ?_ ?_
      · refine ⟨?_, by dsimp only; omega, by dsimp only; omega⟩
        assumption
      · intro h
        dsimp only
        omega
    refine M.sk (M.sk (M.sk (M.sk (M.sk (M.sk (M.sk (M.sk (M.sk (M.o q.pf (M.o q.pf (M.end [_] (h := S.e k (Ev.cf (Ev.skip (Ev.region_S fun _ k=>S.o q.add (S.o q.mv (S.e k (hR0 _ _ (roundU [] [0, 8, 9] ⟨(pre ++ [(sx, sy)], suf), sucA hp, ?_⟩ muL keep_n (slots_c (he := (by simp))) (.c (.c (.c .n)))))))))))))))))))))); refine steps_snoc hinv ?_ ?_
    · refine ⟨?_, by dsimp only; omega, by dsimp only; omega⟩
      assumption
    · intro h
      dsimp only
      omega
  omega
structure Bx where
  lx : Int
  ly : Int
  lz : Int
  hx : Int
  hy : Int
  hz : Int
def Bx.c : Bx → List AV
  | ⟨a, b, c, d, e, f⟩ => [iL a, iL b, iL c, iL d, iL e, iL f]
def okBx (b : Bx) : Prop := (b.lx ≤ b.hx ∧ -1048576 ≤ b.lx ∧ b.hx ≤ 1048576) ∧ (b.ly ≤ b.hy ∧ -1048576 ≤ b.ly ∧ b.hy ≤ 1048576) ∧ (b.lz ≤ b.hz ∧ -1048576 ≤ b.lz ∧ b.hz ≤ 1048576)
instance (b) : Decidable (okBx b) := by unfold okBx; infer_instance
structure Dem where
  name : List UInt8
  zone : Bx
  steps : List (Int × Int)
def Dem.c : Dem → List AV
  | ⟨n, ⟨a, b, c, d, e, f⟩, s⟩ => [sL n, iL a, iL b, iL c, iL d, iL e, iL f, .sh 2 (s.map pairC)]
def okDem (d : Dem) : Prop := IsName d.name ∧ okBx d.zone ∧ okSteps d.steps
instance (d) : Decidable (okDem d) := by unfold okDem; infer_instance
def Dem.w (d : Dem) : Prop := d.name.length ≤ 140737488355328 ∧ d.steps.length ≤ 140737488355328
def demW (l : List Dem) : Prop := ∀ d ∈ l, d.w
def okDems (l : List Dem) : Prop := l.length ≤ 20 ∧ (∀ d ∈ l, okDem d) ∧ l.Pairwise (fun a b => a.name ≠ b.name)
instance (l) : Decidable (okDems l) := by unfold okDems; infer_instance
theorem dems_cut {pre suf l : List Dem} {s : Dem} (hp : pre ++ s :: suf = l) (h : okDems l) : okDem s ∧ ∀ a ∈ pre, a.name ≠ s.name := by
  obtain ⟨h1, h2, h3⟩ := h; refine ⟨h2 s (by rw [← hp]; simp), fun a ha => ?_⟩; rw [← hp, List.pairwise_append] at h3; exact h3.2.2 a ha s (by simp)
theorem dems_snoc {pre : List Dem} {s : Dem} (h : (∀ b ∈ pre, okDem b) ∧ pre.Pairwise (fun a b => a.name ≠ b.name)) (h1 : okDem s) (h2 : ∀ a ∈ pre, a.name ≠ s.name) :
    (∀ b ∈ pre ++ [s], okDem b) ∧ (pre ++ [s]).Pairwise (fun a b => a.name ≠ b.name) := by
  refine ⟨fun b hb => ?_, List.pairwise_append.2 ⟨h.2, by simp, fun a ha b hb => ?_⟩⟩
  · rcases List.mem_append.1 hb with hb | hb
    · exact h.1 b hb
    simp at hb; subst hb; exact h1
  simp at hb; subst hb
  exact h2 a ha
theorem take_pre {T : Type} {pre suf l : List T} {s : T} (hp : pre ++ s :: suf = l) : l.take pre.length = pre := by rw [← hp, List.take_left]
def smD (l : List Dem) (most : Int) : Prop := ¬ ((l.length : Int) > most ∧ l.length ≤ 20 ∨ l.length > 25) ∧ ∀ d ∈ l, ¬ (d.name.length > 60 ∨ (d.steps.length : Int) > 2 * most ∧ d.steps.length ≤ 200 ∨ d.steps.length > 205)
instance (l most) : Decidable (smD l most) := by unfold smD; infer_instance
end Go.Proofs.YtlpgjlnkfgacbaaGreat
