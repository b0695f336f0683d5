/-
  Bundles: what is made has no findings, and what changes is found.
  Conditions: none.
-/
import Derived.Test.YthpjfkmhpoeojaaGreatDoorBd3
namespace Go.Proofs.YthpjfkmhpoeojaaGreatDoor
open Go Go.AM
set_option linter.unusedSimpArgs false
set_option linter.unusedVariables false
set_option maxRecDepth 100000
open Go.Lib in
theorem dec_all : ∀ (n u : Nat), u = n → ∀ c ∈ decDigits u, IsD (c.toNat : Int) := by
  intro n
  induction n using Nat.strongRecOn with
  | _ n ih =>
    intro u hu c hc
    have key : ∀ k : Nat, k < 10 → IsD ((UInt8.ofNat (48 + k)).toNat : Int) := by
      intro k hk; rw [UInt8.toNat_ofNat']
      unfold IsD
      omega
    rw [decDigits] at hc
    split at hc
    · rename_i h10
      obtain rfl := List.mem_singleton.1 hc; exact key u h10
    · rcases List.mem_append.1 hc with hc | hc
      · exact ih (u / 10) (by omega) (u / 10) rfl c hc
      · obtain rfl := List.mem_singleton.1 hc; exact key (u % 10) (by omega)
def decVal (l : List UInt8) : Nat := l.foldl (fun a c => 10 * a + (c.toNat - 48)) 0
open Go.Lib in
theorem dec_val : ∀ (n u : Nat), u = n → decVal (decDigits u) = u := by
  intro n
  induction n using Nat.strongRecOn with
  | _ n ih =>
    intro u hu
    have key : ∀ k : Nat, k < 10 → (UInt8.ofNat (48 + k)).toNat - 48 = k := by
      intro k hk; rw [UInt8.toNat_ofNat']; omega
    rw [decDigits]
    split
    · rename_i h10
      simp only [decVal, List.foldl_cons, List.foldl_nil, key u h10]; omega
    · have h1 := ih (u / 10) (by omega) (u / 10) rfl
      unfold decVal at h1 ⊢
      rw [List.foldl_append, h1]; simp only [List.foldl_cons, List.foldl_nil, key (u % 10) (by omega)]; omega
theorem tag_name {k : Nat} (h : k ≤ 1000) : IsName (tagOf k) := by
  have h1 := dec_len 3 k (by omega); have h2 : Go.Lib.itoa (k : Int) = Go.Lib.decDigits k := Go.Lib.itoa_nonneg k; have h3 := dec_all k k rfl
  unfold tagOf
  rw [h2]; refine ⟨by simp, by simp only [List.length_cons]; omega, fun c hc => ?_, ?_⟩
  · simp only [List.getElem?_cons_zero, Option.some.injEq] at hc; rw [← hc]; decide
  · have := wordN_app (116 :: Go.Lib.decDigits k) [] (fun x hx => by
      rcases List.mem_cons.1 hx with rfl | hx
      · decide
      · exact .inr (.inl (h3 x hx)))
    rw [List.append_nil] at this; rw [this]; simp [wordN]
theorem tag_inj {a b : Nat} (h : tagOf a = tagOf b) : a = b := by
  unfold tagOf at h
  rw [Go.Lib.itoa_nonneg, Go.Lib.itoa_nonneg] at h; have h1 := congrArg decVal (List.cons.inj h).2; rw [dec_val a a rfl, dec_val b b rfl] at h1; exact h1
theorem mem_bunL : ∀ (l : List Unit2) (k : Nat) (x : Bundle), x ∈ bunL k l → ∃ i u, u ∈ l ∧ i < l.length ∧ x = bun (k + i) u
  | [], _, _, h => by simp [bunL] at h
  | u :: l, k, x, h => by
    rw [bunL] at h
    rcases List.mem_cons.1 h with rfl | h
    · exact ⟨0, u, by simp, by simp, rfl⟩
    · obtain ⟨i, v, h1, h2, h3⟩ := mem_bunL l (k + 1) x h; exact ⟨i + 1, v, by simp [h1], by simp only [List.length_cons]; omega, by rw [h3]; congr 1; omega⟩
theorem bunL_tags : ∀ (l : List Unit2) (k : Nat), (bunL k l).Pairwise (fun a b => a.tag ≠ b.tag)
  | [], _ => by simp [bunL]
  | u :: l, k => by
    rw [bunL, List.pairwise_cons]; refine ⟨fun x hx => ?_, bunL_tags l (k + 1)⟩; obtain ⟨i, v, _, _, rfl⟩ := mem_bunL l (k + 1) x hx; obtain ⟨b, n⟩ := u; obtain ⟨c, m⟩ := v; intro e; have := tag_inj e; omega
theorem mem_units {most : Int} {l : List Bar} {u : Unit2} (h : u ∈ units most l) : u.1 ∈ l ∧ u.2 ∈ chunks (most / oneOf u.1) u.1.count := by
  simp only [units, List.mem_flatten, List.mem_map] at h; obtain ⟨q, ⟨b, hb, rfl⟩, hu⟩ := h; simp only [unitsB, List.mem_map] at hu; obtain ⟨n, hn, rfl⟩ := hu; exact ⟨hb, hn⟩
theorem unitB_in {most : Int} {b : Bar} {n : Int} (h : okBar b) (hm : oneOf b ≤ most) (hn : n ∈ chunks (most / oneOf b) b.count) : 1 ≤ n ∧ n ≤ most / oneOf b ∧ n ≤ b.count ∧ 0 ≤ n * oneOf b ∧ n * oneOf b ≤ most := by
  obtain ⟨o1, _⟩ := one_bd h; have hc := h.2.2.1; obtain ⟨w1, w2⟩ := whole_pos h hm; obtain ⟨_, h2, _⟩ := chunks_sum w1 b.count.toNat b.count (by omega); obtain ⟨h3, h4, h5⟩ := h2 n hn; exact ⟨h3, h4, h5, Int.mul_nonneg (by omega) (by omega), (Int.le_ediv_iff_mul_le (by omega)).1 h4⟩
theorem unit_in {most : Int} {l : List Bar} {u : Unit2} (hl : ∀ b ∈ l, okBar b) (hm : ∀ b ∈ l, oneOf b ≤ most) (h : u ∈ units most l) : u.1 ∈ l ∧ okBar u.1 ∧ 1 ≤ u.2 ∧ u.2 ≤ most / oneOf u.1 ∧ u.2 ≤ u.1.count ∧ 0 ≤ u.2 * oneOf u.1 ∧ u.2 * oneOf u.1 ≤ most := by
  obtain ⟨h1, h2⟩ := mem_units h; exact ⟨h1, hl _ h1, unitB_in (hl _ h1) (hm _ h1) h2⟩
theorem bunL_ok {most : Int} {l : List Bar} (hl : ∀ b ∈ l, okBar b) (hm : ∀ b ∈ l, oneOf b ≤ most) (hmost : most ≤ 1099511627776) (hlen : (units most l).length ≤ 1000) : okBuns (bunL 0 (units most l)) := by
  refine ⟨by rw [bunL_len]; exact hlen, fun x hx => ?_, bunL_tags _ _⟩; obtain ⟨i, ⟨b, n⟩, h1, h2, rfl⟩ := mem_bunL _ _ _ hx; obtain ⟨_, k2, k3, k4, k5, k6, k7⟩ := unit_in hl hm h1; have hb := k2.2.2.2.1; exact ⟨tag_name (by omega), k2.1, k3, by dsimp only [bun] at *; omega, k6, by dsimp only [bun] at *; omega⟩
theorem massSum_eq : ∀ l : List Bundle, massSum l = sumI (l.map (·.mass)) := by
  refine snoc_ind rfl ?_; intro l s ih; rw [massSum_snoc, ih, List.map_append, sumI_app]
  simp [sumI]
def cntI (k : List UInt8) (b : Bundle) : Int := if b.mark = k then b.count else 0
theorem barsOf_eq (k : List UInt8) : ∀ l : List Bundle, barsOf l k = sumI (l.map (cntI k)) := by
  refine snoc_ind rfl ?_; intro l s ih; rw [barsOf_snoc, ih, List.map_append, sumI_app]; simp only [List.map_cons, List.map_nil, cntI]
  split <;> simp [sumI]
def totB (l : List Bar) : Int := l.foldl (fun a b => a + barMass b) 0
theorem totB_snoc (l : List Bar) (s : Bar) : totB (l ++ [s]) = totB l + barMass s := by simp [totB]
theorem totB_eq : ∀ l : List Bar, totB l = sumI (l.map barMass) := by
  refine snoc_ind rfl ?_; intro l s ih; rw [totB_snoc, ih, List.map_append, sumI_app]
  simp [sumI]
theorem bunL_map {T : Type} (f : Bundle → T) (g : Unit2 → T) (hfg : ∀ k u, f (bun k u) = g u) : ∀ (l : List Unit2) (k : Nat), (bunL k l).map f = l.map g
  | [], _ => rfl
  | u :: l, k => by rw [bunL, List.map_cons, List.map_cons, hfg, bunL_map f g hfg l]
theorem sum_mulc (c : Int) : ∀ l : List Int, sumI (l.map (fun n => n * c)) = sumI l * c
  | [] => by simp [sumI]
  | x :: l => by rw [List.map_cons, sumI_cons, sumI_cons, sum_mulc c l, Int.add_mul]
theorem sumI_zero : ∀ l : List Int, (∀ x ∈ l, x = 0) → sumI l = 0
  | [], _ => rfl
  | x :: l, h => by rw [sumI_cons, sumI_zero l (fun y hy => h y (by simp [hy])), h x (by simp)]; rfl
theorem sum_units (most : Int) (g : Unit2 → Int) (f : Bar → Int) : ∀ l : List Bar, (∀ b ∈ l, sumI ((unitsB most b).map g) = f b) → sumI ((units most l).map g) = sumI (l.map f)
  | [], _ => by simp [units, sumI]
  | b :: l, h => by
    have h1 := sum_units most g f l (fun x hx => h x (by simp [hx])); have h2 := h b (by simp); simp only [units, List.map_cons, List.flatten_cons, List.map_append, sumI_app] at h1 ⊢; rw [h1, h2, sumI_cons]
theorem sumB {most : Int} {b : Bar} (h : okBar b) (hm : oneOf b ≤ most) : sumI (chunks (most / oneOf b) b.count) = b.count := by
  have hc := h.2.2.1; exact (chunks_sum (whole_pos h hm).1 b.count.toNat b.count (by omega)).1
theorem sumB_mass {most : Int} {b : Bar} (h : okBar b) (hm : oneOf b ≤ most) : sumI ((unitsB most b).map (fun u => u.2 * oneOf u.1)) = barMass b := by
  rw [unitsB, List.map_map]; have := sum_mulc (oneOf b) (chunks (most / oneOf b) b.count); rw [sumB h hm] at this; exact this
def cntU (k : List UInt8) (u : Unit2) : Int := if u.1.mark = k then u.2 else 0
def cntB (k : List UInt8) (b : Bar) : Int := if b.mark = k then b.count else 0
theorem sumB_cnt {most : Int} {b : Bar} (k : List UInt8) (h : okBar b) (hm : oneOf b ≤ most) : sumI ((unitsB most b).map (cntU k)) = cntB k b := by
  rw [unitsB, List.map_map]
  unfold cntB
  split
  · rename_i e
    have : (cntU k ∘ fun n => (b, n)) = fun n => n := by funext n; simp only [Function.comp, cntU, if_pos e]
    rw [this, List.map_id', sumB h hm]
  · rename_i e
    refine sumI_zero _ fun x hx => ?_; obtain ⟨n, _, rfl⟩ := List.mem_map.1 hx; simp only [Function.comp, cntU, if_neg e]
theorem sum_mark {k : List UInt8} {b : Bar} : ∀ {l : List Bar}, l.Pairwise (fun a b => a.mark ≠ b.mark) → b ∈ l → b.mark = k → sumI (l.map (cntB k)) = b.count
  | [], _, hb, _ => by cases hb
  | x :: l, h, hb, hk => by
    rw [List.pairwise_cons] at h; rw [List.map_cons, sumI_cons]
    rcases List.mem_cons.1 hb with rfl | hb
    · rw [sumI_zero _ (fun y hy => by
        obtain ⟨c, hc, rfl⟩ := List.mem_map.1 hy
        exact if_neg (fun e => h.1 c hc (by rw [hk, e])))]
      rw [cntB, if_pos hk]; omega
    · rw [sum_mark h.2 hb hk, cntB, if_neg (fun e => h.1 b hb (by rw [hk, e]))]; omega
structure Made (l : List Bar) (most : Int) (V : List Bundle) : Prop where
  sched : okSched l
  rng : 1 ≤ most ∧ most ≤ 1099511627776
  one : ∀ b ∈ l, oneOf b ≤ most
  len : (units most l).length ≤ 1000
  val : V = bunL 0 (units most l)
theorem Made.ok {l most V} (M : Made l most V) : okBuns V := by rw [M.val]; exact bunL_ok M.sched.2.1 M.one M.rng.2 M.len
theorem Made.mass {l most V} (M : Made l most V) : massSum V = totB l := by
  rw [massSum_eq, totB_eq, M.val, bunL_map _ (fun u : Unit2 => u.2 * oneOf u.1) (fun k u => rfl)]; exact sum_units most _ _ l (fun b hb => sumB_mass (M.sched.2.1 b hb) (M.one b hb))
theorem Made.bars {l most V} (M : Made l most V) (k : List UInt8) : barsOf V k = sumI (l.map (cntB k)) := by
  rw [barsOf_eq, M.val, bunL_map _ (cntU k) (fun j u => rfl)]; exact sum_units most _ _ l (fun b hb => sumB_cnt k (M.sched.2.1 b hb) (M.one b hb))
theorem Made.count {l most V} (M : Made l most V) {b : Bar} (hb : b ∈ l) : barsOf V b.mark = b.count := by rw [M.bars, sum_mark M.sched.2.2 hb rfl]
theorem Made.bun {l most V} (M : Made l most V) {x : Bundle} (hx : x ∈ V) : ∃ b, b ∈ l ∧ okBar b ∧ b.mark = x.mark ∧ 1 ≤ x.count ∧ x.count ≤ most / oneOf b ∧ x.mass = x.count * oneOf b ∧ 0 ≤ x.mass ∧ x.mass ≤ most ∧ x.count ≤ b.count := by
  rw [M.val] at hx; obtain ⟨i, ⟨b, n⟩, h1, h2, rfl⟩ := mem_bunL _ _ _ hx; obtain ⟨k1, k2, k3, k4, k5, k6, k7⟩ := unit_in M.sched.2.1 M.one h1; exact ⟨b, k1, k2, rfl, k3, k4, rfl, k6, k7, k5⟩
theorem masM_in {l : List Bar} (h : okSched l) {b : Bar} (hb : b ∈ l) : mget (masM l) b.mark = some (oneOf b) := by
  refine mget_of_mem ?_ ?_
  · simp only [masM, List.map_map]; rw [List.Nodup, List.pairwise_map]; exact h.2.2
  · simp only [masM, List.mem_map, Prod.mk.injEq]; exact ⟨b, hb, rfl, rfl⟩
theorem Made.fndNil {l most V} (M : Made l most V) {x : Bundle} (hx : x ∈ V) : find2 l x = [] := by
  obtain ⟨b, h1, h2, h3, h4, h5, h6, _⟩ := M.bun hx
  unfold find2
  rw [← h3, masM_in M.sched h1]; exact if_pos h6
theorem flat_none {T U : Type} (f : T → List U) (l : List T) (h : ∀ x ∈ l, f x = []) : (l.map f).flatten = [] := by
  rw [List.flatten_eq_nil_iff]; intro q hq; obtain ⟨x, hx, rfl⟩ := List.mem_map.1 hq; exact h x hx
theorem find1_eq {V : List Bundle} {b : Bar} (h : barsOf V b.mark = b.count) : find1 V b = [] := by
  rw [find1, h, if_neg (by omega), if_neg (by omega)]
theorem Made.check {l most V} (M : Made l most V) : checkP l V = [] := by
  rw [checkP, fnd1, fnd2, flat_none _ _ (fun b hb => find1_eq (M.count hb)), flat_none _ _ (fun x hx => M.fndNil hx)]; rfl
theorem chunks_full {w : Int} (hw : 0 < w) : ∀ (n : Nat) (left : Int), left = n → (chunks w left).Pairwise (fun a _ => a = w) := by
  intro n
  induction n using Nat.strongRecOn with
  | _ n ih =>
    intro left hl
    by_cases h : 0 < left
    · have i1 := ih (left - min left w).toNat (by omega) (left - min left w) (by omega); rw [chunks_pos h hw, List.pairwise_cons]; refine ⟨fun y hy => ?_, i1⟩; have := (chunks_sum hw (left - min left w).toNat (left - min left w) (by omega)).2.1 y hy; omega
    · rw [chunks_zero w (by omega)]; exact List.Pairwise.nil
theorem units_full {most : Int} : ∀ (l : List Bar), (∀ b ∈ l, okBar b) → (∀ b ∈ l, oneOf b ≤ most) → l.Pairwise (fun a b => a.mark ≠ b.mark) → (units most l).Pairwise (fun u v => u.1.mark = v.1.mark → u.2 = most / oneOf u.1)
  | [], _, _, _ => by simp [units]
  | b :: l, h, hm, hp => by
    rw [List.pairwise_cons] at hp; have i1 := units_full l (fun x hx => h x (by simp [hx])) (fun x hx => hm x (by simp [hx])) hp.2; have hb := h b (by simp); have hc := hb.2.2.1
    have e : units most (b :: l) = unitsB most b ++ units most l := by simp [units]
    rw [e, List.pairwise_append]; refine ⟨?_, i1, fun u hu v hv ek => ?_⟩
    · rw [unitsB, List.pairwise_map]; refine List.Pairwise.imp ?_ (chunks_full (whole_pos hb (hm b (by simp))).1 b.count.toNat b.count (by omega)); intro x y h _; exact h
    · simp only [unitsB, List.mem_map] at hu; obtain ⟨n, _, rfl⟩ := hu; exact absurd ek (hp.1 v.1 (mem_units hv).1)
theorem pairwise_next {T : Type} {R : T → T → Prop} : ∀ {l : List T} {i : Nat} {x y : T}, l.Pairwise R → l[i]? = some x → l[i + 1]? = some y → R x y
  | [], _, _, _, _, h, _ => by simp at h
  | a :: l, 0, x, y, hp, h, h' => by
    simp only [List.getElem?_cons_zero, Option.some.injEq] at h; rw [List.getElem?_cons_succ] at h'; rw [List.pairwise_cons] at hp; rw [← h]; exact hp.1 y (List.mem_of_getElem? h')
  | a :: l, i + 1, x, y, hp, h, h' => by
    rw [List.getElem?_cons_succ] at h h'; rw [List.pairwise_cons] at hp; exact pairwise_next hp.2 h h'
theorem Made.next {l most V} (M : Made l most V) {i : Nat} {x y : Bundle} {b : Bar} (hx : V[i]? = some x) (hy : V[i + 1]? = some y) (hm : x.mark = y.mark) (hb : b ∈ l) (hk : b.mark = x.mark) : most < x.mass + oneOf b := by
  rw [M.val, bunL_get] at hx hy; obtain ⟨⟨c, n⟩, h1, rfl⟩ := Option.map_eq_some_iff.1 hx; obtain ⟨⟨d, m⟩, h2, rfl⟩ := Option.map_eq_some_iff.1 hy; have hf := pairwise_next (units_full l M.sched.2.1 M.one M.sched.2.2) h1 h2 hm
  dsimp only at hf
  obtain ⟨k1, k2, k3, k4, k5, k6, k7⟩ := unit_in M.sched.2.1 M.one (List.mem_of_getElem? h1)
  have hbc : b = c := by
    have h3 := masM_in M.sched hb
    by_cases e : b = c
    · exact e
    · exfalso
      have hp := M.sched.2.2; obtain ⟨p, q, rfl⟩ := List.append_of_mem hb; rw [List.pairwise_append, List.pairwise_cons] at hp
      rcases List.mem_append.1 k1 with h | h
      · exact hp.2.2 c h b (by simp) hk.symm
      · rcases List.mem_cons.1 h with h | h
        · exact e h.symm
        · exact hp.2.1.1 c h hk
  subst hbc
  show most < n * oneOf b + oneOf b
  obtain ⟨o1, _⟩ := one_bd (show okBar b from k2); have h4 := Int.lt_ediv_add_one_mul_self most (show 0 < oneOf b by omega); rw [Int.add_mul, Int.one_mul] at h4; rw [hf]; exact h4
theorem Made.row {l most V} (M : Made l most V) {i : Nat} {x : Bundle} (hx : V[i]? = some x) : ∃ b, l[(markI l x.mark).toNat]? = some b ∧ 0 ≤ markI l x.mark ∧ okBar b ∧ b ∈ l ∧ b.mark = x.mark ∧ x.mass = x.count * oneOf b ∧ x.mass ≤ most ∧ 0 ≤ x.mass ∧ x.count ≤ 1000 ∧ 1 ≤ x.count := by
  obtain ⟨b, h1, h2, h3, h4, h5, h6, h7, h8, h9⟩ := M.bun (List.mem_of_getElem? hx)
  rcases masM_get M.sched x.mark with ⟨_, h⟩ | ⟨g0, c, g1, g2, g3, g4⟩
  · rw [← h3, masM_in M.sched h1] at h; cases h
  · have e : oneOf c = oneOf b := by rw [← h3, masM_in M.sched h1] at g4; exact (Option.some.inj g4).symm
    have := h2.2.2.2.1; exact ⟨c, g1, g0, M.sched.2.1 c g2, g2, g3, by rw [e]; exact h6, h8, h7, by omega, h4⟩
theorem barsOf_mid (p q : List Bundle) (x : Bundle) (k : List UInt8) : barsOf (p ++ x :: q) k = barsOf (p ++ q) k + cntI k x := by
  rw [barsOf_eq, barsOf_eq, List.map_append, List.map_append, List.map_cons, sumI_app, sumI_app, sumI_cons]; omega
theorem fnd1_one {V : List Bundle} {b : Bar} (h1 : barsOf V b.mark < b.count) : ∀ {l : List Bar}, l.Pairwise (fun a b => a.mark ≠ b.mark) → b ∈ l → (∀ c ∈ l, c.mark ≠ b.mark → barsOf V c.mark = c.count) → fnd1 V l = [(1, b.mark)]
  | [], _, hb, _ => by cases hb
  | x :: l, hp, hb, ho => by
    rw [List.pairwise_cons] at hp; rw [fnd1, List.map_cons, List.flatten_cons]
    rcases List.mem_cons.1 hb with rfl | hb
    · rw [flat_none _ l (fun c hc => find1_eq (ho c (by simp [hc]) (fun e => hp.1 c hc e.symm))), find1, if_pos h1]; rfl
    · have h2 := fnd1_one h1 hp.2 hb (fun c hc => ho c (by simp [hc])); rw [fnd1] at h2; rw [h2, find1_eq (ho x (by simp) (hp.1 b hb))]; rfl
theorem Made.others {l most p q} {x : Bundle} (M : Made l most (p ++ x :: q)) {y : Bundle} (hy : y.mark = x.mark ∧ y.count ≤ 0 ∨ (∀ b ∈ l, b.mark ≠ y.mark)) {W : List Bundle} (hW : ∀ k, barsOf W k = barsOf (p ++ q) k + cntI k y) (h0 : 1 ≤ x.count) (hy0 : y.mark = x.mark → y.count = 0) : fnd1 W l = [(1, x.mark)] := by
  obtain ⟨b, h1, h2, h3, _⟩ := M.bun (x := x) (by simp)
  have hz : ∀ c ∈ l, cntI c.mark y = 0 := by
    intro c hc
    unfold cntI
    split
    · rename_i e
      rcases hy with ⟨e1, e2⟩ | hno
      · exact hy0 e1
      · exact absurd e.symm (hno c hc)
    · rfl
  rw [← h3]; refine fnd1_one ?_ M.sched.2.2 h1 (fun c hc hne => ?_)
  · rw [hW, hz b h1]; have e := M.count h1; rw [barsOf_mid, cntI, if_pos h3.symm] at e; omega
  · rw [hW, hz c hc]; have e := M.count hc; rw [barsOf_mid, cntI, if_neg (fun e => hne (by rw [← e, h3]))] at e; omega
theorem okBuns_out {p q : List Bundle} {x : Bundle} (h : okBuns (p ++ x :: q)) : okBuns (p ++ q) := by
  obtain ⟨h1, h2, h3⟩ := h; refine ⟨by simp only [List.length_append, List.length_cons] at h1 ⊢; omega, fun b hb => h2 b ?_, ?_⟩
  · rcases List.mem_append.1 hb with hb | hb <;> simp [hb]
  · exact h3.sublist (List.Sublist.append_left (List.sublist_cons_self x q) p)
theorem Made.out {l most p q} {x : Bundle} (M : Made l most (p ++ x :: q)) : okBuns (p ++ q) ∧ checkP l (p ++ q) = [(1, x.mark)] := by
  refine ⟨okBuns_out M.ok, ?_⟩; obtain ⟨_, _, _, _, h4, _⟩ := M.bun (x := x) (by simp); have h1 := M.others (y := ⟨[], x.mark, 0, 0⟩) (.inl ⟨rfl, Int.le_refl _⟩) (W := p ++ q) (fun k => by simp [cntI]) h4 (fun _ => rfl); rw [checkP, h1, fnd2, flat_none _ _ (fun y hy => M.fndNil (by rcases List.mem_append.1 hy with hy | hy <;> simp [hy]))]; rfl
def heavier : Bundle → Bundle
  | ⟨t, k, n, m⟩ => ⟨t, k, n, (m + 1) % 1099511627777⟩
def renamed (mk : List UInt8) : Bundle → Bundle
  | ⟨t, _, n, m⟩ => ⟨t, mk, n, m⟩
end Go.Proofs.YthpjfkmhpoeojaaGreatDoor
