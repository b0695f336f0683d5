/-
  Part 26 of the proof: functions walked on the abstract machine.
  Conditions: none.
-/
import Derived.Test.YtlpgjlnkfgacbaaGreatDoorX25
set_option linter.unusedSimpArgs false
set_option linter.unusedVariables false
set_option maxRecDepth 100000
set_option maxHeartbeats 1000000
namespace Go.Proofs.YtlpgjlnkfgacbaaGreatDoor
open Go Go.AM
theorem indexFuncBx1 (g : FuncId) (c0 : List AV) (p : Bx → Bool) (hg : ∀ s, Fun Tryz.prog g [.agg (Bx.c s), .sadr c0 0] (AK (bL (p s)) [])) (l : List (Bx)) (hlen : l.length ≤ 140737488355328) :
    Fun Tryz.prog 158 [.sh 6 (l.map Bx.c), .fn (.func g) [] [.sadr c0 0]] (AK (iL (CN p l 0)) []) := by
  refine Fun.of (nt := 19) (rs := [.tmp 4]) Tryz.func158 rfl rfl rfl rfl rfl (Ac fun _ z=>Aa Ae (Ad z (An (Ac fun _ z=>Aa Ab (Aa (A7 Bs) (Aa Ab (Ad z (Ar (AI (ι := {q : List (Bx) × List (Bx) // q.1 ++ q.2 = l ∧ ∀ x ∈ q.1, p x = false}) [] [0, 1, 7] (fun ⟨(pre, suf), _⟩ => [(8, iL (pre.length : Int))]) (fun ⟨(pre, suf), _⟩ => []) (fun ⟨(pre, suf), _⟩ => suf.length) ⟨([], l), rfl, fun x hx => by simp at hx⟩ (.c (.c (.c .n))) AW (Ag) ?_))))))))); rintro ⟨⟨pre, suf⟩, hp, hinv⟩ R0 hR0; dsimp only [cA, nA, lC, lN]
  simp only at hp hinv
  have hpl := Cd hp
  rcases suf with _ | ⟨s, suf⟩
  · rw [List.append_nil] at hp; subst hp; simp only [List.length_nil] at hpl; refine Ac fun _ z=>Aa Ay (Ad z (By (fun c1 => ?_) (fun c1 => ?_)))
    · omega
    refine AO (hR0 _ _ (Ac fun _ z=>Aa Ae (Ad z (Af (Aq ?_)))))
    congr 2; rw [Gh p pre 0 hinv]
  simp only [lC] at hpl; have hidx := Ch hp; refine Ac fun _ z=>Aa Ay (Ad z (By (fun c3 => ?_) (fun c3 => ?_)))
  · refine An (Ar (Ac fun _ z=>Aa Ab (Aa Ae (Ad z (Ac fun _ z=>Aa Ab (Aa Ab (Aa Ab (Aa (AL Bs AB (hl := (by exact AY hidx (by omega)))) (Aa (BF _ Bq AB) (A3 (hF := hg s) (h := Ad z (Ev.c (fun c4 => ?_) (fun c4 => ?_)))))))))))))
    · refine Ac fun _ z=>Aa Ab (Aa Ae (Ad z (Af (hR0 _ _ (Aq ?_)))))
      congr 2; rw [← hp, DD p pre _ 0 hinv, CN, if_pos ‹_›]; omega
    refine As (Ao fun _ z=>Aa A6 (Aa Ab (Ad z (hR0 _ _ (A8 [] [0, 1, 7] ⟨(pre ++ [s], suf), B2 hp, ?_⟩ BX AW (Ag (he := (by simp))) (.c (.c (.c .n))))))))
    intro x hx; simp only [List.mem_append, List.mem_singleton] at hx; rcases hx with hx | rfl
    · exact hinv x hx
    · assumption
  omega
theorem containsFuncBx1 (g : FuncId) (c0 : List AV) (p : Bx → Bool) (hg : ∀ s, Fun Tryz.prog g [.agg (Bx.c s), .sadr c0 0] (AK (bL (p s)) [])) (l : List (Bx)) (hlen : l.length ≤ 140737488355328) :
    Fun Tryz.prog 105 [.sh 6 (l.map Bx.c), .fn (.func g) [] [.sadr c0 0]] (AK (bL (decide (∃ x ∈ l, p x = true))) []) := by
  have hd : (decide (∃ x ∈ l, p x = true)) = decide (0 ≤ CN p l 0) := by simp only [Gn p l 0 (Int.le_refl _)]
  rw [hd]; refine Fun.of (nt := 9) (rs := [.tmp 4]) Tryz.func105 rfl rfl rfl rfl rfl (Ac fun _ z=>Aa Ae (Ad z (Ac fun _ z=>Aa Ab (Aa Ab (A3 (hF := indexFuncBx1 g c0 p hg l hlen) (h := Aa C7 (Aa Ae (Ad z (Af (Aq ?_)))))))))); rfl
theorem boxContG_fun (a b : Bx) : Fun Tryz.prog 112 [.agg a.c, .agg b.c] (AK (.tup [bL (decide ((C5 a ∧ C5 b) ∧ EU a b)), iL (if C5 a ∧ C5 b then 0 else 1)]) []) := by
  have q0 : C5 a ∧ C5 b → decide ((C5 a ∧ C5 b) ∧ EU a b) = decide (EU a b) ∧ (if C5 a ∧ C5 b then (0 : Int) else 1) = 0 := fun h => ⟨decide_eq_decide.2 ⟨fun g => g.2, fun g => ⟨h, g⟩⟩, if_pos h⟩; have q1 : ¬ (C5 a ∧ C5 b) → decide ((C5 a ∧ C5 b) ∧ EU a b) = false ∧ (if C5 a ∧ C5 b then (0 : Int) else 1) = 1 := fun h => ⟨decide_eq_false fun g => h g.1, if_neg h⟩; refine Fun.of (nt := 17) (rs := [.tmp 4, .tmp 5]) Tryz.func112 rfl rfl rfl rfl rfl (Ac fun _ z=>A4 (Be _ true) (A4 (Be _ true) (Aa Ae (Aa Ae (Ad z (An (Ac fun _ z=>Aa (Av _ Bq AB) (A3 (hF := boxValid_fun a) (h := Aa BB (DV Ab (fun c1 => ?_) (fun c1 => ?_)))))))))))
  · refine Ai (A9 (Aa A5 (Ad z (B3 (Ac fun _ z=>Aa Ae (Aa Ae (Ad z (Af (CC ?_))))))))); rw [(q1 (fun h => absurd h.1 ‹_›)).1, (q1 (fun h => absurd h.1 ‹_›)).2]
  refine Aa (Av _ Bq AB) (A3 (hF := boxValid_fun b) (h := Aa BB (Aa Au (Ad z (Cb (fun c2 => ?_) (fun c2 => ?_))))))
  · refine Ac fun _ z=>Aa Ae (Aa Ae (Ad z (Af (CC ?_)))); rw [(q1 (fun h => absurd h.2 ‹_›)).1, (q1 (fun h => absurd h.2 ‹_›)).2]
  refine As (Ac fun _ z=>Aa (Av _ Bq AB) (Aa (Av _ Bq AB) (A3 (hF := boxcont_fun a b) (h := Aa Ae (Aa Ae (Ad z (Af (CC ?_)))))))); rw [(q0 ⟨‹_›, ‹_›⟩).1, (q0 ⟨‹_›, ‹_›⟩).2]
theorem each4a (p b : Bx) {V : Bool} (hc : Fun Tryz.prog 112 [.agg b.c, .agg p.c] (AK (.tup [bL V, iL 0]) [])) : Fun Tryz.prog 111 [.agg b.c, .sadr p.c 0] (AK (bL V) []) := by
  refine Fun.of (nt := 17) (rs := [.tmp 3]) Tryz.func111 rfl rfl rfl rfl rfl (Ac fun _ z=>A4 (Be _ true) (Aa Ae (Ad z (Ac fun _ z=>Aa (Av _ Bq AB) (Aa (BF _ Bq AB) (A3 (hF := hc) (h := Aa Ab (Aa BA (Aa BA (Aa Ae (Aa Ae (Ad z (Ac fun _ z=>Aa Ab (Aa B6 (AP Ab (fun c1 => ?_) (fun c1 => ?_))))))))))))))))
  · refine Aa Ab (Aa A5 (Aa Ae (Ad z (Af (Aq ?_))))); rfl
  omega
theorem each4b (p b : Bx) (hc : Fun Tryz.prog 112 [.agg b.c, .agg p.c] (AK (.tup [bL false, iL 1]) [])) : Fun Tryz.prog 111 [.agg b.c, .sadr p.c 0] (AK (bL false) []) := by
  refine Fun.of (nt := 17) (rs := [.tmp 3]) Tryz.func111 rfl rfl rfl rfl rfl (Ac fun _ z=>A4 (Be _ true) (Aa Ae (Ad z (Ac fun _ z=>Aa (Av _ Bq AB) (Aa (BF _ Bq AB) (A3 (hF := hc) (h := Aa Ab (Aa BA (Aa BA (Aa Ae (Aa Ae (Ad z (Ac fun _ z=>Aa Ab (Aa B6 (AP Ab (fun c1 => ?_) (fun c1 => ?_))))))))))))))))
  · omega
  refine A9 (Aa Au (Aa Ae (Ad z (Af (Aq ?_))))); rfl
def inB (c x : Bx) : Bool := decide ((C5 x ∧ C5 c) ∧ EU x c)
def opB (c x : Bx) : Bool := decide (Fm x c)
theorem each4G_fun (p b : Bx) : Fun Tryz.prog 111 [.agg b.c, .sadr p.c 0] (AK (bL (inB p b)) []) := by
  have e1 : C5 b ∧ C5 p → (if C5 b ∧ C5 p then (0 : Int) else 1) = 0 := fun h => if_pos h; have e2 : ¬ (C5 b ∧ C5 p) → (if C5 b ∧ C5 p then (0 : Int) else 1) = 1 := fun h => if_neg h; have e3 : ¬ (C5 b ∧ C5 p) → inB p b = false := fun h => decide_eq_false fun g => h g.1; have hc := boxContG_fun b p
  unfold inB at e3 ⊢
  by_cases hok : C5 b ∧ C5 p
  · rw [e1 hok] at hc; exact each4a p b hc
  rw [e2 hok, e3 hok] at hc; rw [e3 hok]; exact each4b p b hc
def inP (bs hs : List Bx) (c : Bx) : Bool := decide ((∃ x ∈ bs, inB c x = true) ∧ ¬ ∃ x ∈ hs, opB c x = true)
theorem inP_t {bs hs : List Bx} {c : Bx} (h1 : ∃ x ∈ bs, inB c x = true) (h2 : ¬ ∃ x ∈ hs, opB c x = true) : inP bs hs c = true := decide_eq_true ⟨h1, h2⟩
theorem inP_f1 {bs hs : List Bx} {c : Bx} (h1 : ¬ ∃ x ∈ bs, inB c x = true) : inP bs hs c = false := decide_eq_false fun h => h1 h.1
theorem inP_f2 {bs hs : List Bx} {c : Bx} (h1 : ∃ x ∈ hs, opB c x = true) : inP bs hs c = false := decide_eq_false fun h => h.2 h1
def bxV (b : Bx) : Value := .agg #[.int .i64 b.lx, .int .i64 b.ly, .int .i64 b.lz, .int .i64 b.hx, .int .i64 b.hy, .int .i64 b.hz]
theorem sgA_at {l : List Int} {n : Nat} {a b : Int} (h1 : 1 ≤ n) (ha : l[n - 1]? = some a) (hb : l[n]? = some b) : Ew l (n - 1) = (a, b) := by
  unfold Ew
  rw [Nat.sub_add_cancel h1, ha, hb]; rfl
theorem two_at {l : List Int} {n : Nat} (h1 : 1 ≤ n) (h2 : n < l.length) : ∃ a b, l[n]? = some b ∧ l[((n : Int) - 1).toNat]? = some a ∧ Ew l (n - 1) = (a, b) := by
  have ha : l[n - 1]? = some (l[n - 1]'(by omega)) := List.getElem?_eq_getElem _; have hb : l[n]? = some (l[n]'h2) := List.getElem?_eq_getElem _; exact ⟨_, _, hb, by rw [show ((n : Int) - 1).toNat = n - 1 by omega]; exact ha, sgA_at h1 ha hb⟩
theorem pre_next {T : Type} {all pre t : List T} {c : T} (h : all = (pre ++ [c]) ++ t) : ∃ rest, all = pre ++ c :: rest := ⟨t, by rw [h]; simp⟩
def Pfx (all pre : List Bx) (x : Bx) : Prop := ∃ rest, all = pre ++ x :: rest
def Dg (bs hs : List Bx) : List Bx := Ff (inP bs hs) (FJ fX (Cc bs) (bs ++ hs)) (FJ fY (Cc bs) (bs ++ hs)) (FJ fZ (Cc bs) (bs ++ hs))
theorem each_seq (bs hs : List Bx) (hok : Eo bs hs) : SeqA Tryz.prog 60 [.agg [.sh 6 (bs.map Bx.c), .sh 6 (hs.map Bx.c)]] (fun b : Bx => #[bxV b]) (fun l => l = Dg bs hs) (fun _ => True) (Pfx (Dg bs hs)) := by
  obtain ⟨⟨hb1, hb2⟩, hh2, hbo, hho⟩ := id hok; have hhf := hull_fun bs (by omega) hb1 (fun b hb => (hbo b hb).1); obtain ⟨c1, c2, c3⟩ := cuts_ok hok; have x2 := c1.atl.2; have y2 := c2.atl.2; have z2 := c3.atl.2; have x3 := cut_len (f := fX) (h := Cc bs) hb2 hh2; have y3 := cut_len (f := fY) (h := Cc bs) hb2 hh2; have z3 := cut_len (f := fZ) (h := Cc bs) hb2 hh2; have kx := cuts_fun 108 fX each1_fun bs hs (Cc bs) hb2 hh2; have ky := cuts_fun 109 fY each2_fun bs hs (Cc bs) hb2 hh2; have kz := cuts_fun 110 fZ each3_fun bs hs (Cc bs) hb2 hh2
  unfold Dg
  obtain ⟨H, hH⟩ : ∃ H, H = Cc bs := ⟨_, rfl⟩; rw [← hH] at hhf kx ky kz x2 y2 z2 x3 y3 z3 ⊢; obtain ⟨xs, hxs⟩ : ∃ l, l = FJ fX H (bs ++ hs) := ⟨_, rfl⟩; obtain ⟨ys, hys⟩ : ∃ l, l = FJ fY H (bs ++ hs) := ⟨_, rfl⟩; obtain ⟨zs, hzs⟩ : ∃ l, l = FJ fZ H (bs ++ hs) := ⟨_, rfl⟩; rw [← hxs] at kx x2 x3 ⊢; rw [← hys] at ky y2 y3 ⊢; rw [← hzs] at kz z2 z3 ⊢; clear c1 c2 c3 hxs hys hzs hH; obtain ⟨P, hP⟩ : ∃ P, P = inP bs hs := ⟨_, rfl⟩; rw [← hP]; refine SeqA.of (nt := 95) Tryz.func60 rfl rfl rfl rfl rfl ?_; intro l0 S0 J hRnd; dsimp only [cA, nA]; refine Fp fun _ z=>A4 (Be _ true) (Ad z (Fp fun _ z=>Aa (Ap 0 DP CF) (Aa (At CI) (A3 (hF := hhf) (h := Aa Ab (Aa BA (Aa BA (A4 (Bd BS) (AC _ true [_] CK AB (h := Aa Ae (Ad z (FH (Fp fun _ z=>Aa Ab (Aa Dk (Ad z (EvY.cn (fun c1 => ?_) (fun c1 => ?_)))))))))))))))))
  · omega
  refine EvY.skip (Fp fun _ z=>Aa (Av _ FS E7) (Aa (Av _ Bq AB) (A3 (hF := kx) (h := Aa Ae (Ad z (Fp fun _ z=>Aa (Av _ FS E7) (Aa (Av _ Bq AB) (A3 (hF := ky) (h := Aa Ae (Ad z (Fp fun _ z=>Aa (Av _ FS E7) (Aa (Av _ Bq AB) (A3 (hF := kz) (h := Aa Ae (Ad z (Fp fun _ z=>Aa Ae (Ad z (EvY.block (EvY.loopU (κ := {i : Nat // 1 ≤ i ∧ i ≤ xs.length}) (fun p => (true, Ct P xs ys zs p.1 1 1)) [0, 1] [1, 2, 6, 7, 8] (fun ⟨i, _⟩ => [(9, iL (i : Int))]) (fun ⟨i, _⟩ => [(0, ⟨false, 24, 2, [[.sh 6 ((bs).map Bx.c), .sh 6 ((hs).map Bx.c)]], true⟩), (1, ⟨false, 100, 6, [[iL (H.lx), iL (H.ly), iL (H.lz), iL (H.hx), iL (H.hy), iL (H.hz)]], true⟩)]) (fun ⟨i, _⟩ => xs.length - i) ⟨1, by decide, by omega⟩ (.c (.c (.c (.c (.c .n))))) (Aj (h := (Aj))) (Ag) rfl ?_))))))))))))))))))); rintro ⟨i, hi1, hi2⟩ R0 hR0
  try dsimp only [cA, nA, lC, lN]
  try dsimp only
  by_cases hil : i < xs.length
  rotate_left
  · have hie : i = xs.length := by omega
    refine FH (Fp fun _ z=>Aa Ab (Aa Ab (Aa (A7 AG) (Aa Ay (Ad z (EvY.cd (fun c2 => ?_) (fun c2 => ?_)))))))
    · omega
    refine EvY.exit (hR0 _ _ _ ?_); exact ⟨.inl rfl, fun _ => (by rw [hie]; exact cA_end), fun h => by cases h⟩
  skip; refine FH (Fp fun _ z=>Aa Ab (Aa Ab (Aa (A7 AG) (Aa Ay (Ad z (EvY.cd (fun c3 => ?_) (fun c3 => ?_)))))))
  · refine EvY.skip (FH (EvY.block (Fp fun _ z=>Aa Ae (Ad z (EvY.block (EvY.loopU (κ := {k : Nat // 1 ≤ k ∧ k ≤ ys.length}) (fun p => (true, Ct P xs ys zs i p.1 1)) [0, 1] [1, 2, 6, 7, 8, 9] (fun ⟨k, _⟩ => [(10, iL (k : Int))]) (fun ⟨k, _⟩ => [(0, ⟨false, 24, 2, [[.sh 6 ((bs).map Bx.c), .sh 6 ((hs).map Bx.c)]], true⟩), (1, ⟨false, 100, 6, [[iL (H.lx), iL (H.ly), iL (H.lz), iL (H.hx), iL (H.hy), iL (H.hz)]], true⟩)]) (fun ⟨k, _⟩ => ys.length - k) ⟨1, by decide, by omega⟩ (.c (.c (.c (.c (.c (.c .n)))))) (Aj (h := (Aj))) (Ag) rfl ?_)))))); rintro ⟨k, hk1, hk2⟩ R2 hR2
    try dsimp only [cA, nA, lC, lN]
    try dsimp only
    by_cases hkl : k < ys.length
    rotate_left
    · have hke : k = ys.length := by omega
      refine FH (Fp fun _ z=>Aa Ab (Aa Ab (Aa (A7 AG) (Aa Ay (Ad z (EvY.cd (fun c4 => ?_) (fun c4 => ?_)))))))
      · omega
      refine EvY.exit (hR2 _ _ _ (EvY.region_S fun _ z=>Aa Ab (Aa A6 (Aa Ae (Ad z (hR0 _ _ _ (roundYU [0, 1] [1, 2, 6, 7, 8] ⟨i + 1, by omega, by omega⟩ ?_ (Aj (h := (Aj))) (Ag) (.c (.c (.c (.c (.c .n))))) (by rw [hke]; exact congrArg (Prod.mk true) (cA_y hi1))))))))); skip; all_goals (dsimp only; omega)
    skip; refine FH (Fp fun _ z=>Aa Ab (Aa Ab (Aa (A7 AG) (Aa Ay (Ad z (EvY.cd (fun c5 => ?_) (fun c5 => ?_)))))))
    · refine EvY.skip (FH (EvY.block (Fp fun _ z=>Aa Ae (Ad z (EvY.block (EvY.loopU (κ := {j : Nat // 1 ≤ j ∧ j ≤ zs.length}) (fun p => (true, Ct P xs ys zs i k p.1)) [0, 1] [1, 2, 6, 7, 8, 9, 10] (fun ⟨j, _⟩ => [(11, iL (j : Int))]) (fun ⟨j, _⟩ => [(0, ⟨false, 24, 2, [[.sh 6 ((bs).map Bx.c), .sh 6 ((hs).map Bx.c)]], true⟩), (1, ⟨false, 100, 6, [[iL (H.lx), iL (H.ly), iL (H.lz), iL (H.hx), iL (H.hy), iL (H.hz)]], true⟩)]) (fun ⟨j, _⟩ => zs.length - j) ⟨1, by decide, by omega⟩ (.c (.c (.c (.c (.c (.c (.c .n))))))) (Aj (h := (Aj))) (Ag) rfl ?_)))))); rintro ⟨j, hj1, hj2⟩ R4 hR4
      try dsimp only [cA, nA, lC, lN]
      try dsimp only
      by_cases hjl : j < zs.length
      rotate_left
      · have hje : j = zs.length := by omega
        refine FH (Fp fun _ z=>Aa Ab (Aa Ab (Aa (A7 AG) (Aa Ay (Ad z (EvY.cd (fun c6 => ?_) (fun c6 => ?_)))))))
        · omega
        refine EvY.exit (hR4 _ _ _ (EvY.region_S fun _ z=>Aa Ab (Aa A6 (Aa Ae (Ad z (hR2 _ _ _ (roundYU [0, 1] [1, 2, 6, 7, 8, 9] ⟨k + 1, by omega, by omega⟩ ?_ (Aj (h := (Aj))) (Ag) (.c (.c (.c (.c (.c (.c .n)))))) (by rw [hje]; exact congrArg (Prod.mk true) (cA_z hk1))))))))); skip; all_goals (dsimp only; omega)
      obtain ⟨xa, xb, ux1, ux2, ux3⟩ := two_at hi1 hil; obtain ⟨ya, yb, uy1, uy2, uy3⟩ := two_at hk1 hkl; obtain ⟨za, zb, uz1, uz2, uz3⟩ := two_at hj1 hjl; obtain ⟨c, hc⟩ : ∃ c : Bx, c = ⟨xa, ya, za, xb, yb, zb⟩ := ⟨_, rfl⟩
      have hce : bxOf (Ew xs (i - 1)) (Ew ys (k - 1)) (Ew zs (j - 1)) = c := by rw [ux3, uy3, uz3, hc]; rfl
      have ht1 : (∃ x ∈ bs, inB c x = true) → (¬ ∃ x ∈ hs, opB c x = true) → Ct P xs ys zs i k (j + 1) = Ct P xs ys zs i k j ++ [c] := fun h1 h2 => by have := cA_t (p := P) (xs := xs) (ys := ys) (zs := zs) (i := i) (k := k) hj1 (by rw [hce, hP]; exact inP_t h1 h2); rwa [hce] at this
      have ht2 : (¬ ∃ x ∈ bs, inB c x = true) → Ct P xs ys zs i k (j + 1) = Ct P xs ys zs i k j := fun h1 => cA_f hj1 (by rw [hce, hP]; exact inP_f1 h1); have ht3 : (∃ x ∈ hs, opB c x = true) → Ct P xs ys zs i k (j + 1) = Ct P xs ys zs i k j := fun h1 => cA_f hj1 (by rw [hce, hP]; exact inP_f2 h1)
      have hpx : (∃ x ∈ bs, inB c x = true) → (¬ ∃ x ∈ hs, opB c x = true) → Pfx (Ff P xs ys zs) (Ct P xs ys zs i k j) c := fun h1 h2 => by
        obtain ⟨t, h3⟩ := cA_pre (p := P) (zs := zs) (j := j + 1) hi1 hil hk1 hkl (by omega); rw [ht1 h1 h2] at h3; exact pre_next h3
      clear ux3 uy3 uz3; refine FH (Fp fun _ z=>Aa Ab (Aa Ab (Aa (A7 AG) (Aa Ay (Ad z (EvY.cd (fun c7 => ?_) (fun c7 => ?_)))))))
      · refine EvY.skip (FH (EvY.block (EvY.sm (C8 [(0, 0), (0, 0), (2, 2), (3, 7), (4, 15), (0, 0), (0, 0), (7, 64), (8, 224), (9, 480), (0, 0), (0, 0), (12, 2048), (13, 7168), (14, 15360), (15, 32767), (0, 0), (0, 0), (18, 196608), (19, 458752), (0, 0), (0, 0), (22, 3145728), (23, 7340032), (0, 0), (0, 0), (26, 50331648), (27, 117440512), (28, 268369920), (29, 536870911), (0, 0), (31, 2147483647)]) 31 fun _ z=>Ak Ab (Ak Ab (Ak BV (Ak (AL AG Ah (hl := (by exact AY ux2 (by omega)))) (Ak (Bc Al) (Ak Ab (Ak Ab (Ak BV (Ak (AL AG Ah (hl := (by exact AY uy2 (by omega)))) (Ak (Bc Al) (Ak Ab (Ak Ab (Ak BV (Ak (AL AG Ah (hl := (by exact AY uz2 (by omega)))) (Ak (Bc Al) (Ak (Bj _ AJ BH) (Ak Ab (Ak Ab (Ak (AL AG Ah (hl := (by exact AY ux1 (by omega)))) (Ak (Bc Al) (Ak Ab (Ak Ab (Ak (AL AG Ah (hl := (by exact AY uy1 (by omega)))) (Ak (Bc Al) (Ak Ab (Ak Ab (Ak (AL AG Ah (hl := (by exact AY uz1 (by omega)))) (Ak (Bc Al) (Ak (Bj _ AJ BH) (Ak (Bj _ BS am_pl100) (Gs [_] (Bd BS) (h := Bz [_, _, _] (h := AC _ true [_, _] CK AB (h := Ad z ?_)))))))))))))))))))))))))))))))))))); obtain ⟨c1, c2, c3, c4, c5, c6⟩ := c
        injection hc with g1 g2 g3 g4 g5 g6
        subst g1 g2 g3 g4 g5 g6; refine Fp fun _ z=>Aa (Ap 0 DP CF) (Aa (At CI) (Aa q.mf (A3 (hF := containsFuncBx1 _ _ (inB ⟨c1, c2, c3, c4, c5, c6⟩) (fun s => each4G_fun ⟨c1, c2, c3, c4, c5, c6⟩ s) bs (by omega)) (h := Aa Ae (Ad z (FH (Fp fun _ z=>Aa Ab (Aa BB (DV Ab (fun c8 => ?_) (fun c8 => ?_))))))))))
        · refine Ai (Ai (Aa A5 (Ad z (EvY.ct (EvY.exit (EvY.region_S fun _ z=>Aa Ab (Aa A6 (Aa Ae (Ad z (hR4 _ _ _ (roundYU [0, 1] [1, 2, 6, 7, 8, 9, 10] ⟨j + 1, by omega, by omega⟩ ?_ (Aj (h := (Aj))) (Ag) (.c (.c (.c (.c (.c (.c (.c .n))))))) (by exact congrArg (Prod.mk true) (ht2 ‹_›).symm)))))))))))); skip; all_goals (dsimp only; omega)
        refine Aa (Ap 1 E6 CF) (Aa (At CI) (Aa q.mf (A3 (hF := containsFuncBx1 _ _ (opB ⟨c1, c2, c3, c4, c5, c6⟩) (fun s => each5_fun ⟨c1, c2, c3, c4, c5, c6⟩ s) hs (by omega)) (h := Aa Au (Ad z (EvY.cd (fun c9 => ?_) (fun c9 => ?_)))))))
        · refine EvY.exit (EvY.region_S fun _ z=>Aa Ab (Aa A6 (Aa Ae (Ad z (hR4 _ _ _ (roundYU [0, 1] [1, 2, 6, 7, 8, 9, 10] ⟨j + 1, by omega, by omega⟩ ?_ (Aj (h := (Aj))) (Ag) (.c (.c (.c (.c (.c (.c (.c .n))))))) (by exact congrArg (Prod.mk true) (ht3 ‹_›).symm))))))); skip; all_goals (dsimp only; omega)
        refine EvY.skip (EvY.yieldT hRnd 2 ⟨c1, c2, c3, c4, c5, c6⟩ (hpx ‹_› ‹_›) rfl fun _ z=>?_); simp only [List.take_succ_cons, List.take_zero]; refine Aa Ab (Aa (Av _ Bq AB) (Ad z (⟨rfl, ⟨[_], rfl, rfl⟩, Nat.le_of_ble_eq_true rfl, ?_, ?_⟩)))
        · refine SeqL.k fun _ z=>?_; simp only [List.drop_succ_cons, List.drop_zero, St.put]; refine Aa q.nott (Ad z (EvY.cf (EvY.skip (EvY.region_S fun _ z=>Aa Ab (Aa A6 (Aa Ae (Ad z (hR4 _ _ _ (roundYU [0, 1] [1, 2, 6, 7, 8, 9, 10] ⟨j + 1, by omega, by omega⟩ ?_ (Aj (h := (Aj))) (Ag) (.c (.c (.c (.c (.c (.c (.c .n))))))) (by exact congrArg (Prod.mk true) (ht1 ‹_› ‹_›).symm)))))))))); skip; all_goals (dsimp only; omega)
        refine SeqL.k fun _ z=>?_; simp only [List.drop_succ_cons, List.drop_zero, St.put]; refine Aa q.notf (Ad z (EvY.ct (EvY.ret (hR4 _ _ _ (hR2 _ _ _ (hR0 _ _ _ ?_)))))); exact ⟨.inr rfl, fun h => (by cases h), fun _ => trivial⟩
      omega
    omega
  omega
theorem volume1_seq (bs hs : List Bx) (hok : Eo bs hs) : SeqR Tryz.prog 59 [.sadr [.sh 6 (bs.map Bx.c), .sh 6 (hs.map Bx.c)] 0] [] 0 (fun b : Bx => #[bxV b]) (fun l => l = Dg bs hs) (fun _ => True) (Pfx (Dg bs hs)) := by
  refine SeqR.of_handS (nt := 6) 2 Tryz.func59 rfl rfl rfl rfl rfl rfl rfl (each_seq bs hs hok) ?_; intro l K hK; simp only [List.take_succ_cons, List.take_zero]; exact Aa (BF _ FS E7) (Aa Ab (AD (hK _ ⟨rfl, rfl, rfl⟩)))
theorem cells_mem {p : Bx → Bool} {X Y Z : List (Int × Int)} {b : Bx} (h : b ∈ DO p X Y Z) : ∃ x ∈ X, ∃ y ∈ Y, ∃ z ∈ Z, b = bxOf x y z := by
  unfold DO DU DG at h
  simp only [List.mem_flatMap, List.mem_filter, List.mem_map] at h; obtain ⟨x, hx, y, hy, ⟨z, hz, e⟩, _⟩ := h; exact ⟨x, hx, y, hy, z, hz, e.symm⟩
theorem CutOK.seg {T pts : List Int} {lo hi : Int} (h : CutOK T pts lo hi) {s : Int × Int} (hs : s ∈ Dy T (T.length - 1)) : s.1 < s.2 ∧ lo ≤ s.1 ∧ s.2 ≤ hi := by
  refine ⟨h.segs.1 s hs, ?_⟩; have h2 := h.atl.2; obtain ⟨i, hi, rfl⟩ := List.mem_map.1 hs; have hi2 := List.mem_range.1 hi; have e1 : T[i]? = some (T[i]'(by omega)) := List.getElem?_eq_getElem _; have e2 : T[i + 1]? = some (T[i + 1]'(by omega)) := List.getElem?_eq_getElem _; rw [e1, e2]; exact ⟨((h.mem _).1 (List.mem_of_getElem? e1)).2.1, ((h.mem _).1 (List.mem_of_getElem? e2)).2.2⟩
theorem cell_bd {bs hs : List Bx} (h : Eo bs hs) {b : Bx} (hb : b ∈ Dg bs hs) : (-1048576 ≤ b.lx ∧ b.lx < b.hx ∧ b.hx ≤ 1048576) ∧ (-1048576 ≤ b.ly ∧ b.ly < b.hy ∧ b.hy ≤ 1048576) ∧ -1048576 ≤ b.lz ∧ b.lz < b.hz ∧ b.hz ≤ 1048576 := by
  obtain ⟨c1, c2, c3⟩ := cuts_ok h; have g := (hull_ok h).bd; obtain ⟨x, hx, y, hy, z, hz, rfl⟩ := cells_mem hb; have s1 := c1.seg hx; have s2 := c2.seg hy; have s3 := c3.seg hz
  unfold bxOf
  dsimp only
  omega
theorem vol_nn {b : Bx} (h1 : b.lx < b.hx) (h2 : b.ly < b.hy) (h3 : b.lz < b.hz) : 0 ≤ volB b := Int.mul_nonneg (Int.mul_nonneg (by omega) (by omega)) (by omega)
theorem sum_nn : ∀ {l : List Bx}, (∀ b ∈ l, 0 ≤ volB b) → 0 ≤ C9 l
  | [], _ => Int.le_refl _
  | a :: l, h => by
    have h1 := h a (by simp); have h2 := sum_nn (l := l) fun b hb => h b (by simp [hb])
    have e : C9 (a :: l) = volB a + C9 l := by simp [C9]
    omega
theorem cells_le {bs hs : List Bx} (h : Eo bs hs) : 0 ≤ C9 (Dg bs hs) ∧ C9 (Dg bs hs) ≤ 9223372036854775808 := by
  obtain ⟨c1, c2, c3⟩ := cuts_ok h; have g := (hull_ok h).bd; have gl := (hull_ok h).lt; obtain ⟨u1, l1⟩ := c1.segs; obtain ⟨u2, l2⟩ := c2.segs; obtain ⟨u3, l3⟩ := c3.segs; have hs := sumX_le (p := inP bs hs) u2 u3 u1; rw [l1, l2, l3] at hs; have m1 := mul_bd (k := (Cc bs).hx - (Cc bs).lx) (a := (Cc bs).hy - (Cc bs).ly) (K := 2097152) (A := 2097152) (by omega) (by omega) (by omega) (by omega); have m2 := mul_bd (k := ((Cc bs).hx - (Cc bs).lx) * ((Cc bs).hy - (Cc bs).ly)) (a := (Cc bs).hz - (Cc bs).lz) (K := 4398046511104) (A := 2097152) m1.1 (by have := m1.2; omega) (by omega) (by omega)
  unfold Dg Ff
  omega
theorem pfx_bd {bs hs : List Bx} (h : Eo bs hs) {pre : List Bx} {b : Bx} (hb : Pfx (Dg bs hs) pre b) : 0 ≤ C9 pre ∧ 0 ≤ volB b ∧ C9 pre + volB b ≤ 9223372036854775808 ∧ b ∈ Dg bs hs ∧ ∀ x ∈ pre, x ∈ Dg bs hs := by
  obtain ⟨rest, e⟩ := hb
  have hv : ∀ x ∈ Dg bs hs, 0 ≤ volB x := fun x hx => by
    obtain ⟨⟨_, g1, _⟩, ⟨_, g2, _⟩, _, g3, _⟩ := cell_bd h hx; exact vol_nn g1 g2 g3
  have h1 := cells_le h
  have m1 : b ∈ Dg bs hs := by rw [e]; simp
  have m2 : ∀ x ∈ pre, x ∈ Dg bs hs := fun x hx => by rw [e]; simp [hx]
  have n1 := sum_nn (l := pre) fun x hx => hv x (m2 x hx); have n2 := sum_nn (l := rest) fun x hx => hv x (by rw [e]; simp [hx]); have n3 := hv b m1
  have e2 : C9 (Dg bs hs) = C9 pre + (volB b + C9 rest) := by
    rw [e, sumV_app]
    simp [C9]
  exact ⟨n1, n3, by omega, m1, m2⟩
def volE (bs hs : List Bx) : Int := if Eo bs hs then (if C9 (Dg bs hs) > 1152921504606846976 then 5 else 0) else 1
def volV (bs hs : List Bx) : Int := if volE bs hs = 0 then C9 (Dg bs hs) else 0
theorem vol_1 {bs hs : List Bx} (h : ¬ Eo bs hs) : volV bs hs = 0 ∧ volE bs hs = 1 := by
  have e : volE bs hs = 1 := if_neg h; exact ⟨if_neg (by omega), e⟩
theorem vol_5 {bs hs : List Bx} (h : Eo bs hs) (h2 : C9 (Dg bs hs) > 1152921504606846976) : volV bs hs = 0 ∧ volE bs hs = 5 := by
  have e : volE bs hs = 5 := (if_pos h).trans (if_pos h2); exact ⟨if_neg (by omega), e⟩
theorem vol_0 {bs hs : List Bx} (h : Eo bs hs) (h2 : ¬ C9 (Dg bs hs) > 1152921504606846976) : volV bs hs = C9 (Dg bs hs) ∧ volE bs hs = 0 := by
  have e : volE bs hs = 0 := (if_pos h).trans (if_neg h2); exact ⟨if_pos e, e⟩
theorem volume_fun (bs hs : List Bx) (hb : bs.length ≤ 140737488355328) (hh : hs.length ≤ 140737488355328) : Fun Tryz.prog 32 [.agg [.sh 6 (bs.map Bx.c), .sh 6 (hs.map Bx.c)]] (AK (.tup [iL (volV bs hs), iL (volE bs hs)]) []) := by
  refine Fun.ofT (nt := 43) (rs := [.tmp 2, .tmp 3]) Tryz.func32 rfl rfl rfl rfl rfl (EvT.sr fun K hK => A4 (Be _ true) (Aa Ae (Aa Ae (Ad hK (EvT.split (Ac fun K hK => Aa (Av _ FS E7) (A3 (hF := solValid_fun bs hs (by omega) (by omega)) (h := Aa BB (Ad hK (Cb (fun c1 => ?_) (fun c1 => ?_)))))))))))
  · refine Ac fun K hK => Aa Ae (Aa Ae (Ad hK (Af (CC ?_)))); rw [(vol_1 ‹¬ Eo bs hs›).1, (vol_1 ‹¬ Eo bs hs›).2]
  refine As ?_; have hok : Eo bs hs := ‹_›; refine EvT.sr fun K hK => A4 (Bd am_ze112) (Ad hK (EvT.ofB (EvB.weaken (Wk.frzv 1 [_]) (EvB.sr fun K hK => Aa q.mf (Ad hK (EvB.weaken (WkU [1] [] [(9, .fn (.func 59) [] [.sadr [.sh 6 (bs.map Bx.c), .sh 6 (hs.map Bx.c)] 0]), (4, .adr 0 0 0)] [(0, ⟨false, 112, 1, [[.lit (.int .u64 (C9 []))]], true⟩)] .n (Aj) (Ag (h := (Ag)))) ?_)))))); dsimp only [cA, nA, lC, lN]; refine EvB.rangeA (α := Bx) (enc := bxV) (N := Pfx (Dg bs hs)) (K := 1) [] (fun pre => [(0, ⟨false, 112, 1, [[.lit (.int .u64 (C9 pre))]], true⟩)]) (fun _ _ => False) (volume1_seq bs hs hok) rfl rfl rfl (by decide) AW (h0_app (m := []) rfl) (fun pre r hr => by rcases r with _ | _ | _ | r <;> first | exact ⟨_, rfl⟩ | omega) (stays.c (stays.nil 1) rfl) (by decide) ?_ ?_ ?_
  · intro l0 m0 pre x hlen
    try dsimp only
    obtain ⟨n1, n2, n3, n4, n5⟩ := pfx_bd hok hlen; have n6 := cell_bd hok n4; clear n4 n5; obtain ⟨x1, x2, x3, x4, x5, x6⟩ := x
    unfold volB at n2 n3
    dsimp only at n2 n3 n6
    have n7 := mul_bd (k := x4 - x1) (a := x5 - x2) (K := 2097152) (A := 2097152) (by omega) (by omega) (by omega) (by omega); obtain ⟨n7a, n7b⟩ := n7; refine EvI.weaken (Wk.unlit 10 [.int .i64 x1, .int .i64 x2, .int .i64 x3, .int .i64 x4, .int .i64 x5, .int .i64 x6] rfl) ?_
    try dsimp only [List.map_cons, List.map_nil]
    refine EvI.region_S fun K hK => A4 (Bd BS) (AC _ true [_] CK AB (h := Ad hK (⟨rfl, rfl, ?_⟩))); refine EvI.block (EvI.region_S fun K hK => Aa (At BN) (Aa (Ap 3 AQ Am) (Aa (Ap 3 AU Ah) (Aa (At Al) (Aa (Ap 0 AR Am) (Aa (Ap 0 AU Ah) (Aa (At Al) (Aa BV (Aa (q.cvu am_un112 am_us3) (Aa (Ap 3 AQ Am) (Aa (Ap 4 Bi Ah) (Aa (At Al) (Aa (Ap 0 AR Am) (Aa (Ap 1 Bi Ah) (Aa (At Al) (Aa BV (Aa (q.cvu am_un112 am_us3) (Aa qu.mulB (Aa (Ap 3 AQ Am) (Aa (Ap 5 Bk Ah) (Aa (At Al) (Aa (Ap 0 AR Am) (Aa (Ap 2 Bk Ah) (Aa (At Al) (Aa BV (Aa (q.cvu am_un112 am_us3) (Aa qu.mulB (Aa qu.addB (AC _ true [_] am_in112 BW (h := Ad hK (roundQ_n (QX := fun _ _ => False) [0] (kR_c (he := (by rw [sumV_snoc]; rfl)) (h := kR_n)) (by decide) (by decide) (leadsB rfl))))))))))))))))))))))))))))))))
  · intro pre hS
    try dsimp only
    subst hS; have hcl := cells_le hok; refine An (Ac fun K hK => Aa (At BN) (Aa Bh (Ad hK (Ax (fun c2 => ?_) (fun c2 => ?_)))))
    · refine Ac fun K hK => Aa Ae (Aa Ae (Ad hK (Af (CC ?_)))); rw [(vol_5 hok ‹_›).1, (vol_5 hok ‹_›).2]
    refine As (Ac fun K hK => Aa (At BN) (Aa (q.cvi Cl am_us112) (Aa Ae (Aa Ae (Ad hK (Af (CC ?_))))))); rw [(vol_0 hok ‹_›).1, (vol_0 hok ‹_›).2]
  exact fun _ _ _ h => h.elim
theorem opens_ax (h b : Bx) : Fm h b ↔ ∀ k, k < 3 → ¬ (loB b k ≥ hiB h k ∨ hiB b k ≤ loB h k) := by
  have h0 : ¬ (loB b 0 ≥ hiB h 0 ∨ hiB b 0 ≤ loB h 0) ↔ b.lx < h.hx ∧ b.hx > h.lx := by show ¬ (b.lx ≥ h.hx ∨ b.hx ≤ h.lx) ↔ _; omega
  have h1 : ¬ (loB b 1 ≥ hiB h 1 ∨ hiB b 1 ≤ loB h 1) ↔ b.ly < h.hy ∧ b.hy > h.ly := by show ¬ (b.ly ≥ h.hy ∨ b.hy ≤ h.ly) ↔ _; omega
  have h2 : ¬ (loB b 2 ≥ hiB h 2 ∨ hiB b 2 ≤ loB h 2) ↔ b.lz < h.hz ∧ b.hz > h.lz := by show ¬ (b.lz ≥ h.hz ∨ b.hz ≤ h.lz) ↔ _; omega
  constructor
  · rintro ⟨g0, g1, g2, g3, g4, g5⟩ k hk
    match k, hk with
    | 0, _ => exact h0.2 ⟨g0, g1⟩
    | 1, _ => exact h1.2 ⟨g2, g3⟩
    | 2, _ => exact h2.2 ⟨g4, g5⟩
  intro g; have e0 := h0.1 (g 0 (by decide)); have e1 := h1.1 (g 1 (by decide)); have e2 := h2.1 (g 2 (by decide)); exact ⟨e0.1, e0.2, e1.1, e1.2, e2.1, e2.2⟩
def opA (h b : Bx) (k : Nat) : Prop := ¬ (loB b k ≥ hiB h k ∨ hiB b k ≤ loB h k)
theorem op_snoc {h b : Bx} {k : Nat} (g : ∀ j, j < k → opA h b j) (h1 : opA h b k) : ∀ j, j < k + 1 → opA h b j := fun j hj => by
  by_cases e : j = k
  · subst e; exact h1
  · exact g j (by omega)
def mtA (a b : Bx) (k : Nat) : Prop := max (loB a k) (loB b k) ≤ min (hiB a k) (hiB b k)
def meetOK (a b : Bx) : Prop := ∀ k, k < 3 → mtA a b k
instance (a b) : Decidable (meetOK a b) := by
  have : meetOK a b ↔ max a.lx b.lx ≤ min a.hx b.hx ∧ max a.ly b.ly ≤ min a.hy b.hy ∧ max a.lz b.lz ≤ min a.hz b.hz := by
    constructor
    · intro h; exact ⟨h 0 (by decide), h 1 (by decide), h 2 (by decide)⟩
    rintro ⟨h0, h1, h2⟩ k hk
    match k, hk with
    | 0, _ => exact h0
    | 1, _ => exact h1
    | 2, _ => exact h2
  exact decidable_of_iff' _ this
def meetB (a b : Bx) : Bx := ⟨max a.lx b.lx, max a.ly b.ly, max a.lz b.lz, min a.hx b.hx, min a.hy b.hy, min a.hz b.hz⟩
def meetV (a b : Bx) : Bx := if meetOK a b then meetB a b else zeroB
theorem meet_t {a b : Bx} (h : meetOK a b) : meetV a b = meetB a b ∧ decide (meetOK a b) = true := ⟨if_pos h, decide_eq_true h⟩
theorem meet_f {a b : Bx} {k : Nat} (hk : k < 3) (h : max (loB a k) (loB b k) > min (hiB a k) (hiB b k)) : meetV a b = zeroB ∧ decide (meetOK a b) = false := by
  have hn : ¬ meetOK a b := fun g => by
    have h1 : max (loB a k) (loB b k) ≤ min (hiB a k) (hiB b k) := g k hk; omega
  exact ⟨if_neg hn, decide_eq_false hn⟩
theorem meet_cont {a b : Bx} (hb : C5 b) : EU a b ↔ meetOK a b ∧ meetB a b = b := by
  obtain ⟨a1, a2, a3, a4, a5, a6⟩ := a; obtain ⟨b1, b2, b3, b4, b5, b6⟩ := b
  unfold C5 at hb
  dsimp only at hb
  constructor
  · intro h
    unfold EU at h
    dsimp only at h
    refine ⟨fun k hk => ?_, ?_⟩
    · match k, hk with
      | 0, _ => show max a1 b1 ≤ min a4 b4; omega
      | 1, _ => show max a2 b2 ≤ min a5 b5; omega
      | 2, _ => show max a3 b3 ≤ min a6 b6; omega
    unfold meetB
    dsimp only
    congr 1 <;> omega
  rintro ⟨_, h⟩
  unfold meetB at h
  injection h with h1 h2 h3 h4 h5 h6
  unfold EU
  dsimp only at *
  omega
def mK (v : Int) (k i : Nat) : Int := if i < k then v else 0
theorem mt_snoc {a b : Bx} {k : Nat} (g : ∀ j, j < k → mtA a b j) (h1 : mtA a b k) : ∀ j, j < k + 1 → mtA a b j := fun j hj => by
  by_cases e : j = k
  · subst e; exact h1
  · exact g j (by omega)
theorem rcuts_fun (h b : Bx) : Fun Tryz.prog 117 [.agg h.c, .agg b.c] (AK (bL (decide (Fm h b))) []) := by
  have hax := opens_ax h b; refine Fun.of (nt := 30) (rs := [.tmp 4]) Tryz.func117 rfl rfl rfl rfl rfl (Ac fun _ z=>A4 (Be _ true) (A4 (Be _ true) (Aa Ae (Ad z (An (Ac fun _ z=>Aa Ae (Ad z (Ar (AI (ι := {k : Nat // k ≤ 3 ∧ ∀ j, j < k → opA h b j}) [0, 1] [2, 3] (fun ⟨k, _⟩ => [(5, iL (k : Int))]) (fun ⟨k, _⟩ => [(0, ⟨false, 100, 6, [[iL (h.lx), iL (h.ly), iL (h.lz), iL (h.hx), iL (h.hy), iL (h.hz)]], true⟩), (1, ⟨false, 100, 6, [[iL (b.lx), iL (b.ly), iL (b.lz), iL (b.hx), iL (b.hy), iL (b.hz)]], true⟩)]) (fun ⟨k, _⟩ => 3 - k) ⟨0, by decide, fun j hj => absurd hj (by omega)⟩ (.c (.c .n)) (Aj (h := (Aj))) (Ag) ?_))))))))); rintro ⟨k, hk, hinv⟩ R0 hR0; dsimp only [cA, nA, lC, lN]
  by_cases hk3 : k < 3
  rotate_left
  · obtain rfl : k = 3 := by omega
    refine An (Ac fun _ z=>Aa Ab (Aa Ay (Ad z (Ax (fun c1 => ?_) (fun c1 => ?_)))))
    · omega
    refine AO (hR0 _ _ (Ac fun _ z=>Aa Ae (Ad z (Af (Aq ?_))))); exact bT (hax.2 (fun j hj => hinv j (by omega)))
  refine An (Ac fun _ z=>Aa Ab (Aa Ay (Ad z (Ax (fun c2 => ?_) (fun c2 => ?_)))))
  · refine As (An (Ar (Ck (C8 [(0, 0), (1, 1), (0, 0), (3, 7), (0, 0), (5, 16), (0, 0), (7, 127), (8, 255), (9, 511), (10, 1023), (11, 2047), (10, 1023), (13, 8191), (10, 1023), (15, 17407), (10, 1023), (17, 131071), (18, 262143), (19, 524287)]) 20 fun _ z=>Ak (Ap 0 AR Am) (Ak (Av _ AF Am) (Ak Ab (B1 (hF := BY _ _ _ k) (h := Ak (Ap 3 AQ Am) (Ak (Av _ AF Am) (Ak Ab (B1 (hF := BY _ _ _ k) (h := Ak C7 (M.bd Ab (fun c3 => ?_) (fun c3 => ?_)))))))))))))
    · refine AE (AE (AE (AE (AE (AE (AE (AE (AE (Ak A5 (Bz [_, _] (h := Ad z (B3 (Ac fun _ z=>Aa Ae (Ad z (Af (hR0 _ _ (Aq ?_))))))))))))))))); exact bF (fun g => (hax.1 g k hk3) (.inl ‹_›))
    refine Ak (Ap 3 AQ Am) (Ak (Av _ AF Am) (Ak Ab (B1 (hF := BY _ _ _ k) (h := Ak (Ap 0 AR Am) (Ak (Av _ AF Am) (Ak Ab (B1 (hF := BY _ _ _ k) (h := Ak BJ (Ak Au (Bz [_, _] (h := Ad z (Ax (fun c4 => ?_) (fun c4 => ?_)))))))))))))
    · refine Ac fun _ z=>Aa Ae (Ad z (Af (hR0 _ _ (Aq ?_)))); exact bF (fun g => (hax.1 g k hk3) (.inr ‹_›))
    refine As (Ao fun _ z=>Aa Ab (Aa A6 (Aa Ae (Ad z (hR0 _ _ (A8 [0, 1] [2, 3] ⟨k + 1, by omega, op_snoc hinv (fun g => g.elim ‹_› ‹_›)⟩ ?_ (Aj (h := (Aj))) (Ag) (.c (.c .n)))))))); skip; all_goals (dsimp only; omega)
  omega
theorem with_0 (a b c n : Int) : Fun Tryz.prog 205 [.agg [iL a, iL b, iL c], iL ((0 : Nat) : Int), iL n] (AK (.agg [iL n, iL b, iL c]) []) := by
  refine Fun.of (nt := 19) (rs := [.cell 6 80]) Tryz.func205 rfl rfl rfl rfl rfl (Ac fun _ z=>A4 (Be _ true) (A4 (Bd AJ) (Ad z (An (Ac fun _ z=>Aa Ab (Ad z (Ar (Ac fun _ z=>Aa B6 (Aa Ae (Ad z (Ax (fun c1 => ?_) (fun c1 => ?_))))))))))))
  · refine Ao fun _ z=>Aa Ab (Aa (Ap 0 AU Ah) (AC _ true [_] Ej Ah (h := Ad z ?_))); show Ev _ _ _ _; refine Ac fun _ z=>Aa (Av _ AF Am) (AC _ true [_] BG Am (h := Ad z (Af (BD (B7 [_, _, _] AF Am BC) (⟨?_, rfl⟩))))); rfl
  omega
theorem with_1 (a b c n : Int) : Fun Tryz.prog 205 [.agg [iL a, iL b, iL c], iL ((1 : Nat) : Int), iL n] (AK (.agg [iL a, iL n, iL c]) []) := by
  refine Fun.of (nt := 19) (rs := [.cell 6 80]) Tryz.func205 rfl rfl rfl rfl rfl (Ac fun _ z=>A4 (Be _ true) (A4 (Bd AJ) (Ad z (An (Ac fun _ z=>Aa Ab (Ad z (Ar (Ac fun _ z=>Aa B6 (Aa Ae (Ad z (Ax (fun c1 => ?_) (fun c1 => ?_))))))))))))
  · omega
  refine Ac fun _ z=>Aa B6 (Aa Ae (Ad z (Ax (fun c2 => ?_) (fun c2 => ?_))))
  · refine Ao fun _ z=>Aa Ab (Aa (Ap 1 Bi Ah) (AC _ true [_] Ej Ah (h := Ad z ?_))); show Ev _ _ _ _; refine Ac fun _ z=>Aa (Av _ AF Am) (AC _ true [_] BG Am (h := Ad z (Af (BD (B7 [_, _, _] AF Am BC) (⟨?_, rfl⟩))))); rfl
  omega
theorem with_2 (a b c n : Int) : Fun Tryz.prog 205 [.agg [iL a, iL b, iL c], iL ((2 : Nat) : Int), iL n] (AK (.agg [iL a, iL b, iL n]) []) := by
  refine Fun.of (nt := 19) (rs := [.cell 6 80]) Tryz.func205 rfl rfl rfl rfl rfl (Ac fun _ z=>A4 (Be _ true) (A4 (Bd AJ) (Ad z (An (Ac fun _ z=>Aa Ab (Ad z (Ar (Ac fun _ z=>Aa B6 (Aa Ae (Ad z (Ax (fun c1 => ?_) (fun c1 => ?_))))))))))))
  · omega
  refine Ac fun _ z=>Aa B6 (Aa Ae (Ad z (Ax (fun c2 => ?_) (fun c2 => ?_))))
  · omega
  refine Ao fun _ z=>Aa Ab (Aa (Ap 2 Bk Ah) (AC _ true [_] Ej Ah (h := Ad z ?_))); show Ev _ _ _ _; refine Ac fun _ z=>Aa (Av _ AF Am) (AC _ true [_] BG Am (h := Ad z (Af (BD (B7 [_, _, _] AF Am BC) (⟨?_, rfl⟩))))); rfl
theorem meetI_fun (a b : Bx) : Fun Tryz.prog 206 [.agg a.c, .agg b.c] (AK (.tup [.agg (meetV a b).c, bL (decide (meetOK a b))]) []) := by
  refine Fun.of (nt := 49) (rs := [.cell 4 100, .tmp 5]) Tryz.func206 rfl rfl rfl rfl rfl (Ac fun _ z=>A4 (Be _ true) (A4 (Be _ true) (A4 (Bd BS) (Aa Ae (Ad z (Ac fun _ z=>A4 (Bd BS) (Ad z (An (Ac fun _ z=>Aa Ae (Ad z (Ar (AI (ι := {k : Nat // k ≤ 3 ∧ ∀ j, j < k → mtA a b j}) [0, 1, 2, 3] [2, 3, 4, 6] (fun ⟨k, _⟩ => [(7, iL (k : Int))]) (fun ⟨k, _⟩ => [(0, ⟨false, 100, 6, [[iL (a.lx), iL (a.ly), iL (a.lz), iL (a.hx), iL (a.hy), iL (a.hz)]], true⟩), (1, ⟨false, 100, 6, [[iL (b.lx), iL (b.ly), iL (b.lz), iL (b.hx), iL (b.hy), iL (b.hz)]], true⟩), (2, ⟨false, 100, 6, [[iL (0), iL (0), iL (0), iL (0), iL (0), iL (0)]], true⟩), (3, ⟨false, 100, 6, [[iL (mK (max a.lx b.lx) k 0), iL (mK (max a.ly b.ly) k 1), iL (mK (max a.lz b.lz) k 2), iL (mK (min a.hx b.hx) k 0), iL (mK (min a.hy b.hy) k 1), iL (mK (min a.hz b.hz) k 2)]], true⟩)]) (fun ⟨k, _⟩ => 3 - k) ⟨0, by decide, fun j hj => absurd hj (by omega)⟩ (.c (.c (.c (.c .n)))) (Aj (h := (Aj (h := (Aj (h := (Aj))))))) (Ag) ?_)))))))))))); rintro ⟨k, hk, hinv⟩ R0 hR0; dsimp only [cA, nA, lC, lN]
  have hk4 : k = 3 ∨ k = 0 ∨ k = 1 ∨ k = 2 := by omega
  rcases hk4 with rfl | rfl | rfl | rfl
  · skip; refine An (Ac fun _ z=>Aa Ab (Aa Ay (Ad z (Ax (fun c1 => ?_) (fun c1 => ?_)))))
    · omega
    refine AO (hR0 _ _ (Ac fun _ z=>Aa (Av _ Bq AB) (AC _ true [_, _, _] CK AB (h := Aa Ae (Ad z (Af (Cv (B7 [_, _, _, _, _, _] Bq AB (DI BC)) (⟨?_, rfl⟩)))))))); rw [(meet_t (fun j hj => hinv j (by omega))).1, (meet_t (fun j hj => hinv j (by omega))).2]; rfl
  · have hk3 : 0 < 3 := by decide
    refine An (Ac fun _ z=>Aa Ab (Aa Ay (Ad z (Ax (fun c2 => ?_) (fun c2 => ?_)))))
    · refine As (An (Ar (Ck (C8 [(0, 0), (1, 1), (0, 0), (3, 7), (0, 0), (5, 16), (0, 0), (7, 127), (8, 255), (0, 0), (10, 512), (0, 0), (12, 3839), (0, 0), (14, 8192), (0, 0), (16, 65279), (17, 130815), (17, 131071), (19, 524287)]) 19 fun _ z=>Ak (Ap 0 AR Am) (Ak (Av _ AF Am) (Ak Ab (B1 (hF := (by exact BY _ _ _ 0)) (h := Ak (Ap 0 AR Am) (Ak (Av _ AF Am) (Ak Ab (B1 (hF := (by exact BY _ _ _ 0)) (h := Ak EI (Ak (Ap 3 AQ Am) (Ak (Av _ AF Am) (Ak Ab (B1 (hF := (by exact BY _ _ _ 0)) (h := Ak (Ap 3 AQ Am) (Ak (Av _ AF Am) (Ak Ab (B1 (hF := (by exact BY _ _ _ 0)) (h := Ak Gt (Ak Ae (Bz [_, _, _, _] (h := Aa Ae (Ad z (An (Ac fun _ z=>Aa Ab (Aa Ab (Aa Bh (Ad z (Ax (fun c3 => ?_) (fun c3 => ?_)))))))))))))))))))))))))))))))
      · refine Ac fun _ z=>Aa (Bj _ BS am_pl100) (AC _ true [_, _, _] CK AB (h := Aa Ae (Ad z (Af (hR0 _ _ (Cv (B7 [_, _, _, _, _, _] Bq AB (DI BC)) (⟨?_, rfl⟩))))))); rw [(meet_f hk3 ‹_›).1, (meet_f hk3 ‹_›).2]; rfl
      refine As (Ac fun _ z=>Aa (Ap 0 AR Am) (Aa (Av _ AF Am) (Aa Ab (Aa Ab (A3 (hF := (by exact with_0 _ _ _ _)) (h := Aa (Ap 0 AR Am) (AC _ true [_, _, _] BG Am (h := Ad z (Ao fun _ z=>Aa (Ap 3 AQ Am) (Aa (Av _ AF Am) (Aa Ab (Aa Ab (A3 (hF := (by exact with_0 _ _ _ _)) (h := Aa (Ap 3 AQ Am) (AC _ true [_, _, _] BG Am (h := Ad z ?_)))))))))))))))); show Ev _ _ _ _; refine Ao fun _ z=>Aa Ab (Aa A6 (Aa Ae (Ad z (hR0 _ _ (A8 [0, 1, 2, 3] [2, 3, 4, 6] ⟨1, by decide, mt_snoc hinv (Int.not_lt.1 ‹_›)⟩ ?_ (Aj (h := (Aj (h := (Aj (h := (Aj))))))) (Ag) (.c (.c (.c (.c .n))))))))); skip; all_goals (dsimp only; omega)
    omega
  · have hk3 : 1 < 3 := by decide
    refine An (Ac fun _ z=>Aa Ab (Aa Ay (Ad z (Ax (fun c4 => ?_) (fun c4 => ?_)))))
    · refine As (An (Ar (Ck (C8 [(0, 0), (1, 1), (0, 0), (3, 7), (0, 0), (5, 16), (0, 0), (7, 127), (8, 255), (0, 0), (10, 512), (0, 0), (12, 3839), (0, 0), (14, 8192), (0, 0), (16, 65279), (17, 130815), (17, 131071), (19, 524287)]) 19 fun _ z=>Ak (Ap 0 AR Am) (Ak (Av _ AF Am) (Ak Ab (B1 (hF := (by exact BY _ _ _ 1)) (h := Ak (Ap 0 AR Am) (Ak (Av _ AF Am) (Ak Ab (B1 (hF := (by exact BY _ _ _ 1)) (h := Ak EI (Ak (Ap 3 AQ Am) (Ak (Av _ AF Am) (Ak Ab (B1 (hF := (by exact BY _ _ _ 1)) (h := Ak (Ap 3 AQ Am) (Ak (Av _ AF Am) (Ak Ab (B1 (hF := (by exact BY _ _ _ 1)) (h := Ak Gt (Ak Ae (Bz [_, _, _, _] (h := Aa Ae (Ad z (An (Ac fun _ z=>Aa Ab (Aa Ab (Aa Bh (Ad z (Ax (fun c5 => ?_) (fun c5 => ?_)))))))))))))))))))))))))))))))
      · refine Ac fun _ z=>Aa (Bj _ BS am_pl100) (AC _ true [_, _, _] CK AB (h := Aa Ae (Ad z (Af (hR0 _ _ (Cv (B7 [_, _, _, _, _, _] Bq AB (DI BC)) (⟨?_, rfl⟩))))))); rw [(meet_f hk3 ‹_›).1, (meet_f hk3 ‹_›).2]; rfl
      refine As (Ac fun _ z=>Aa (Ap 0 AR Am) (Aa (Av _ AF Am) (Aa Ab (Aa Ab (A3 (hF := (by exact with_1 _ _ _ _)) (h := Aa (Ap 0 AR Am) (AC _ true [_, _, _] BG Am (h := Ad z (Ao fun _ z=>Aa (Ap 3 AQ Am) (Aa (Av _ AF Am) (Aa Ab (Aa Ab (A3 (hF := (by exact with_1 _ _ _ _)) (h := Aa (Ap 3 AQ Am) (AC _ true [_, _, _] BG Am (h := Ad z ?_)))))))))))))))); show Ev _ _ _ _; refine Ao fun _ z=>Aa Ab (Aa A6 (Aa Ae (Ad z (hR0 _ _ (A8 [0, 1, 2, 3] [2, 3, 4, 6] ⟨2, by decide, mt_snoc hinv (Int.not_lt.1 ‹_›)⟩ ?_ (Aj (h := (Aj (h := (Aj (h := (Aj))))))) (Ag) (.c (.c (.c (.c .n))))))))); skip; all_goals (dsimp only; omega)
    omega
  have hk3 : 2 < 3 := by decide
  refine An (Ac fun _ z=>Aa Ab (Aa Ay (Ad z (Ax (fun c6 => ?_) (fun c6 => ?_)))))
  · refine As (An (Ar (Ck (C8 [(0, 0), (1, 1), (0, 0), (3, 7), (0, 0), (5, 16), (0, 0), (7, 127), (8, 255), (0, 0), (10, 512), (0, 0), (12, 3839), (0, 0), (14, 8192), (0, 0), (16, 65279), (17, 130815), (17, 131071), (19, 524287)]) 19 fun _ z=>Ak (Ap 0 AR Am) (Ak (Av _ AF Am) (Ak Ab (B1 (hF := (by exact BY _ _ _ 2)) (h := Ak (Ap 0 AR Am) (Ak (Av _ AF Am) (Ak Ab (B1 (hF := (by exact BY _ _ _ 2)) (h := Ak EI (Ak (Ap 3 AQ Am) (Ak (Av _ AF Am) (Ak Ab (B1 (hF := (by exact BY _ _ _ 2)) (h := Ak (Ap 3 AQ Am) (Ak (Av _ AF Am) (Ak Ab (B1 (hF := (by exact BY _ _ _ 2)) (h := Ak Gt (Ak Ae (Bz [_, _, _, _] (h := Aa Ae (Ad z (An (Ac fun _ z=>Aa Ab (Aa Ab (Aa Bh (Ad z (Ax (fun c7 => ?_) (fun c7 => ?_)))))))))))))))))))))))))))))))
    · refine Ac fun _ z=>Aa (Bj _ BS am_pl100) (AC _ true [_, _, _] CK AB (h := Aa Ae (Ad z (Af (hR0 _ _ (Cv (B7 [_, _, _, _, _, _] Bq AB (DI BC)) (⟨?_, rfl⟩))))))); rw [(meet_f hk3 ‹_›).1, (meet_f hk3 ‹_›).2]; rfl
    refine As (Ac fun _ z=>Aa (Ap 0 AR Am) (Aa (Av _ AF Am) (Aa Ab (Aa Ab (A3 (hF := (by exact with_2 _ _ _ _)) (h := Aa (Ap 0 AR Am) (AC _ true [_, _, _] BG Am (h := Ad z (Ao fun _ z=>Aa (Ap 3 AQ Am) (Aa (Av _ AF Am) (Aa Ab (Aa Ab (A3 (hF := (by exact with_2 _ _ _ _)) (h := Aa (Ap 3 AQ Am) (AC _ true [_, _, _] BG Am (h := Ad z ?_)))))))))))))))); show Ev _ _ _ _; refine Ao fun _ z=>Aa Ab (Aa A6 (Aa Ae (Ad z (hR0 _ _ (A8 [0, 1, 2, 3] [2, 3, 4, 6] ⟨3, by decide, mt_snoc hinv (Int.not_lt.1 ‹_›)⟩ ?_ (Aj (h := (Aj (h := (Aj (h := (Aj))))))) (Ag) (.c (.c (.c (.c .n))))))))); skip; all_goals (dsimp only; omega)
  omega
theorem dB {r : Bool} {p : Prop} [Decidable p] (h : r = true ↔ p) : bL r = bL (decide p) := by
  congr 2
  rw [Bool.eq_iff_iff, h, decide_eq_true_eq]
theorem rcont_t (a b : Bx) (hm : Fun Tryz.prog 206 [.agg a.c, .agg b.c] (AK (.tup [.agg (meetB a b).c, bL true]) [])) (hd : EU a b ↔ meetB a b = b) : Fun Tryz.prog 166 [.agg a.c, .agg b.c] (AK (bL (decide (EU a b))) []) := by
  obtain ⟨c, hc⟩ : ∃ c, c = meetB a b := ⟨_, rfl⟩; rw [← hc] at hm hd; obtain ⟨b1, b2, b3, b4, b5, b6⟩ := b; obtain ⟨c1, c2, c3, c4, c5, c6⟩ := c; rw [Bx.mk.injEq] at hd; clear hc; refine Fun.of (nt := 19) (rs := [.tmp 4]) Tryz.func166 rfl rfl rfl rfl rfl (Ac fun K hK => A4 (Be [_, _, _, _, _, _] true) (A4 (Be [_, _, _, _, _, _] true) (Aa Ae (Ad hK ?_)))); clear hK K; refine Ac fun K hK => Aa (Av [_, _, _, _, _, _] Bq AB) (Aa (Av [_, _, _, _, _, _] Bq AB) (A3 (hF := hm) (h := Aa Ab (Aa BA (Aa BA (A4 (Bd BS) (AC [_, _, _, _, _, _] true [_, _] CK AB (h := Aa Ae (Ad hK ?_))))))))); clear hK K; refine Ac fun K hK => Aa Ab (S.bb Ab (fun c1 => ?_) (fun c1 => ?_))
  · refine Aa (Av [_, _, _, _, _, _] Bq AB) (Aa (Av [_, _, _, _, _, _] Bq AB) (Aa (q.s2eql am_eq100 am_eq80 AF Am (am_sq80 _ _ _ _ _ _) (am_sq80 _ _ _ _ _ _)) (Aa A5 (Aa Ae (Ad hK ?_))))); clear hK K; refine Af (Aq ?_); exact dB (by rw [hd]; simp [and_assoc])
  contradiction
theorem rcont_f (a b : Bx) (hm : Fun Tryz.prog 206 [.agg a.c, .agg b.c] (AK (.tup [.agg zeroB.c, bL false]) [])) (hd : ¬ EU a b) : Fun Tryz.prog 166 [.agg a.c, .agg b.c] (AK (bL (decide (EU a b))) []) := by
  obtain ⟨c, hc⟩ : ∃ c, c = zeroB := ⟨_, rfl⟩; rw [← hc] at hm; refine Fun.of (nt := 19) (rs := [.tmp 4]) Tryz.func166 rfl rfl rfl rfl rfl (Ac fun K hK => A4 (Be [_, _, _, _, _, _] true) (A4 (Be [_, _, _, _, _, _] true) (Aa Ae (Ad hK ?_)))); clear hK K; refine Ac fun K hK => Aa (Av [_, _, _, _, _, _] Bq AB) (Aa (Av [_, _, _, _, _, _] Bq AB) (A3 (hF := hm) (h := Aa Ab (Aa BA (Aa BA (A4 (Bd BS) (AC [_, _, _, _, _, _] true [_, _] CK AB (h := Aa Ae (Ad hK ?_))))))))); clear hK K; refine Ac fun K hK => Aa Ab (S.bb Ab (fun c1 => ?_) (fun c1 => ?_))
  · contradiction
  refine Ai (A9 (Aa Au (Aa Ae (Ad hK ?_)))); clear hK K; refine Af (Aq ?_); exact bF hd
theorem rcont_fun (a b : Bx) (hb : C5 b) : Fun Tryz.prog 166 [.agg a.c, .agg b.c] (AK (bL (decide (EU a b))) []) := by
  have hm := meetI_fun a b; have hc := meet_cont (a := a) hb
  by_cases h : meetOK a b
  · rw [(meet_t h).1, (meet_t h).2] at hm; exact rcont_t a b hm ⟨fun g => (hc.1 g).2, fun g => hc.2 ⟨h, g⟩⟩
  rw [show meetV a b = zeroB from if_neg h, decide_eq_false h] at hm; exact rcont_f a b hm (fun g => h (hc.1 g).1)
theorem rin_fun (l : List Bx) (b : Bx) (hb : C5 b) (hlen : l.length ≤ 140737488355328) : Fun Tryz.prog 118 [.sh 6 (l.map Bx.c), .agg b.c] (AK (bL (decide (∃ x ∈ l, EU x b))) []) := by
  refine Fun.of (nt := 18) (rs := [.tmp 4]) Tryz.func118 rfl rfl rfl rfl rfl (Ac fun K hK => A4 (Be [_, _, _, _, _, _] true) (Aa Ae (Ad hK ?_))); clear hK K; refine An (Ac fun K hK => Aa Ae (Ad hK ?_)); clear hK K; refine Ar (AI (ι := {q : List Bx × List Bx // q.1 ++ q.2 = l ∧ ∀ x ∈ q.1, ¬ EU x b}) [0] [0, 3] (fun ⟨(pre, suf), _⟩ => [(5, iL (pre.length : Int))]) (fun ⟨(pre, suf), _⟩ => [(0, ⟨false, 100, 6, [[iL (b.lx), iL (b.ly), iL (b.lz), iL (b.hx), iL (b.hy), iL (b.hz)]], true⟩)]) (fun ⟨(pre, suf), _⟩ => suf.length) ⟨([], l), rfl, fun x hx => by simp at hx⟩ (.c (.c .n)) (Aj) (Ag) ?_); rintro ⟨⟨pre, suf⟩, hp, hinv⟩ R0 hR0; dsimp only [cA, nA, lC, lN]
  simp only at hp hinv
  have hpl := Cd hp
  rcases suf with _ | ⟨s, suf⟩
  · rw [List.append_nil] at hp; simp only [lN] at hpl; refine An (Ac fun K hK => Aa Ab (Aa Ab (Aa (A7 Bs) (Aa Ay (Ad hK ?_))))); clear hK K; refine Ax (fun c1 => ?_) (fun c1 => ?_)
    · omega
    refine AO (hR0 _ _ (Ac fun K hK => Aa Ae (Ad hK ?_))); clear hK K; refine Af (Aq ?_); exact bF (fun ⟨x, hx, h⟩ => hinv x (by rw [hp]; exact hx) h)
  simp only [lC] at hpl; have hidx := Ch hp; refine An (Ac fun K hK => Aa Ab (Aa Ab (Aa (A7 Bs) (Aa Ay (Ad hK ?_))))); clear hK K; refine Ax (fun c2 => ?_) (fun c2 => ?_)
  · refine As (An (Ar (Ck (C8 [(0, 0), (0, 0), (2, 3), (3, 7), (0, 0), (5, 31)]) 6 fun K hK => Ak Ab (Ak Ab (Ak (AL Bs AB (hl := (by exact AY hidx (by omega)))) (Ak (BF [_, _, _, _, _, _] Bq AB) (Ak (Av [_, _, _, _, _, _] Bq AB) (B1 (hF := rcont_fun s b hb) (h := Bz [_] (h := Ad hK ?_)))))))))); clear hK K; refine Ax (fun c3 => ?_) (fun c3 => ?_)
    · refine Ac fun K hK => Aa Ae (Ad hK ?_); clear hK K; refine Af (hR0 _ _ (Aq ?_)); exact bT ⟨s, by rw [← hp]; simp, ‹_›⟩
    refine As (Ao fun K hK => Aa Ab (Aa A6 (Aa Ae (Ad hK ?_)))); clear hK K; refine hR0 _ _ (A8 [0] [0, 3] ⟨(pre ++ [s], suf), B2 hp, ?_⟩ BX (Aj) (Ag (he := (by congr 2; simp))) (.c (.c .n)))
    intro x hx; simp only [List.mem_append, List.mem_singleton] at hx; rcases hx with hx | rfl
    · exact hinv x hx
    · assumption
  omega
def hK (u v : Int) (k i : Nat) : Int := if i < k then u else v
theorem bumpb_take {b0 : Bx} {l : List Bx} {i : Nat} {s : Bx} (hp : l[i]? = some s) : CO b0 (l.take (i + 1)) = bumpB (CO b0 (l.take i)) s := by
  rw [List.take_add_one, hp, Option.toList_some, hullG_snoc]
theorem bumpb_one {b0 : Bx} {l : List Bx} (hp : l[0]? = some b0) : CO b0 (l.take 1) = b0 := by
  rw [bumpb_take hp]
  show bumpB b0 b0 = b0
  unfold bumpB
  simp only [Int.min_self, Int.max_self]
theorem rhull_fun (l : List Bx) (hne : 1 ≤ l.length) (hlen : l.length ≤ 1000) : Fun Tryz.prog 165 [.sh 6 (l.map Bx.c)] (AK (.agg (Cc l).c) []) := by
  obtain ⟨b0, h0⟩ : ∃ b, l[0]? = some b := ⟨_, List.getElem?_eq_getElem (by omega)⟩
  have he : Cc l = CO b0 l := by rw [Cc, h0]; rfl
  rw [he]; obtain ⟨G, hG⟩ : ∃ G : Nat → Bx, ∀ i, G i = CO b0 (l.take i) := ⟨_, fun _ => rfl⟩
  have hgs : ∀ i p, l[i]? = some p → G (i + 1) = bumpB (G i) p := fun i p hp => by rw [hG, hG]; exact bumpb_take hp
  have hg1 : G 1 = b0 := (hG 1).trans (bumpb_one h0)
  have hgl : CO b0 l = G l.length := by rw [hG, List.take_length]
  rw [hgl]; clear hG hgl he; obtain ⟨b1, b2, b3, b4, b5, b6⟩ := b0; refine Fun.of (nt := 54) (rs := [.cell 2 100]) Tryz.func165 rfl rfl rfl rfl rfl (Ac fun K hK => A4 (Bd BS) (Ad hK ?_)); clear hK K; refine Ac fun K hK => Aa Ab (Aa (AL Bs AB (hl := (by exact AY h0 (by omega)))) (Aa (BF [_, _, _, _, _, _] Bq AB) (A4 (Bd BS) (AC [_, _, _, _, _, _] true [_] CK AB (h := Ad hK ?_))))); clear hK K; refine An (Ac fun K hK => Aa Ae (Ad hK ?_)); clear hK K; refine Ar (AI (ι := {i : Nat // 1 ≤ i ∧ i ≤ l.length}) [0, 1] [0, 2, 3] (fun ⟨i, _⟩ => [(4, iL (i : Int))]) (fun ⟨i, _⟩ => [(0, ⟨false, 100, 6, [[iL (0), iL (0), iL (0), iL (0), iL (0), iL (0)]], true⟩), (1, ⟨false, 100, 6, [[iL ((G i).lx), iL ((G i).ly), iL ((G i).lz), iL ((G i).hx), iL ((G i).hy), iL ((G i).hz)]], true⟩)]) (fun ⟨i, _⟩ => l.length - i) ⟨1, by decide, hne⟩ (.c (.c (.c .n))) (Aj (h := (Aj (he := (by rw [hg1]))))) (Ag) ?_); rintro ⟨i, hi1, hi2⟩ R0 hR0; dsimp only [cA, nA, lC, lN]
  by_cases hil : i < l.length
  rotate_left
  · have hie : i = l.length := by omega
    subst hie; refine An (Ac fun K hK => Aa Ab (Aa Ab (Aa (A7 Bs) (Aa Ay (Ad hK ?_))))); clear hK K; refine Ax (fun c1 => ?_) (fun c1 => ?_)
    · omega
    refine AO (hR0 _ _ (Ac fun K hK => Aa (Av [_, _, _, _, _, _] Bq AB) (AC [_, _, _, _, _, _] true [_] CK AB (h := Ad hK ?_)))); clear hK K; refine Af (BD (B7 [_, _, _, _, _, _] Bq AB BC) (⟨?_, rfl⟩)); rfl
  obtain ⟨⟨s1, s2, s3, s4, s5, s6⟩, hpi⟩ : ∃ p, l[i]? = some p := ⟨_, List.getElem?_eq_getElem hil⟩; have hgn := hgs i _ hpi; obtain ⟨g, hg⟩ : ∃ g, g = G i := ⟨_, rfl⟩; rw [← hg] at hgn ⊢; obtain ⟨g1, g2, g3, g4, g5, g6⟩ := g; refine An (Ac fun K hK => Aa Ab (Aa Ab (Aa (A7 Bs) (Aa Ay (Ad hK ?_))))); clear hK K; refine Ax (fun c2 => ?_) (fun c2 => ?_)
  · refine As (An (Ar (Ac fun K hK => Aa Ae (Ad hK ?_)))); clear hK K; refine Ar (AI (ι := {k : Nat // k ≤ 3}) [0, 1] [0, 2, 3, 4] (fun ⟨k, _⟩ => [(5, iL (k : Int))]) (fun ⟨k, _⟩ => [(0, ⟨false, 100, 6, [[iL (0), iL (0), iL (0), iL (0), iL (0), iL (0)]], true⟩), (1, ⟨false, 100, 6, [[iL (hK (min g1 s1) g1 k 0), iL (hK (min g2 s2) g2 k 1), iL (hK (min g3 s3) g3 k 2), iL (hK (max g4 s4) g4 k 0), iL (hK (max g5 s5) g5 k 1), iL (hK (max g6 s6) g6 k 2)]], true⟩)]) (fun ⟨k, _⟩ => 3 - k) ⟨0, by decide⟩ (.c (.c (.c (.c .n)))) (Aj (h := (Aj))) (Ag) ?_); rintro ⟨k, hk⟩ R2 hR2; dsimp only [cA, nA, lC, lN]
    have hk4 : k = 3 ∨ k = 0 ∨ k = 1 ∨ k = 2 := by omega
    rcases hk4 with rfl | rfl | rfl | rfl
    · skip; refine An (Ac fun K hK => Aa Ab (Aa Ay (Ad hK ?_))); clear hK K; refine Ax (fun c3 => ?_) (fun c3 => ?_)
      · omega
      refine AO (hR2 _ _ (Ao fun K hK => Aa Ab (Aa A6 (Aa Ae (Ad hK ?_))))); clear hK K; refine hR0 _ _ (A8 [0, 1] [0, 2, 3] ⟨i + 1, by omega, by omega⟩ ?_ (Aj (h := (Aj (he := (by rw [hgn]; rfl))))) (Ag) (.c (.c (.c .n)))); skip; all_goals (dsimp only; omega)
    · skip; refine An (Ac fun K hK => Aa Ab (Aa Ay (Ad hK ?_))); clear hK K; refine Ax (fun c4 => ?_) (fun c4 => ?_)
      · refine As (An (Ar (Ck (C8 [(0, 0), (1, 1), (0, 0), (0, 0), (4, 8), (0, 0), (6, 56), (0, 0), (0, 0), (9, 384), (10, 896), (11, 1920), (0, 0), (13, 8184), (14, 16376), (15, 32767), (16, 65535), (17, 131071)]) 17 fun K hK => Ak (Ap 0 AR Am) (Ak (Av [_, _, _] AF Am) (Ak Ab (Ak (Ap 0 AR Am) (Ak (Av [_, _, _] AF Am) (Ak Ab (B1 (hF := (by exact BY _ _ _ 0)) (h := Ak Ab (Ak Ab (Ak (AL Bs AB (hl := (by exact AY hpi (by omega)))) (Ak (BP 0 AR Am) (Ak (BF [_, _, _] AF Am) (Ak Ab (B1 (hF := (by exact BY _ _ _ 0)) (h := Ak Gt (B1 (hF := (by exact with_0 _ _ _ _)) (h := Ak (Ap 0 AR Am) (Bz [_, _] (h := AC [_, _, _, _, _, _] true [_] BG Am (h := Ad hK ?_)))))))))))))))))))))); clear hK K
        refine CH (C8 [(0, 0), (1, 1), (0, 0), (0, 0), (4, 8), (0, 0), (6, 56), (0, 0), (0, 0), (9, 384), (10, 896), (11, 1920), (0, 0), (13, 8184), (14, 16376), (15, 32767), (16, 65535), (17, 131071)]) 17 fun K hK => Ak (Ap 3 AQ Am) (Ak (Av [_, _, _] AF Am) (Ak Ab (Ak (Ap 3 AQ Am) (Ak (Av [_, _, _] AF Am) (Ak Ab (B1 (hF := (by exact BY _ _ _ 0)) (h := Ak Ab (Ak Ab (Ak (AL Bs AB (hl := (by exact AY hpi (by omega)))) (Ak (BP 3 AQ Am) (Ak (BF [_, _, _] AF Am) (Ak Ab (B1 (hF := (by exact BY _ _ _ 0)) (h := Ak EI (B1 (hF := (by exact with_0 _ _ _ _)) (h := Ak (Ap 3 AQ Am) (Bz [_, _] (h := AC [_, _, _, _, _, _] true [_] BG Am (h := Ad hK ?_))))))))))))))))))); clear hK K; show Ev _ _ _ _; refine Ao fun K hK => Aa Ab (Aa A6 (Aa Ae (Ad hK ?_))); clear hK K; refine hR2 _ _ (A8 [0, 1] [0, 2, 3, 4] ⟨1, by decide⟩ ?_ (Aj (h := (Aj))) (Ag) (.c (.c (.c (.c .n))))); skip; all_goals (dsimp only; omega)
      omega
    · skip; refine An (Ac fun K hK => Aa Ab (Aa Ay (Ad hK ?_))); clear hK K; refine Ax (fun c5 => ?_) (fun c5 => ?_)
      · refine As (An (Ar (Ck (C8 [(0, 0), (1, 1), (0, 0), (0, 0), (4, 8), (0, 0), (6, 56), (0, 0), (0, 0), (9, 384), (10, 896), (11, 1920), (0, 0), (13, 8184), (14, 16376), (15, 32767), (16, 65535), (17, 131071)]) 17 fun K hK => Ak (Ap 0 AR Am) (Ak (Av [_, _, _] AF Am) (Ak Ab (Ak (Ap 0 AR Am) (Ak (Av [_, _, _] AF Am) (Ak Ab (B1 (hF := (by exact BY _ _ _ 1)) (h := Ak Ab (Ak Ab (Ak (AL Bs AB (hl := (by exact AY hpi (by omega)))) (Ak (BP 0 AR Am) (Ak (BF [_, _, _] AF Am) (Ak Ab (B1 (hF := (by exact BY _ _ _ 1)) (h := Ak Gt (B1 (hF := (by exact with_1 _ _ _ _)) (h := Ak (Ap 0 AR Am) (Bz [_, _] (h := AC [_, _, _, _, _, _] true [_] BG Am (h := Ad hK ?_)))))))))))))))))))))); clear hK K
        refine CH (C8 [(0, 0), (1, 1), (0, 0), (0, 0), (4, 8), (0, 0), (6, 56), (0, 0), (0, 0), (9, 384), (10, 896), (11, 1920), (0, 0), (13, 8184), (14, 16376), (15, 32767), (16, 65535), (17, 131071)]) 17 fun K hK => Ak (Ap 3 AQ Am) (Ak (Av [_, _, _] AF Am) (Ak Ab (Ak (Ap 3 AQ Am) (Ak (Av [_, _, _] AF Am) (Ak Ab (B1 (hF := (by exact BY _ _ _ 1)) (h := Ak Ab (Ak Ab (Ak (AL Bs AB (hl := (by exact AY hpi (by omega)))) (Ak (BP 3 AQ Am) (Ak (BF [_, _, _] AF Am) (Ak Ab (B1 (hF := (by exact BY _ _ _ 1)) (h := Ak EI (B1 (hF := (by exact with_1 _ _ _ _)) (h := Ak (Ap 3 AQ Am) (Bz [_, _] (h := AC [_, _, _, _, _, _] true [_] BG Am (h := Ad hK ?_))))))))))))))))))); clear hK K; show Ev _ _ _ _; refine Ao fun K hK => Aa Ab (Aa A6 (Aa Ae (Ad hK ?_))); clear hK K; refine hR2 _ _ (A8 [0, 1] [0, 2, 3, 4] ⟨2, by decide⟩ ?_ (Aj (h := (Aj))) (Ag) (.c (.c (.c (.c .n))))); skip; all_goals (dsimp only; omega)
      omega
    skip; refine An (Ac fun K hK => Aa Ab (Aa Ay (Ad hK ?_))); clear hK K; refine Ax (fun c6 => ?_) (fun c6 => ?_)
    · refine As (An (Ar (Ck (C8 [(0, 0), (1, 1), (0, 0), (0, 0), (4, 8), (0, 0), (6, 56), (0, 0), (0, 0), (9, 384), (10, 896), (11, 1920), (0, 0), (13, 8184), (14, 16376), (15, 32767), (16, 65535), (17, 131071)]) 17 fun K hK => Ak (Ap 0 AR Am) (Ak (Av [_, _, _] AF Am) (Ak Ab (Ak (Ap 0 AR Am) (Ak (Av [_, _, _] AF Am) (Ak Ab (B1 (hF := (by exact BY _ _ _ 2)) (h := Ak Ab (Ak Ab (Ak (AL Bs AB (hl := (by exact AY hpi (by omega)))) (Ak (BP 0 AR Am) (Ak (BF [_, _, _] AF Am) (Ak Ab (B1 (hF := (by exact BY _ _ _ 2)) (h := Ak Gt (B1 (hF := (by exact with_2 _ _ _ _)) (h := Ak (Ap 0 AR Am) (Bz [_, _] (h := AC [_, _, _, _, _, _] true [_] BG Am (h := Ad hK ?_)))))))))))))))))))))); clear hK K
      refine CH (C8 [(0, 0), (1, 1), (0, 0), (0, 0), (4, 8), (0, 0), (6, 56), (0, 0), (0, 0), (9, 384), (10, 896), (11, 1920), (0, 0), (13, 8184), (14, 16376), (15, 32767), (16, 65535), (17, 131071)]) 17 fun K hK => Ak (Ap 3 AQ Am) (Ak (Av [_, _, _] AF Am) (Ak Ab (Ak (Ap 3 AQ Am) (Ak (Av [_, _, _] AF Am) (Ak Ab (B1 (hF := (by exact BY _ _ _ 2)) (h := Ak Ab (Ak Ab (Ak (AL Bs AB (hl := (by exact AY hpi (by omega)))) (Ak (BP 3 AQ Am) (Ak (BF [_, _, _] AF Am) (Ak Ab (B1 (hF := (by exact BY _ _ _ 2)) (h := Ak EI (B1 (hF := (by exact with_2 _ _ _ _)) (h := Ak (Ap 3 AQ Am) (Bz [_, _] (h := AC [_, _, _, _, _, _] true [_] BG Am (h := Ad hK ?_))))))))))))))))))); clear hK K; show Ev _ _ _ _; refine Ao fun K hK => Aa Ab (Aa A6 (Aa Ae (Ad hK ?_))); clear hK K; refine hR2 _ _ (A8 [0, 1] [0, 2, 3, 4] ⟨3, by decide⟩ ?_ (Aj (h := (Aj))) (Ag) (.c (.c (.c (.c .n))))); skip; all_goals (dsimp only; omega)
    omega
  omega
theorem rsolHull_fun (bs hs : List Bx) (hne : 1 ≤ bs.length) (hlen : bs.length ≤ 1000) : Fun Tryz.prog 116 [.agg [.sh 6 (bs.map Bx.c), .sh 6 (hs.map Bx.c)]] (AK (.agg (Cc bs).c) []) := by
  refine Fun.of (nt := 6) (rs := [.cell 2 100]) Tryz.func116 rfl rfl rfl rfl rfl (Ac fun K hK => A4 (Be [_, _] true) (A4 (Bd BS) (Ad hK ?_))); clear hK K; refine Ac fun K hK => Aa (Ap 0 DP CF) (Aa (At CI) (A3 (hF := rhull_fun bs hne hlen) (h := AC [_, _, _, _, _, _] true [_] CK AB (h := Ad hK ?_)))); clear hK K; refine Af (BD (B7 [_, _, _, _, _, _] Bq AB BC) (⟨?_, rfl⟩)); rfl
theorem ptsA_snoc (f : Int → Int → Int → Int) (l : List Bx) (s : Bx) : ED f (l ++ [s]) = ED f l ++ Es f s := by simp [ED]
theorem nx_s {hi last : Int} {pts e : List Int} {k : Nat} {n : Int} (h : e[k]? = some n) : nxF hi last (pts ++ e.take (k + 1)) = nxS last (nxF hi last (pts ++ e.take k)) n := by
  rw [List.take_add_one, h, Option.toList_some, ← List.append_assoc, nxF_snoc]
theorem nx_t {last a n : Int} (h1 : n > last) (h2 : n < a) : nxS last a n = n := if_pos ⟨h1, h2⟩
theorem nx_f1 {last a n : Int} (h1 : ¬ n > last) : nxS last a n = a := if_neg fun h => h1 h.1
theorem nx_f2 {last a n : Int} (h1 : ¬ n < a) : nxS last a n = a := if_neg fun h => h1 h.2
theorem take_last {T : List Int} {k : Nat} {v : Int} (hk : 1 ≤ k) (h : T[k - 1]? = some v) : (T.take k)[(((T.take k).length : Int) - 1).toNat]? = some v ∧ (T.take k).length = k := by
  have hl := (List.getElem?_eq_some_iff.1 h).1
  have e : (T.take k).length = k := by rw [List.length_take]; omega
  refine ⟨?_, e⟩; rw [e, show ((k : Int) - 1).toNat = k - 1 by omega, List.getElem?_take_of_lt (by omega)]; exact h
theorem rCuts_fun (ax : Int) (f : Int → Int → Int → Int) (hf : ∀ a b c, Fun Tryz.prog 131 [.agg [iL a, iL b, iL c], iL ax] (AK (iL (f a b c)) [])) (l : List Bx) (h : Bx) (T : List Int) (hT : CutOK T (ED f l) (f h.lx h.ly h.lz) (f h.hx h.hy h.hz)) (hT80 : T.length ≤ 80) (hlen : l.length ≤ 1000) :
    Fun Tryz.prog 164 [.sh 6 (l.map Bx.c), .agg h.c, iL ax] (AK (.sh 1 (T.map Cz)) []) := by
  obtain ⟨u1, u2⟩ := hT.atl; have u0 := hT.at0
  have e1 : T.take 1 = [f h.lx h.ly h.lz] := by
    cases T with
    | nil => cases u0
    | cons a T => cases u0; rfl
  refine Fun.of (nt := 79) (rs := [.tmp 6]) Tryz.func164 rfl rfl rfl rfl rfl (Ac fun _ z=>A4 (Be _ true) (Aa Ae (Ad z (Ac fun _ z=>Aa (Ap 0 AR Am) (Aa (Av _ AF Am) (Aa Ab (A3 (hF := hf _ _ _) (h := A4 (C3 [[_]] true AG Ed Ah) (Aa Ae (Ad z (An (Ar (AI (ι := {k : Nat // 1 ≤ k ∧ k ≤ T.length}) [0, 1] [0, 2, 4] (fun ⟨k, _⟩ => [(7, .als 1 0 ((T.take k)).length)]) (fun ⟨k, _⟩ => [(0, ⟨false, 100, 6, [[iL (h.lx), iL (h.ly), iL (h.lz), iL (h.hx), iL (h.hy), iL (h.hz)]], true⟩), (1, ⟨true, 3, 1, ((T.take k)).map Cz, true⟩)]) (fun ⟨k, _⟩ => T.length - k) ⟨1, by decide, by omega⟩ (.c (.c (.c .n))) (Aj (h := (Aj (he := (by rw [e1] <;> rfl))))) (Ag (he := (by exact congrArg (AV.als _ 0) (by rw [e1] <;> rfl)))) ?_))))))))))))); rintro ⟨k, hk1, hk2⟩ R0 hR0; dsimp only [cA, nA, lC, lN]; obtain ⟨v, hv⟩ : ∃ v, T[k - 1]? = some v := ⟨_, List.getElem?_eq_getElem (by omega)⟩; obtain ⟨hv2, hv3⟩ := take_last hk1 hv
  refine An (Ck (C8 [(0, 0), (0, 0), (2, 2), (3, 6), (4, 15), (5, 31), (0, 0), (7, 64), (0, 0), (9, 448), (10, 1023)]) 11 fun _ z=>Ak Ab (Ak Ab (Ak (q.lena AG) (Ak BV (Ak (q.ia AG Ah) (Ak (q.lx Al (hl := (by exact at_ hv2 (by omega)))) (Ak (Ap 3 AQ Am) (Ak (Av _ AF Am) (Ak Ab (B1 (hF := hf _ _ _) (h := Ak Ay (Bz [_, _] (h := Ad z (Ax (fun c1 => ?_) (fun c1 => ?_)))))))))))))))
  · refine As (Ar (Ac fun _ z=>Aa Ab (Aa Ab (Aa (q.lena AG) (Aa BV (Aa (q.ia AG Ah) (Aa (q.lx Al (hl := (by exact at_ hv2 (by omega)))) (Aa Ae (Ad z (Ac fun _ z=>Aa (Ap 3 AQ Am) (Aa (Av _ AF Am) (Aa Ab (A3 (hF := hf _ _ _) (h := Aa Ae (Ad z (An (Ac fun _ z=>Aa Ae (Ad z (Ar (AI (ι := {p : List (Bx) × List (Bx) // p.1 ++ p.2 = l ∧ True}) [0, 1] [0, 2, 4, 8] (fun ⟨(pre, suf), _⟩ => [(10, iL (pre.length : Int)), (9, iL (nxF (f h.hx h.hy h.hz) v (ED f pre))), (7, .als 1 0 ((T.take k)).length)]) (fun ⟨(pre, suf), _⟩ => [(0, ⟨false, 100, 6, [[iL (h.lx), iL (h.ly), iL (h.lz), iL (h.hx), iL (h.hy), iL (h.hz)]], true⟩), (1, ⟨true, 3, 1, ((T.take k)).map Cz, true⟩)]) (fun ⟨(pre, suf), _⟩ => suf.length) ⟨([], l), rfl, trivial⟩ (.c (.c (.c (.c .n)))) (Aj (h := (Aj))) (Ag (h := (Ag (h := (Ag))))) ?_)))))))))))))))))))); rintro ⟨⟨pre, suf⟩, hp, hinv⟩ R2 hR2; dsimp only [cA, nA, lC, lN]
    simp only at hp hinv
    have hpl := Cd hp
    rcases suf with _ | ⟨s, suf⟩
    · rw [List.append_nil] at hp; subst pre; simp only [List.length_nil] at hpl; rw [List.append_nil] at *; have hn1 := hT.next hv ‹_›; rw [Nat.sub_add_cancel hk1] at hn1; have hkT : k + 1 ≤ T.length := (List.getElem?_eq_some_iff.1 hn1).1
      have hnx : T.take (k + 1) = T.take k ++ [nxF (f h.hx h.hy h.hz) v (ED f l)] := by rw [List.take_add_one, hn1]; rfl
      refine An (Ac fun _ z=>Aa Ab (Aa Ab (Aa (A7 Bs) (Aa Ay (Ad z (Ax (fun c2 => ?_) (fun c2 => ?_)))))))
      · omega
      refine AO (hR2 _ _ (Ao fun _ z=>Aa Ab (Aa Ab (A4 (C3 [[_]] true AG Ed Ah) (DJ [_, _] AG Ed Ah am_by3 (hh := Cu) (hr := (CS [(nxF (f h.hx h.hy h.hz) v (ED f l))])) (h := Aa Ae (Ad z (hR0 _ _ (A8 [0, 3] [0, 2, 4] ⟨k + 1, by omega, hkT⟩ ?_ (Aj (h := (Aj (he := (by rw [hnx]))))) (Ag (he := (by exact congrArg (AV.als _ 0) (by rw [hnx])))) (.c (.c (.c .n)))))))))))); skip; all_goals (dsimp only; omega)
    simp only [lC] at hpl; have hidx := Ch hp; refine An (Ac fun _ z=>Aa Ab (Aa Ab (Aa (A7 Bs) (Aa Ay (Ad z (Ax (fun c3 => ?_) (fun c3 => ?_)))))))
    · refine As (An (Ar (Ac fun _ z=>Aa Ae (Ad z (Ar (AI (ι := {j : Nat // j ≤ 2}) [0, 1] [0, 2, 4, 8, 10] (fun ⟨j, _⟩ => [(11, iL (j : Int)), (9, iL (nxF (f h.hx h.hy h.hz) v (ED f pre ++ (Es f s).take j))), (7, .als 1 0 ((T.take k)).length)]) (fun ⟨j, _⟩ => [(0, ⟨false, 100, 6, [[iL (h.lx), iL (h.ly), iL (h.lz), iL (h.hx), iL (h.hy), iL (h.hz)]], true⟩), (1, ⟨true, 3, 1, ((T.take k)).map Cz, true⟩)]) (fun ⟨j, _⟩ => 2 - j) ⟨0, by decide⟩ (.c (.c (.c (.c (.c .n))))) (Aj (h := (Aj))) (Ag (h := (Ag (he := (by rw [List.take_zero, List.append_nil])) (h := (Ag))))) ?_)))))); rintro ⟨j, hj⟩ R4 hR4; dsimp only [cA, nA, lC, lN]
      have hk3 : j = 2 ∨ j = 0 ∨ j = 1 := by omega
      rcases hk3 with hk3 | hk3 | hk3
      · skip; refine An (Ac fun _ z=>Aa Ab (Aa Ay (Ad z (Ax (fun c4 => ?_) (fun c4 => ?_)))))
        · omega
        refine AO (hR4 _ _ (Ao fun _ z=>Aa Ab (Aa A6 (Aa Ae (Ad z (hR2 _ _ (A8 [0, 1] [0, 2, 4, 8] ⟨(pre ++ [s], suf), B2 hp, trivial⟩ BX (Aj (h := (Aj))) (Ag (he := (by congr 2; simp)) (h := (Ag (he := (by rw [hk3, ptsA_snoc]; rfl)) (h := (Ag))))) (.c (.c (.c (.c .n)))))))))))
      · have hvn : (Es f s)[j]? = some (f s.lx s.ly s.lz) := by rw [hk3]; rfl
        have hns := nx_s (hi := f h.hx h.hy h.hz) (last := v) (pts := ED f pre) hvn; obtain ⟨s1, s2, s3, s4, s5, s6⟩ := s
        dsimp only at hns
        refine An (Ac fun _ z=>Aa Ab (Aa Ay (Ad z (Ax (fun c5 => ?_) (fun c5 => ?_)))))
        · refine As (An (Ar (Ac fun _ z=>Aa Ab (Aa Ab (Aa (AL Bs AB (hl := (by exact AY hidx (by omega)))) (Aa (BP 0 AR Am) (Aa (BF _ AF Am) (Aa Ab (A3 (hF := hf _ _ _) (h := Aa Ae (Ad z (An (Ac fun _ z=>Aa Ab (Aa B6 (Ad z (Ax (fun c6 => ?_) (fun c6 => ?_)))))))))))))))))
          · omega
          refine As (Ac fun _ z=>Aa Ab (Aa Ab (Aa Bh (AP Ab (fun c9 => ?_) (fun c9 => ?_)))))
          · refine Aa Ab (Aa Ab (Aa Ay (Aa A5 (Ad z (Ax (fun c10 => ?_) (fun c10 => ?_))))))
            · refine Ao fun _ z=>Aa Ab (Aa Ae (Ad z ?_)); show Ev _ _ _ _; refine Ao fun _ z=>Aa Ab (Aa A6 (Aa Ae (Ad z (hR4 _ _ (A8 [0, 1] [0, 2, 4, 8, 10] ⟨j + 1, by omega⟩ ?_ (Aj (h := (Aj))) (Ag (h := (Ag (he := (by rw [hns, nx_t ‹_› ‹_›])) (h := (Ag))))) (.c (.c (.c (.c (.c .n)))))))))); skip; all_goals (dsimp only; omega)
            refine As (Ao fun _ z=>Aa Ab (Aa A6 (Aa Ae (Ad z (hR4 _ _ (A8 [0, 1] [0, 2, 4, 8, 10] ⟨j + 1, by omega⟩ ?_ (Aj (h := (Aj))) (Ag (h := (Ag (he := (by rw [hns, nx_f2 ‹_›])) (h := (Ag))))) (.c (.c (.c (.c (.c .n))))))))))); skip; all_goals (dsimp only; omega)
          refine Ai (A9 (Aa Au (Ad z (Ei (As (Ao fun _ z=>Aa Ab (Aa A6 (Aa Ae (Ad z (hR4 _ _ (A8 [0, 1] [0, 2, 4, 8, 10] ⟨j + 1, by omega⟩ ?_ (Aj (h := (Aj))) (Ag (h := (Ag (he := (by rw [hns, nx_f1 ‹_›])) (h := (Ag))))) (.c (.c (.c (.c (.c .n)))))))))))))))); skip; all_goals (dsimp only; omega)
        omega
      have hvn : (Es f s)[j]? = some (f s.hx s.hy s.hz) := by rw [hk3]; rfl
      have hns := nx_s (hi := f h.hx h.hy h.hz) (last := v) (pts := ED f pre) hvn; obtain ⟨s1, s2, s3, s4, s5, s6⟩ := s
      dsimp only at hns
      refine An (Ac fun _ z=>Aa Ab (Aa Ay (Ad z (Ax (fun c11 => ?_) (fun c11 => ?_)))))
      · refine As (An (Ar (Ac fun _ z=>Aa Ab (Aa Ab (Aa (AL Bs AB (hl := (by exact AY hidx (by omega)))) (Aa (BP 0 AR Am) (Aa (BF _ AF Am) (Aa Ab (A3 (hF := hf _ _ _) (h := Aa Ae (Ad z (An (Ac fun _ z=>Aa Ab (Aa B6 (Ad z (Ax (fun c12 => ?_) (fun c12 => ?_)))))))))))))))))
        · refine Ao fun _ z=>Aa Ab (Aa Ab (Aa (AL Bs AB (hl := (by exact AY hidx (by omega)))) (Aa (BP 3 AQ Am) (Aa (BF _ AF Am) (Aa Ab (A3 (hF := hf _ _ _) (h := Aa Ae (Ad z ?_)))))))); show Ev _ _ _ _; refine Ac fun _ z=>Aa Ab (Aa Ab (Aa Bh (AP Ab (fun c13 => ?_) (fun c13 => ?_))))
          · refine Aa Ab (Aa Ab (Aa Ay (Aa A5 (Ad z (Ax (fun c14 => ?_) (fun c14 => ?_))))))
            · refine Ao fun _ z=>Aa Ab (Aa Ae (Ad z ?_)); show Ev _ _ _ _; refine Ao fun _ z=>Aa Ab (Aa A6 (Aa Ae (Ad z (hR4 _ _ (A8 [0, 1] [0, 2, 4, 8, 10] ⟨j + 1, by omega⟩ ?_ (Aj (h := (Aj))) (Ag (h := (Ag (he := (by rw [hns, nx_t ‹_› ‹_›])) (h := (Ag))))) (.c (.c (.c (.c (.c .n)))))))))); skip; all_goals (dsimp only; omega)
            refine As (Ao fun _ z=>Aa Ab (Aa A6 (Aa Ae (Ad z (hR4 _ _ (A8 [0, 1] [0, 2, 4, 8, 10] ⟨j + 1, by omega⟩ ?_ (Aj (h := (Aj))) (Ag (h := (Ag (he := (by rw [hns, nx_f2 ‹_›])) (h := (Ag))))) (.c (.c (.c (.c (.c .n))))))))))); skip; all_goals (dsimp only; omega)
          refine Ai (A9 (Aa Au (Ad z (Ei (As (Ao fun _ z=>Aa Ab (Aa A6 (Aa Ae (Ad z (hR4 _ _ (A8 [0, 1] [0, 2, 4, 8, 10] ⟨j + 1, by omega⟩ ?_ (Aj (h := (Aj))) (Ag (h := (Ag (he := (by rw [hns, nx_f1 ‹_›])) (h := (Ag))))) (.c (.c (.c (.c (.c .n)))))))))))))))); skip; all_goals (dsimp only; omega)
        omega
      omega
    omega
  refine AO (hR0 _ _ (Ac fun _ z=>Aa Ab (Aa Ae (Ad z (AT (Wk.frz 6 [_]) (Af (Aq ?_))))))); have e2 := hT.end_ hv ‹_›; rw [Nat.sub_add_cancel hk1] at e2; rw [e2]
def pT (_ : Bx) : Bool := true
theorem two_nx {l : List Int} {n : Nat} (h2 : n < l.length - 1) : ∃ a b, l[n]? = some a ∧ l[(min ((n : Int) + 1) ((l.length : Int) - 1)).toNat]? = some b ∧ Ew l n = (a, b) := by
  have ha : l[n]? = some (l[n]'(by omega)) := List.getElem?_eq_getElem _; have hb : l[n + 1]? = some (l[n + 1]'(by omega)) := List.getElem?_eq_getElem _; refine ⟨_, _, ha, by rw [show (min ((n : Int) + 1) ((l.length : Int) - 1)).toNat = n + 1 by omega]; exact hb, ?_⟩
  unfold Ew
  rw [ha, hb]; rfl
theorem sgs_all_len {p : Bx → Bool} {X Y Z : List (Int × Int)} : (DO p X Y Z).length ≤ X.length * (Y.length * Z.length) := by
  have hz : ∀ x y, (DG p x y Z).length ≤ Z.length := fun x y => by
    unfold DG
    exact Nat.le_trans (List.length_filter_le _ _) (by rw [List.length_map]; exact Nat.le_refl _)
  have hy : ∀ x (Y : List (Int × Int)), (DU p x Y Z).length ≤ Y.length * Z.length := fun x => by
    refine CY (by simp [DU]) ?_; intro l s ih; have := hz x s; rw [cellsY_snoc, List.length_append, List.length_append, List.length_singleton, Nat.add_mul, Nat.one_mul]; omega
  have hx : ∀ X : List (Int × Int), (DO p X Y Z).length ≤ X.length * (Y.length * Z.length) := by
    refine CY (by simp [DO]) ?_; intro l s ih; have := hy s Y; rw [cellsX_snoc, List.length_append, List.length_append, List.length_singleton, Nat.add_mul, Nat.one_mul]; omega
  exact hx X
theorem cells_len {p : Bx → Bool} {xs ys zs : List Int} (h1 : xs.length ≤ 80) (h2 : ys.length ≤ 80) (h3 : zs.length ≤ 80) : (Ff p xs ys zs).length ≤ 512000 := by
  have h := sgs_all_len (p := p) (X := Dy xs (xs.length - 1)) (Y := Dy ys (ys.length - 1)) (Z := Dy zs (zs.length - 1)); simp only [sgs_len] at h; have m1 : (ys.length - 1) * (zs.length - 1) ≤ 80 * 80 := Nat.mul_le_mul (by omega) (by omega); have m2 : (xs.length - 1) * ((ys.length - 1) * (zs.length - 1)) ≤ 80 * (80 * 80) := Nat.mul_le_mul (by omega) m1
  unfold Ff
  omega
theorem rParts_fun (l : List Bx) (h : Bx) (xs ys zs : List Int) (hx : CutOK xs (ED fX l) h.lx h.hx) (hy : CutOK ys (ED fY l) h.ly h.hy) (hz : CutOK zs (ED fZ l) h.lz h.hz) (x3 : xs.length ≤ 80) (y3 : ys.length ≤ 80) (z3 : zs.length ≤ 80) (hlen : l.length ≤ 1000) :
    Fun Tryz.prog 115 [.sh 6 (l.map Bx.c), .agg h.c] (AK (.sh 6 ((Ff pT xs ys zs).map Bx.c)) []) := by
  have kx := rCuts_fun 0 fX (fun a b c => BY a b c 0) l h xs hx x3 hlen; have ky := rCuts_fun 1 fY (fun a b c => BY a b c 1) l h ys hy y3 hlen; have kz := rCuts_fun 2 fZ (fun a b c => BY a b c 2) l h zs hz z3 hlen; have x2 := hx.atl.2; have y2 := hy.atl.2; have z2 := hz.atl.2; have hcl := cells_len (p := pT) x3 y3 z3; clear hx hy hz
  refine Fun.of (nt := 91) (rs := [.tmp 4]) Tryz.func115 rfl rfl rfl rfl rfl (Ac fun _ z=>A4 (Be _ true) (Aa Ae (Ad z (Ck (C8 [(0, 0), (0, 0), (2, 3), (0, 0), (0, 0), (5, 31), (0, 0), (0, 0), (8, 255), (9, 511), (10, 1023), (11, 2047)]) 9 fun _ z=>Ak Ab (Ak (Av _ Bq AB) (B1 (hF := kx) (h := Ak Ab (Ak (Av _ Bq AB) (B1 (hF := ky) (h := Ak Ab (Ak (Av _ Bq AB) (B1 (hF := kz) (h := Bz [_] (h := Aa Ae (Aa Ae (Aa Ae (Ad z (Ac fun _ z=>Aa Ae (Ad z (An (Ac fun _ z=>Aa Ae (Ad z (Ar (AT (Wk.nown Bx.c 8 100 6) (AI (ι := {i : Nat // i ≤ xs.length - 1}) [0, 37] [5, 6, 7] (fun ⟨i, _⟩ => [(9, iL (i : Int)), (8, .als 1 0 ((Ct pT xs ys zs (i + 1) 1 1)).length)]) (fun ⟨i, _⟩ => [(0, ⟨false, 100, 6, [[iL (h.lx), iL (h.ly), iL (h.lz), iL (h.hx), iL (h.hy), iL (h.hz)]], true⟩), (1, ⟨true, 100, 6, ((Ct pT xs ys zs (i + 1) 1 1)).map Bx.c, true⟩)]) (fun ⟨i, _⟩ => xs.length - 1 - i) ⟨0, by omega⟩ (.c (.c (.c .n))) (Aj (h := (Aj))) (Ag (h := (Ag))) ?_))))))))))))))))))))))))); rintro ⟨i, hi2⟩ R0 hR0; dsimp only [cA, nA, lC, lN]
  by_cases hil : i < xs.length - 1
  rotate_left
  · have hie : i = xs.length - 1 := by omega
    refine An (Ac fun _ z=>Aa Ab (Aa Ab (Aa (A7 AG) (Aa BV (Aa EI (Aa Ay (Ad z (Ax (fun c1 => ?_) (fun c1 => ?_)))))))))
    · omega
    refine AO (hR0 _ _ (Ac fun _ z=>Aa Ab (Aa Ae (Ad z (AT (Wk.frz 4 [_]) (Af (Aq ?_)))))))
    (rw [← cA_end (p := pT)]; rw [show i + 1 = xs.length by omega])
  skip; refine An (Ac fun _ z=>Aa Ab (Aa Ab (Aa (A7 AG) (Aa BV (Aa EI (Aa Ay (Ad z (Ax (fun c2 => ?_) (fun c2 => ?_)))))))))
  · refine As (An (Ar (Ac fun _ z=>Aa Ae (Ad z (Ar (AI (ι := {k : Nat // k ≤ ys.length - 1}) [0, 1] [5, 6, 7, 9] (fun ⟨k, _⟩ => [(10, iL (k : Int)), (8, .als 1 0 ((Ct pT xs ys zs (i + 1) (k + 1) 1)).length)]) (fun ⟨k, _⟩ => [(0, ⟨false, 100, 6, [[iL (h.lx), iL (h.ly), iL (h.lz), iL (h.hx), iL (h.hy), iL (h.hz)]], true⟩), (1, ⟨true, 100, 6, ((Ct pT xs ys zs (i + 1) (k + 1) 1)).map Bx.c, true⟩)]) (fun ⟨k, _⟩ => ys.length - 1 - k) ⟨0, by omega⟩ (.c (.c (.c (.c .n)))) (Aj (h := (Aj))) (Ag (h := (Ag))) ?_)))))); rintro ⟨k, hk2⟩ R2 hR2; dsimp only [cA, nA, lC, lN]
    by_cases hkl : k < ys.length - 1
    rotate_left
    · have hke2 : Ct pT xs ys zs (i + 1) (k + 1) 1 = Ct pT xs ys zs (i + 1 + 1) 1 1 := by rw [show k + 1 = ys.length by omega]; exact cA_y (by omega)
      refine An (Ac fun _ z=>Aa Ab (Aa Ab (Aa (A7 AG) (Aa BV (Aa EI (Aa Ay (Ad z (Ax (fun c3 => ?_) (fun c3 => ?_)))))))))
      · omega
      refine AO (hR2 _ _ (Ao fun _ z=>Aa Ab (Aa A6 (Aa Ae (Ad z (hR0 _ _ (A8 [0, 1] [5, 6, 7] ⟨i + 1, by omega⟩ ?_ (Aj (h := (Aj (he := (by exact congrArg (List.map Bx.c) hke2))))) (Ag (h := (Ag (he := (by exact congrArg (fun q => AV.als _ 0 (List.length q)) hke2))))) (.c (.c (.c .n)))))))))); skip; all_goals (dsimp only; omega)
    skip; refine An (Ac fun _ z=>Aa Ab (Aa Ab (Aa (A7 AG) (Aa BV (Aa EI (Aa Ay (Ad z (Ax (fun c4 => ?_) (fun c4 => ?_)))))))))
    · refine As (An (Ar (Ac fun _ z=>Aa Ae (Ad z (Ar (AI (ι := {j : Nat // j ≤ zs.length - 1}) [0, 1] [5, 6, 7, 9, 10] (fun ⟨j, _⟩ => [(11, iL (j : Int)), (8, .als 1 0 ((Ct pT xs ys zs (i + 1) (k + 1) (j + 1))).length)]) (fun ⟨j, _⟩ => [(0, ⟨false, 100, 6, [[iL (h.lx), iL (h.ly), iL (h.lz), iL (h.hx), iL (h.hy), iL (h.hz)]], true⟩), (1, ⟨true, 100, 6, ((Ct pT xs ys zs (i + 1) (k + 1) (j + 1))).map Bx.c, true⟩)]) (fun ⟨j, _⟩ => zs.length - 1 - j) ⟨0, by omega⟩ (.c (.c (.c (.c (.c .n))))) (Aj (h := (Aj))) (Ag (h := (Ag))) ?_)))))); rintro ⟨j, hj2⟩ R4 hR4; dsimp only [cA, nA, lC, lN]
      by_cases hjl : j < zs.length - 1
      rotate_left
      · have hje2 : Ct pT xs ys zs (i + 1) (k + 1) (j + 1) = Ct pT xs ys zs (i + 1) (k + 1 + 1) 1 := by rw [show j + 1 = zs.length by omega]; exact cA_z (by omega)
        refine An (Ac fun _ z=>Aa Ab (Aa Ab (Aa (A7 AG) (Aa BV (Aa EI (Aa Ay (Ad z (Ax (fun c5 => ?_) (fun c5 => ?_)))))))))
        · omega
        refine AO (hR4 _ _ (Ao fun _ z=>Aa Ab (Aa A6 (Aa Ae (Ad z (hR2 _ _ (A8 [0, 1] [5, 6, 7, 9] ⟨k + 1, by omega⟩ ?_ (Aj (h := (Aj (he := (by exact congrArg (List.map Bx.c) hje2))))) (Ag (h := (Ag (he := (by exact congrArg (fun q => AV.als _ 0 (List.length q)) hje2))))) (.c (.c (.c (.c .n))))))))))); skip; all_goals (dsimp only; omega)
      obtain ⟨xa, xb, ux1, ux2, ux3⟩ := two_nx hil; obtain ⟨ya, yb, uy1, uy2, uy3⟩ := two_nx hkl; obtain ⟨za, zb, uz1, uz2, uz3⟩ := two_nx hjl
      have hce : bxOf (Ew xs (i + 1 - 1)) (Ew ys (k + 1 - 1)) (Ew zs (j + 1 - 1)) = ⟨xa, ya, za, xb, yb, zb⟩ := by simp only [Nat.add_sub_cancel]; rw [ux3, uy3, uz3]; rfl
      have hct := cA_t (p := pT) (xs := xs) (ys := ys) (zs := zs) (i := i + 1) (k := k + 1) (j := j + 1) (by omega) rfl; rw [hce] at hct; obtain ⟨tl, htl⟩ := cA_pre (p := pT) (xs := xs) (ys := ys) (zs := zs) (i := i + 1) (k := k + 1) (j := j + 1) (by omega) (by omega) (by omega) (by omega) (by omega); have hle := congrArg List.length htl; rw [List.length_append] at hle; refine An (Ac fun _ z=>Aa Ab (Aa Ab (Aa (A7 AG) (Aa BV (Aa EI (Aa Ay (Ad z (Ax (fun c6 => ?_) (fun c6 => ?_)))))))))
      · refine As (An (Ar (CH (C8 [(0, 0), (0, 0), (0, 0), (3, 6), (4, 14), (0, 0), (0, 0), (7, 96), (8, 224), (0, 0), (0, 0), (11, 1536), (12, 3584), (13, 8190), (0, 0), (0, 0), (16, 32768), (0, 0), (18, 131072), (19, 393216), (20, 1015808), (21, 2080768), (22, 4177920), (0, 0), (0, 0), (25, 16777216), (0, 0), (27, 67108864), (28, 201326592), (29, 520093696), (30, 1065353216), (31, 2139095040), (0, 0), (0, 0), (34, 8589934592), (0, 0), (36, 34359738368), (37, 103079215104), (38, 266287972352), (39, 545460846592), (40, 1095216660480), (41, 2199023239168), (42, 4398046511102), (43, 8796093022206), (44, 17592186044415), (45, 35184372088831)]) 44 fun _ z=>Ak Ab (Ak Ab (Ak Ab (Ak (AL AG Ah (hl := (by exact AY ux1 (by omega)))) (Ak (Bc Al) (Ak Ab (Ak Ab (Ak (AL AG Ah (hl := (by exact AY uy1 (by omega)))) (Ak (Bc Al) (Ak Ab (Ak Ab (Ak (AL AG Ah (hl := (by exact AY uz1 (by omega)))) (Ak (Bc Al) (Ak (Bj _ AJ BH) (Ak Ab (Ak Ab (Ak A6 (Ak Ab (Ak (A7 AG) (Ak BV (Ak Gt (Ak (AL AG Ah (hl := (by exact AY ux2 (by omega)))) (Ak (Bc Al) (Ak Ab (Ak Ab (Ak A6 (Ak Ab (Ak (A7 AG) (Ak BV (Ak Gt (Ak (AL AG Ah (hl := (by exact AY uy2 (by omega)))) (Ak (Bc Al) (Ak Ab (Ak Ab (Ak A6 (Ak Ab (Ak (A7 AG) (Ak BV (Ak Gt (Ak (AL AG Ah (hl := (by exact AY uz2 (by omega)))) (Ak (Bc Al) (Ak (Bj _ AJ BH) (Ak (Bj _ BS am_pl100) (Gs [_] (C3 [[_, _, _, _, _, _]] true Bs BS AB) (h := Bz [_, _, _] (h := DJ [_, _] Bs BS AB am_by100 (hh := Cu) (hr := (CS [(⟨xa, ya, za, xb, yb, zb⟩ : Bx)])) (h := Aa Ae (Ad z ?_))))))))))))))))))))))))))))))))))))))))))))))))))
        show Ev _ _ _ _; refine Ao fun _ z=>Aa Ab (Aa A6 (Aa Ae (Ad z (hR4 _ _ (A8 [0, 178] [5, 6, 7, 9, 10] ⟨j + 1, by omega⟩ ?_ (Aj (h := (Aj (he := (by rw [hct, List.map_append] <;> rfl))))) (Ag (h := (Ag (he := (by exact congrArg (fun q => AV.als _ 0 (List.length q)) hct.symm))))) (.c (.c (.c (.c (.c .n)))))))))); skip; all_goals (dsimp only; omega)
      omega
    omega
  omega
theorem cellp_bd {p : Bx → Bool} {bs hs : List Bx} (h : Eo bs hs) {b : Bx} (hb : b ∈ Ff p (FJ fX (Cc bs) (bs ++ hs)) (FJ fY (Cc bs) (bs ++ hs)) (FJ fZ (Cc bs) (bs ++ hs))) : C5 b := by
  obtain ⟨c1, c2, c3⟩ := cuts_ok h; have g := (hull_ok h).bd; obtain ⟨x, hx, y, hy, z, hz, rfl⟩ := cells_mem hb; have s1 := c1.seg hx; have s2 := c2.seg hy; have s3 := c3.seg hz
  unfold bxOf C5
  dsimp only
  omega
theorem inB_iff {c x : Bx} (h1 : C5 x) (h2 : C5 c) : inB c x = true ↔ EU x c := by
  unfold inB
  rw [decide_eq_true_eq]; exact ⟨fun h => h.2, fun h => ⟨⟨h1, h2⟩, h⟩⟩
theorem opB_iff {c x : Bx} : opB c x = true ↔ Fm x c := decide_eq_true_iff
theorem flt_t {bs hs pre : List Bx} {s : Bx} (hbs : ∀ b ∈ bs, C5 b) (hs_ : C5 s) (h1 : ∃ x ∈ bs, EU x s) (h2 : ¬ ∃ x ∈ hs, Fm x s) : (pre ++ [s]).filter (inP bs hs) = pre.filter (inP bs hs) ++ [s] := by
  have e : inP bs hs s = true := inP_t (by obtain ⟨x, hx, hc⟩ := h1; exact ⟨x, hx, (inB_iff (hbs x hx) hs_).2 hc⟩) (fun ⟨x, hx, hc⟩ => h2 ⟨x, hx, opB_iff.1 hc⟩); rw [List.filter_append]
  simp [e]
theorem flt_f1 {bs hs pre : List Bx} {s : Bx} (hbs : ∀ b ∈ bs, C5 b) (hs_ : C5 s) (h1 : ¬ ∃ x ∈ bs, EU x s) : (pre ++ [s]).filter (inP bs hs) = pre.filter (inP bs hs) := by
  have e : inP bs hs s = false := inP_f1 (fun ⟨x, hx, hc⟩ => h1 ⟨x, hx, (inB_iff (hbs x hx) hs_).1 hc⟩); rw [List.filter_append]
  simp [e]
theorem flt_f2 {bs hs pre : List Bx} {s : Bx} (h2 : ∃ x ∈ hs, Fm x s) : (pre ++ [s]).filter (inP bs hs) = pre.filter (inP bs hs) := by
  have e : inP bs hs s = false := inP_f2 (by obtain ⟨x, hx, hc⟩ := h2; exact ⟨x, hx, opB_iff.2 hc⟩); rw [List.filter_append]
  simp [e]
theorem ex_mono {hs : List Bx} {s h : Bx} {k : Nat} (hk : hs[k]? = some h) (g : ∃ x ∈ hs.take k, Fm x s) : ∃ x ∈ hs.take (k + 1), Fm x s := by
  obtain ⟨x, hx, hc⟩ := g; rw [List.take_add_one]; exact ⟨x, List.mem_append_left _ hx, hc⟩
theorem ex_step {hs : List Bx} {s h : Bx} {k : Nat} (hk : hs[k]? = some h) (g : ¬ ∃ x ∈ hs.take k, Fm x s) : Fm h s ↔ ∃ x ∈ hs.take (k + 1), Fm x s := by
  rw [List.take_add_one, hk]
  constructor
  · intro hc; exact ⟨h, by simp, hc⟩
  rintro ⟨x, hx, hc⟩
  rcases List.mem_append.1 hx with hx | hx
  · exact absurd ⟨x, hx, hc⟩ g
  rw [Option.toList_some, List.mem_singleton] at hx; subst hx; exact hc
theorem rCells_fun (bs hs : List Bx) (hok : Eo bs hs) : Fun Tryz.prog 64 [.agg [.sh 6 (bs.map Bx.c), .sh 6 (hs.map Bx.c)]] (AK (.sh 6 ((Dg bs hs).map Bx.c)) []) := by
  obtain ⟨⟨hb1, hb2⟩, hh2, hbt, hht⟩ := id hok; have hbo : ∀ b ∈ bs, C5 b := fun b hb => (hbt b hb).1; obtain ⟨c1, c2, c3⟩ := cuts_ok hok; have x3 := cut_len (f := fX) (h := Cc bs) hb2 hh2; have y3 := cut_len (f := fY) (h := Cc bs) hb2 hh2; have z3 := cut_len (f := fZ) (h := Cc bs) hb2 hh2
  have hal : (bs ++ hs).length ≤ 40 := by rw [List.length_append]; omega
  have kh := rsolHull_fun bs hs hb1 (by omega); have kp := rParts_fun (bs ++ hs) (Cc bs) _ _ _ c1 c2 c3 x3 y3 z3 (by omega); have hcl := cells_len (p := pT) x3 y3 z3; have hfe : Dg bs hs = (Ff pT (FJ fX (Cc bs) (bs ++ hs)) (FJ fY (Cc bs) (bs ++ hs)) (FJ fZ (Cc bs) (bs ++ hs))).filter (inP bs hs) := cellsX_filter _ _ _ _; have hpo := fun b hb => cellp_bd (p := pT) hok (b := b) hb; rw [hfe]; obtain ⟨H, hH⟩ : ∃ H, H = Cc bs := ⟨_, rfl⟩; rw [← hH] at kh kp hcl hpo ⊢; obtain ⟨L, hL⟩ : ∃ L, L = Ff pT (FJ fX H (bs ++ hs)) (FJ fY H (bs ++ hs)) (FJ fZ H (bs ++ hs)) := ⟨_, rfl⟩; rw [← hL] at kp hcl hpo ⊢; clear hL hH c1 c2 c3 hfe x3 y3 z3
  refine Fun.of (nt := 61) (rs := [.tmp 2]) Tryz.func64 rfl rfl rfl rfl rfl (Ac fun _ w=>A4 (Be _ true) (Aa Ae (Ad w (AT (Wk.frzv 1 []) (Ev.stp (m := 8) (L0 := #[false, false, false, false, false, false, false, false]) rfl (by kernel_rfl) (by exact rfl) fun _ w=>(HP.fa (i := 1) DP (by rw [CF]; decide) rfl (h := (HP.ls1 (i := 2) CI rfl (h := (HP.fa (i := 4) E6 (by rw [CF]; decide) rfl (h := (HP.ls1 (i := 5) CI rfl (h := (.done (AN (i := 0) trivial rfl (A4 (v := .als 1 0 ([] : List (Bx)).length) (o := ⟨true, 100, 6, ([] : List (Bx)).map Bx.c, true⟩) (C3 [] true Bs BS AB) (AD (AN (i := 3) trivial rfl (DJ [] Bs BS AB am_by100 (hh := Cu) (hr := rows_sh) (h := AD (AN (i := 6) trivial rfl (DJ [] Bs BS AB am_by100 (hh := Cu) (hr := rows_sh) (h := AD (AN (i := 7) trivial rfl (Aa Ae (AD (Cw trivial (by kernel_rfl) (w _ (Ac fun _ w=>Aa Ab (Aa (BF _ FS E7) (A3 (hF := kh) (h := (SeqL.weaken (Wk.frzl (f := Bx.c) (bs ++ hs) 17 []) (A3 (hF := kp) (h := Aa Ae (Ad w (Ac fun _ w=>Aa Ae (Ad w (An (Ac fun _ w=>Aa Ae (Ad w (Ar (AT (Wk.nown Bx.c 5 100 6) (AI (ι := {p : List (Bx) × List (Bx) // p.1 ++ p.2 = L ∧ True}) [4] [1, 4] (fun ⟨(pre, suf), _⟩ => [(6, iL (pre.length : Int)), (5, .als 0 0 (pre.filter (inP bs hs)).length)]) (fun ⟨(pre, suf), _⟩ => [(0, ⟨true, 100, 6, (pre.filter (inP bs hs)).map Bx.c, true⟩)]) (fun ⟨(pre, suf), _⟩ => suf.length) ⟨([], L), rfl, trivial⟩ (.c (.c .n)) (Aj) (Ag (h := (Ag))) ?_))))))))))))))))))))))))))))))))))))))))))))
  rintro ⟨⟨pre, suf⟩, hp, hinv⟩ R0 hR0; dsimp only [cA, nA, lC, lN]
  simp only at hp hinv
  have hpl := Cd hp
  rcases suf with _ | ⟨s, suf⟩
  · rw [List.append_nil] at hp; simp only [lN] at hpl; refine An (Ac fun _ w=>Aa Ab (Aa Ab (Aa (A7 Bs) (Aa Ay (Ad w (Ax (fun c1 => ?_) (fun c1 => ?_)))))))
    · omega
    refine AO (hR0 _ _ (Ac fun _ w=>Aa Ab (Aa Ae (Ad w (AT (Wk.frz 2 []) (Af (Aq ?_))))))); rw [← hp]
  simp only [lC] at hpl; have hidx := Ch hp; have hso := hpo s (by rw [← hp]; simp); have hfl : (pre.filter (inP bs hs)).length ≤ pre.length := List.length_filter_le _ _; have ft := flt_t (hs := hs) (pre := pre) hbo hso; have ff1 := flt_f1 (hs := hs) (pre := pre) hbo hso; have ff2 := flt_f2 (bs := bs) (hs := hs) (pre := pre) (s := s); obtain ⟨s1, s2, s3, s4, s5, s6⟩ := s; refine An (Ac fun _ w=>Aa Ab (Aa Ab (Aa (A7 Bs) (Aa Ay (Ad w (Ax (fun c2 => ?_) (fun c2 => ?_)))))))
  · refine As (An (Ar (Ac fun _ w=>Aa Ab (Aa Ab (Aa (AL Bs AB (hl := (by exact AY hidx (by omega)))) (Aa (BF _ Bq AB) (A4 (Bd BS) (AC _ true [_] CK AB (h := Ad w (Ac fun _ w=>Aa Ae (Ad w (An (Ac fun _ w=>Aa Ae (Ad w (Ar (AI (ι := {k : Nat // k ≤ hs.length}) [0, 1] [1, 4, 6, 7] (fun ⟨k, _⟩ => [(9, iL (k : Int)), (8, bL (decide (∃ x ∈ hs.take k, Fm x ⟨s1, s2, s3, s4, s5, s6⟩))), (5, .als 0 0 (pre.filter (inP bs hs)).length)]) (fun ⟨k, _⟩ => [(0, ⟨true, 100, 6, (pre.filter (inP bs hs)).map Bx.c, true⟩), (1, ⟨false, 100, 6, [[iL (s1), iL (s2), iL (s3), iL (s4), iL (s5), iL (s6)]], true⟩)]) (fun ⟨k, _⟩ => hs.length - k) ⟨0, by omega⟩ (.c (.c (.c (.c .n)))) (Aj (h := (Aj))) (Ag (h := (Ag (he := (by exact bF (by simp))) (h := (Ag))))) ?_)))))))))))))))); rintro ⟨k, hk2⟩ R2 hR2; dsimp only [cA, nA, lC, lN]
    by_cases hkl : k < hs.length
    rotate_left
    · have htk : hs.take k = hs := List.take_of_length_le (by omega); refine An (Ac fun _ w=>Aa Ab (Aa (BP 1 E6 CF) (Aa (Bc CI) (Aa (A7 Bs) (Aa Ay (Ad w (Ax (fun c3 => ?_) (fun c3 => ?_))))))))
      · omega
      refine AO (hR2 _ _ (Ac fun _ w=>Aa Ab (Aa BB (DV Ab (fun c4 => ?_) (fun c4 => ?_)))))
      · refine Aa (BP 0 DP CF) (Aa (Bc CI) (Aa (Av _ Bq AB) (A3 (hF := rin_fun bs ⟨s1, s2, s3, s4, s5, s6⟩ hso (by omega)) (h := Aa A5 (Ad w (Ax (fun c5 => ?_) (fun c5 => ?_)))))))
        · refine Ao fun _ w=>Aa Ab (Aa (Av _ Bq AB) (A4 (C3 [[_, _, _, _, _, _]] true Bs BS AB) (DJ [_, _] Bs BS AB am_by100 (hh := Cu) (hr := (CS [(⟨s1, s2, s3, s4, s5, s6⟩ : Bx)])) (h := Aa Ae (Ad w ?_))))); show Ev _ _ _ _; refine Ao fun _ w=>Aa Ab (Aa A6 (Aa Ae (Ad w (hR0 _ _ (A8 [3] [1, 4] ⟨(pre ++ [⟨s1, s2, s3, s4, s5, s6⟩], suf), B2 hp, trivial⟩ BX (Aj (he := (by rw [ft ‹_› (htk ▸ ‹_›), List.map_append] <;> rfl))) (Ag (he := (by congr 2; simp)) (h := (Ag (he := (by exact congrArg (fun q => AV.als _ 0 (List.length q)) (ft ‹_› (htk ▸ ‹_›)).symm))))) (.c (.c .n))))))); skip
        refine As (Ao fun _ w=>Aa Ab (Aa A6 (Aa Ae (Ad w (hR0 _ _ (A8 [0] [1, 4] ⟨(pre ++ [⟨s1, s2, s3, s4, s5, s6⟩], suf), B2 hp, trivial⟩ BX (Aj (he := (by rw [ff1 ‹_›]))) (Ag (he := (by congr 2; simp)) (h := (Ag (he := (by exact congrArg (fun q => AV.als _ 0 (List.length q)) (ff1 ‹_›).symm))))) (.c (.c .n)))))))); skip
      refine Ai (Ai (Aa Au (Ad w (Ei (As (Ao fun _ w=>Aa Ab (Aa A6 (Aa Ae (Ad w (hR0 _ _ (A8 [0] [1, 4] ⟨(pre ++ [⟨s1, s2, s3, s4, s5, s6⟩], suf), B2 hp, trivial⟩ BX (Aj (he := (by rw [ff2 (htk ▸ ‹_›)]))) (Ag (he := (by congr 2; simp)) (h := (Ag (he := (by exact congrArg (fun q => AV.als _ 0 (List.length q)) (ff2 (htk ▸ ‹_›)).symm))))) (.c (.c .n))))))))))))); skip
    obtain ⟨h, hh⟩ : ∃ h, hs[k]? = some h := ⟨_, List.getElem?_eq_getElem hkl⟩; refine An (Ac fun _ w=>Aa Ab (Aa (BP 1 E6 CF) (Aa (Bc CI) (Aa (A7 Bs) (Aa Ay (Ad w (Ax (fun c6 => ?_) (fun c6 => ?_))))))))
    · refine As (An (Ar (CH (C8 [(0, 0), (1, 1), (2, 3), (3, 7), (2, 3), (5, 31), (6, 63), (2, 3), (8, 255), (9, 511), (10, 1023)]) 10 fun _ w=>Ak Ab (M.bd Ab (fun c7 => ?_) (fun c7 => ?_)))))
      · refine AE (AE (AE (AE (AE (AE (AE (Ak A5 (Bz [_, _] (h := Aa Ae (Ad w ?_)))))))))); show Ev _ _ _ _; refine Ao fun _ w=>Aa Ab (Aa A6 (Aa Ae (Ad w (hR2 _ _ (A8 [0, 1] [1, 4, 6, 7] ⟨k + 1, by omega⟩ ?_ (Aj (h := (Aj))) (Ag (h := (Ag (he := (by exact bT (ex_mono hh ‹_›))) (h := (Ag))))) (.c (.c (.c (.c .n))))))))); skip; all_goals (dsimp only; omega)
      refine Ak (BP 1 E6 CF) (Ak (Bc CI) (Ak Ab (Ak (AL Bs AB (hl := (by exact AY hh (by omega)))) (Ak (BF _ Bq AB) (Ak (Av _ Bq AB) (B1 (hF := rcuts_fun h ⟨s1, s2, s3, s4, s5, s6⟩) (h := Ak Au (Bz [_, _] (h := Aa Ae (Ad w ?_)))))))))); show Ev _ _ _ _; refine Ao fun _ w=>Aa Ab (Aa A6 (Aa Ae (Ad w (hR2 _ _ (A8 [0, 1] [1, 4, 6, 7] ⟨k + 1, by omega⟩ ?_ (Aj (h := (Aj))) (Ag (h := (Ag (he := (by exact dI (ex_step hh ‹_›))) (h := (Ag))))) (.c (.c (.c (.c .n))))))))); skip; all_goals (dsimp only; omega)
    omega
  omega
theorem pfx_of {all pre suf : List Bx} {s : Bx} (h : pre ++ s :: suf = all) : Pfx all pre s := ⟨suf, h.symm⟩
theorem pfx_le {bs hs : List Bx} (h : Eo bs hs) {pre : List Bx} {b : Bx} (hb : Pfx (Dg bs hs) pre b) : C9 pre + volB b ≤ C9 (Dg bs hs) := by
  obtain ⟨rest, e⟩ := hb
  have n2 := sum_nn (l := rest) fun x hx => by
    obtain ⟨⟨_, g1, _⟩, ⟨_, g2, _⟩, _, g3, _⟩ := cell_bd h (b := x) (by rw [e]; simp [hx]); exact vol_nn g1 g2 g3
  have e2 : C9 (Dg bs hs) = C9 pre + (volB b + C9 rest) := by
    rw [e, sumV_app]
    simp [C9]
  omega
theorem div_big {a M h : Int} (hh : 0 < h) : a > M / h ↔ a * h > M := Int.ediv_lt_iff_lt_mul hh
theorem rVolume_fun (bs hs : List Bx) (hok : Eo bs hs) : Fun Tryz.prog 34 [.agg [.sh 6 (bs.map Bx.c), .sh 6 (hs.map Bx.c)]] (AK (.tup [iL (volV bs hs), iL (volE bs hs)]) []) := by
  obtain ⟨⟨hb1, hb2⟩, hh2, _, _⟩ := id hok; have kc := rCells_fun bs hs hok; have hcl : (Dg bs hs).length ≤ 512000 := cells_len (cut_len hb2 hh2) (cut_len hb2 hh2) (cut_len hb2 hh2); have hpb := fun pre b h => pfx_bd hok (pre := pre) (b := b) h; have hpl2 := fun pre b h => pfx_le hok (pre := pre) (b := b) h; have hcb := fun b h => cell_bd hok (b := b) h; have v5 := fun h => vol_5 (bs := bs) (hs := hs) hok h; have v0 := fun h => vol_0 (bs := bs) (hs := hs) hok h; obtain ⟨L, hL⟩ : ∃ L, L = Dg bs hs := ⟨_, rfl⟩; rw [← hL] at kc hcl hpb hpl2 hcb v5 v0; clear hL hok; refine Fun.of (nt := 56) (rs := [.tmp 2, .tmp 3]) Tryz.func34 rfl rfl rfl rfl rfl (Ac fun _ z=>A4 (Be _ true) (Aa Ae (Aa Ae (Ad z (Ac fun _ z=>Aa (Av _ FS E7) (A3 (hF := kc) (h := Aa Ae (Ad z (Ac fun _ z=>Aa Ae (Ad z (An (Ac fun _ z=>Aa Ae (Ad z (Ar (AI (ι := {q : List Bx × List Bx // q.1 ++ q.2 = L ∧ 0 ≤ C9 q.1 ∧ C9 q.1 ≤ 1152921504606846976}) [] [4] (fun ⟨(pre, suf), _⟩ => [(6, iL (pre.length : Int)), (5, iL (C9 pre))]) (fun ⟨(pre, suf), _⟩ => []) (fun ⟨(pre, suf), _⟩ => suf.length) ⟨([], L), rfl, (show (0 : Int) ≤ C9 ([] : List Bx) from Int.le_refl 0), (show C9 ([] : List Bx) ≤ 1152921504606846976 by decide)⟩ (.c .n) AW (Ag (h := (Ag))) ?_))))))))))))))); rintro ⟨⟨pre, suf⟩, hp, hinv⟩ R0 hR0; dsimp only [cA, nA, lC, lN]
  simp only at hp hinv
  have hpl := Cd hp
  rcases suf with _ | ⟨s, suf⟩
  · rw [List.append_nil] at hp; simp only [lN] at hpl; obtain ⟨i1, i2⟩ := hinv; refine An (Ac fun _ z=>Aa Ab (Aa Ab (Aa (A7 Bs) (Aa Ay (Ad z (Ax (fun c1 => ?_) (fun c1 => ?_)))))))
    · omega
    refine AO (hR0 _ _ (Ac fun _ z=>Aa Ab (Aa Ae (Aa Ae (Ad z (Af (CC ?_))))))); rw [(v0 (by rw [← hp]; omega)).1, (v0 (by rw [← hp]; omega)).2, ← hp]
  simp only [lC] at hpl; have hidx := Ch hp; obtain ⟨i1, i2⟩ := hinv; have px := pfx_of hp; obtain ⟨n1, n2, n3, n4, _⟩ := hpb _ _ px; have n5 := hpl2 _ _ px; have n6 := hcb _ n4; clear n4 px; obtain ⟨s1, s2, s3, s4, s5, s6⟩ := s
  unfold volB at n2 n3 n5
  dsimp only at n2 n3 n5 n6
  have n7 := mul_bd (k := s4 - s1) (a := s5 - s2) (K := 2097152) (A := 2097152) (by omega) (by omega) (by omega) (by omega); obtain ⟨n7a, n7b⟩ := n7; refine An (Ac fun _ z=>Aa Ab (Aa Ab (Aa (A7 Bs) (Aa Ay (Ad z (Ax (fun c2 => ?_) (fun c2 => ?_)))))))
  · refine As (An (Ar (Ac fun _ z=>Aa Ab (Aa Ab (Aa (AL Bs AB (hl := (by exact AY hidx (by omega)))) (Aa (BF _ Bq AB) (A4 (Bd BS) (AC _ true [] CK AB (h := Ad z (Ac fun _ z=>Aa (Ap 3 AQ Am) (Aa (Ap 3 AU Ah) (Aa (At Al) (Aa (Ap 0 AR Am) (Aa (Ap 0 AU Ah) (Aa (At Al) (Aa BV (Aa (Ap 3 AQ Am) (Aa (Ap 4 Bi Ah) (Aa (At Al) (Aa (Ap 0 AR Am) (Aa (Ap 1 Bi Ah) (Aa (At Al) (Aa BV (Aa BM (Aa Ae (Ad z (Ac fun _ z=>Aa (Ap 3 AQ Am) (Aa (Ap 5 Bk Ah) (Aa (At Al) (Aa (Ap 0 AR Am) (Aa (Ap 2 Bk Ah) (Aa (At Al) (Aa BV (Aa Ae (Ad z (An ?_)))))))))))))))))))))))))))))))))))); have hdv := div_big (a := (s4 - s1) * (s5 - s2)) (M := 1152921504606846976 - C9 pre) (h := s6 - s3) (by omega); refine Ac fun _ z=>Aa Ab (Aa Ab (Aa BV (Aa Ab (Aa q.quo (Aa Bh (Ad z (Ax (fun c3 => ?_) (fun c3 => ?_))))))))
    · have hbg := hdv.1 ‹_›; refine Ac fun _ z=>Aa Ae (Aa Ae (Ad z (Af (hR0 _ _ (CC ?_))))); rw [(v5 (by omega)).1, (v5 (by omega)).2]
    refine As ?_; have hbg : (s4 - s1) * (s5 - s2) * (s6 - s3) ≤ 1152921504606846976 - C9 pre := Int.not_lt.1 (fun h => absurd (hdv.2 h) ‹_›); refine Ao fun _ z=>Aa Ab (Aa Ab (Aa Ab (Aa BM (Aa A6 (Aa Ae (Ad z ?_)))))); show Ev _ _ _ _; refine Ao fun _ z=>Aa Ab (Aa A6 (Aa Ae (Ad z (hR0 _ _ (A8 [] [4] ⟨(pre ++ [⟨s1, s2, s3, s4, s5, s6⟩], suf), B2 hp, ?_⟩ BX AW (Ag (he := (by congr 2; simp)) (h := (Ag (he := (by rw [sumV_snoc]; rfl))))) (.c .n))))))
    (rw [sumV_snoc]; exact ⟨by show 0 ≤ C9 pre + (s4 - s1) * (s5 - s2) * (s6 - s3); omega, by show C9 pre + (s4 - s1) * (s5 - s2) * (s6 - s3) ≤ _; omega⟩)
  omega
theorem gcd_next (a b : Nat) : Nat.gcd b (a % b) = Nat.gcd a b := by
  rw [Nat.gcd_comm b, ← Nat.gcd_rec, Nat.gcd_comm]
theorem gcd_half_l {a b : Nat} (ha : a % 2 = 0) (hb : b % 2 = 1) : Nat.gcd (a / 2) b = Nat.gcd a b := by
  obtain ⟨c, rfl⟩ : ∃ c, a = 2 * c := ⟨a / 2, by omega⟩; rw [Nat.mul_div_cancel_left c (by decide)]
  have h : Nat.Coprime 2 b := by
    rw [Nat.coprime_iff_gcd_eq_one, Nat.gcd_rec, hb]; rfl
  exact (h.gcd_mul_left_cancel c).symm
theorem gcd_half_r {a b : Nat} (ha : a % 2 = 1) (hb : b % 2 = 0) : Nat.gcd a (b / 2) = Nat.gcd a b := by
  rw [Nat.gcd_comm, gcd_half_l hb ha, Nat.gcd_comm]
theorem gcd_half2 {a b : Nat} (ha : a % 2 = 0) (hb : b % 2 = 0) : Nat.gcd (a / 2) (b / 2) * 2 = Nat.gcd a b := by
  obtain ⟨c, rfl⟩ : ∃ c, a = 2 * c := ⟨a / 2, by omega⟩; obtain ⟨d, rfl⟩ : ∃ d, b = 2 * d := ⟨b / 2, by omega⟩; rw [Nat.mul_div_cancel_left c (by decide), Nat.mul_div_cancel_left d (by decide), Nat.gcd_mul_left, Nat.mul_comm]
theorem gcd_sub' {a b : Nat} (h : b ≤ a) : Nat.gcd (a - b) b = Nat.gcd a b := Nat.gcd_sub_self_left h
def G1 (a0 b0 a b t : Nat) : Prop := (0 < a ∧ 0 < b) ∧ (a ≤ a0 ∧ b ≤ b0) ∧ Nat.gcd a b * 2 ^ t = Nat.gcd a0 b0
def G2 (a0 b0 a b t : Nat) : Prop := 0 < b ∧ (a ≤ max a0 b0 ∧ b ≤ max a0 b0) ∧ (a % 2 = 1 ∨ b % 2 = 1) ∧ Nat.gcd a b * 2 ^ t = Nat.gcd a0 b0
theorem G1.init {a b : Nat} (ha : 0 < a) (hb : 0 < b) : G1 a b a b 0 := ⟨⟨ha, hb⟩, ⟨Nat.le_refl _, Nat.le_refl _⟩, by simp⟩
theorem G1.step {a0 b0 a b t : Nat} (h : G1 a0 b0 a b t) (ha : a % 2 = 0) (hb : b % 2 = 0) : G1 a0 b0 (a / 2) (b / 2) (t + 1) := by
  obtain ⟨h1, h2, h3⟩ := h; refine ⟨by omega, by omega, ?_⟩; rw [Nat.pow_succ, Nat.mul_comm (2 ^ t), ← Nat.mul_assoc, gcd_half2 ha hb, h3]
theorem G1.to {a0 b0 a b t : Nat} (h : G1 a0 b0 a b t) (ho : a % 2 = 1 ∨ b % 2 = 1) : G2 a0 b0 a b t := ⟨h.1.2, by have := h.2.1; omega, ho, h.2.2⟩
theorem G2.left {a0 b0 a b t : Nat} (h : G2 a0 b0 a b t) (ha : a % 2 = 0) : G2 a0 b0 (a / 2) b t := by
  obtain ⟨h1, h2, h3, h4⟩ := h; exact ⟨h1, by omega, by omega, by rw [gcd_half_l ha (by omega), h4]⟩
theorem G2.right {a0 b0 a b t : Nat} (h : G2 a0 b0 a b t) (hb : b % 2 = 0) : G2 a0 b0 a (b / 2) t := by
  obtain ⟨h1, h2, h3, h4⟩ := h; exact ⟨by omega, by omega, by omega, by rw [gcd_half_r (by omega) hb, h4]⟩
theorem G2.sub {a0 b0 a b t : Nat} (h : G2 a0 b0 a b t) (hb : b % 2 = 1) (hl : ¬ a < b) : G2 a0 b0 (a - b) b t := by
  obtain ⟨h1, h2, h3, h4⟩ := h; exact ⟨h1, by omega, .inr hb, by rw [gcd_sub' (by omega), h4]⟩
theorem G2.swap {a0 b0 a b t : Nat} (h : G2 a0 b0 a b t) (ha : a % 2 = 1) (hl : a < b) : G2 a0 b0 (b - a) a t := by
  obtain ⟨h1, h2, h3, h4⟩ := h; exact ⟨by omega, by omega, .inr ha, by rw [gcd_sub' (by omega), Nat.gcd_comm, h4]⟩
theorem G2.fin {a0 b0 b t : Nat} (h : G2 a0 b0 0 b t) : b * 2 ^ t = Nat.gcd a0 b0 := by
  have := h.2.2.2
  rwa [Nat.gcd_zero_left] at this
theorem dbl {b t g : Nat} (h : b * 2 ^ t = g) (ht : 0 < t) : (b + b) * 2 ^ (t - 1) = g ∧ b + b ≤ g := by
  obtain ⟨t, rfl⟩ : ∃ s, t = s + 1 := ⟨t - 1, by omega⟩
  have e : (b + b) * 2 ^ t = g := by rw [← h, Nat.pow_succ, Nat.add_mul, ← Nat.mul_assoc]; omega
  refine ⟨e, ?_⟩; rw [← e]; exact Nat.le_mul_of_pos_right _ (Nat.pow_pos (by decide))
def uC (a : Nat) : List AV := [.lit (.int .u64 ((a : Int) / 18446744073709551616)), .lit (.int .u64 ((a : Int) % 18446744073709551616))]
def ES (a : Nat) : Prop := a < 340282366920938463463374607431768211456
theorem uE {x y : Int} {a : Nat} (h1 : x = (a : Int) / 18446744073709551616) (h2 : y = (a : Int) % 18446744073709551616) : AV.agg [.lit (.int .u64 x), .lit (.int .u64 y)] = .agg (uC a) := by
  subst h1 h2; rfl
theorem u0_t {a : Nat} (h : (decide ((a : Int) / 18446744073709551616 = 0) && (decide ((a : Int) % 18446744073709551616 = 0) && true)) = true) : a = 0 := by
  simp only [Bool.and_eq_true, decide_eq_true_eq, and_true] at h; omega
theorem u0_f {a : Nat} (h : (decide ((a : Int) / 18446744073709551616 = 0) && (decide ((a : Int) % 18446744073709551616 = 0) && true)) = false) : 0 < a := by
  rcases Nat.eq_zero_or_pos a with e | e
  · subst e
    simp at h
  exact e
theorem u0n_t {a : Nat} (h : (!(decide ((a : Int) / 18446744073709551616 = 0) && (decide ((a : Int) % 18446744073709551616 = 0) && true))) = true) : 0 < a := u0_f (by rw [Bool.not_eq_true'] at h; exact h)
theorem u0n_f {a : Nat} (h : (!(decide ((a : Int) / 18446744073709551616 = 0) && (decide ((a : Int) % 18446744073709551616 = 0) && true))) = false) : a = 0 := u0_t (by rw [Bool.not_eq_false'] at h; exact h)
theorem rtsize_fun (n : Nat) (h : n ≤ 9223372036854775807) : Fun Tryz.prog 61 [iL (n : Int)] (AK (.lit (.int .u64 (n : Int))) []) := by
  refine Fun.of (nt := 10) (rs := [.tmp 2]) Tryz.func61 rfl rfl rfl rfl rfl (Ac fun _ k=>Aa Ae (Ad k (An (Ac fun _ k=>Aa Ab (Aa Ay (Ad k (Ax (fun c1 => ?_) (fun c1 => ?_))))))))
  · omega
  refine As (Ac fun _ k=>Aa Ab (Aa (q.cvu am_un112 am_us3) (Aa Ae (Ad k (Af (Aq ?_)))))); rfl
theorem r2size_fun (n : Nat) (h : n ≤ 9223372036854775807) : Fun Tryz.prog 66 [iL (n : Int)] (AK (.lit (.int .u64 (n : Int))) []) := by
  refine Fun.of (nt := 10) (rs := [.tmp 2]) Tryz.func66 rfl rfl rfl rfl rfl (Ac fun _ k=>Aa Ae (Ad k (An (Ac fun _ k=>Aa Ab (Aa Ay (Ad k (Ax (fun c1 => ?_) (fun c1 => ?_))))))))
  · omega
  refine As (Ac fun _ k=>Aa Ab (Aa (q.cvu am_un112 am_us3) (Aa Ae (Ad k (Af (Aq ?_)))))); rfl
theorem rtgcd_fun (a b : Nat) (ha : a ≤ 18446744073709551615) (hb : b ≤ 18446744073709551615) : Fun Tryz.prog 62 [.lit (.int .u64 (a : Int)), .lit (.int .u64 (b : Int))] (AK (.lit (.int .u64 ((Nat.gcd a b : Nat) : Int))) []) := by
  refine Fun.of (nt := 12) (rs := [.tmp 4]) Tryz.func62 rfl rfl rfl rfl rfl (Ac fun _ k=>Aa Ae (Ad k (An (Ar (AI (ι := {q : Nat × Nat // Nat.gcd q.1 q.2 = Nat.gcd a b ∧ q.1 ≤ 18446744073709551615 ∧ q.2 ≤ 18446744073709551615}) [] [] (fun ⟨(x, y), _⟩ => [(0, .lit (.int .u64 (x : Int))), (1, .lit (.int .u64 (y : Int)))]) (fun ⟨(x, y), _⟩ => []) (fun ⟨(x, y), _⟩ => y) ⟨(a, b), rfl, ha, hb⟩ .n AW (Ag (h := (Ag))) ?_))))); rintro ⟨⟨x, y⟩, hxy⟩ R0 hR0; dsimp only [cA, nA, lC, lN]
  dsimp only at hxy
  refine An (Ac fun _ k=>Aa Ab (Aa Dk (Ad k (Cb (fun c1 => ?_) (fun c1 => ?_)))))
  · refine As (Ar (Ev.rtp (m := 6) (L0 := #[false, false, false, false, false, false]) rfl (by kernel_rfl) (by exact rfl) fun _ k=>(HP.mv (i := 0) rfl (h := (HP.mv (i := 1) rfl (h := (HP.mv (i := 2) rfl (h := (HP.q (i := 3) rfl (qu.rem) (.done (AN (i := 4) trivial rfl (Aa Ae (AD (AN (i := 5) trivial rfl (Aa Ae (AD (Cw trivial (by kernel_rfl) (k _ (hR0 _ _ (A8 [] [] ⟨(y, x % y), (gcd_next x y).trans hxy.1, hxy.2.2, by have := Nat.mod_lt x (show 0 < y by omega); omega⟩ ?_ AW (Ag (h := (Ag))) .n)))))))))))))))))))); skip; all_goals (exact Nat.mod_lt _ (by omega))
  refine AO (hR0 _ _ (Ac fun _ k=>Aa Ab (Aa Ae (Ad k (Af (Aq ?_))))))
  (have hy0 : y = 0 := (by omega); subst hy0; rw [← hxy.1, Nat.gcd_zero_right]; done)
def sgV (neg : Bool) (n : Int) : Int := if neg = true then 0 - n else n
theorem signed_fun (neg : Bool) (n d : Nat) (hn : n ≤ 1152921504606846976) (hd : d ≤ 1152921504606846976) : Fun Tryz.prog 63 [bL neg, .lit (.int .u64 (n : Int)), .lit (.int .u64 (d : Int))] (AK (.tup [.agg (CB (sgV neg n, (d : Int))), iL 0]) []) := by
  have e1 : neg = true → sgV neg n = 0 - (n : Int) := fun h => if_pos h; have e2 : neg = false → sgV neg n = (n : Int) := fun h => if_neg (by rw [h]; decide); refine Fun.of (nt := 25) (rs := [.cell 6 46, .tmp 7]) Tryz.func63 rfl rfl rfl rfl rfl (Ac fun _ k=>A4 (Bd DC) (Aa Ae (Ad k (An (Ac fun _ k=>Aa Ab (Aa Bh (AP Ab (fun c1 => ?_) (fun c1 => ?_))))))))
  · omega
  refine Aa Ab (Aa Bh (Aa Au (Ad k (Ax (fun c2 => ?_) (fun c2 => ?_)))))
  · omega
  refine As (Ac fun _ k=>Aa Ab (Aa (q.cvi Cl am_us112) (Aa Ae (Ad k (An (Ac fun _ k=>Aa Ab (Ad k (Ev.c (fun c3 => ?_) (fun c3 => ?_)))))))))
  · refine Ao fun _ k=>Aa Ab (Aa q.neg (Aa Ae (Ad k ?_))); show Ev _ _ _ _; refine Ac fun _ k=>Aa Ab (Aa Ab (Aa (q.cvi Cl am_us112) (Aa (Bj _ DC am_pl46) (AC _ true [] E2 C0 (h := Aa Ae (Ad k (Af (Cv (B7 [_, _] EB C0 (DI BC)) (⟨?_, rfl⟩))))))))); rw [e1 ‹_›]; rfl
  refine As (Ac fun _ k=>Aa Ab (Aa Ab (Aa (q.cvi Cl am_us112) (Aa (Bj _ DC am_pl46) (AC _ true [] E2 C0 (h := Aa Ae (Ad k (Af (Cv (B7 [_, _] EB C0 (DI BC)) (⟨?_, rfl⟩)))))))))); rw [e2 ‹_›]; rfl
theorem rtMake_fun (n d : Nat) (hn : n ≤ 1152921504606846976) (hd : d ≤ 1152921504606846976) (h0 : 0 < d) : Fun Tryz.prog 33 [iL (n : Int), iL (d : Int)] (AK (.tup [.agg (CB (((n / Nat.gcd n d : Nat) : Int), ((d / Nat.gcd n d : Nat) : Int))), iL 0]) []) := by
  have hg : 0 < Nat.gcd n d := Nat.gcd_pos_of_pos_right n h0; have hgl : Nat.gcd n d ≤ d := Nat.gcd_le_right n h0; have hq1 : n / Nat.gcd n d ≤ n := Nat.div_le_self _ _; have hq2 : d / Nat.gcd n d ≤ d := Nat.div_le_self _ _; have e1 : ∀ r : Bool, r = false → sgV r ((n / Nat.gcd n d : Nat) : Int) = ((n / Nat.gcd n d : Nat) : Int) := fun r h => if_neg (by rw [h]; decide)
  have hneg : (!(decide ((n : Int) < 0) == decide ((d : Int) < 0))) = false := by
    rw [decide_eq_false (by omega), decide_eq_false (by omega)]; rfl
  obtain ⟨g, hge⟩ : ∃ g, g = Nat.gcd n d := ⟨_, rfl⟩; have hgf := rtgcd_fun n d (by omega) (by omega); rw [← hge] at hg hgl hq1 hq2 e1 hgf ⊢; refine Fun.of (nt := 37) (rs := [.cell 4 46, .tmp 5]) Tryz.func33 rfl rfl rfl rfl rfl (Ac fun _ k=>A4 (Bd DC) (Aa Ae (Ad k (An (Ac fun _ k=>Aa Ab (Aa B6 (Ad k (Ax (fun c1 => ?_) (fun c1 => ?_)))))))))
  · omega
  refine As (Ac fun _ k=>Aa Ab (A3 (hF := rtsize_fun n (by omega)) (h := Aa Ab (A3 (hF := rtsize_fun d (by omega)) (h := Aa Ae (Aa Ae (Ad k (Ac fun _ k=>Aa Ab (Aa Ab (A3 (hF := hgf) (h := Aa Ae (Ad k (Ck (C8 [(0, 0), (1, 1), (2, 3), (3, 7), (4, 15), (3, 7), (6, 39), (7, 127), (8, 255), (0, 0), (0, 0), (11, 1536), (0, 0), (0, 0), (14, 12288), (15, 32767), (16, 65535), (16, 65535), (18, 262143), (19, 524287)]) 18 fun _ k=>Ak Ab (Ak Dk (M.bn Ab (fun c2 => ?_) (fun c2 => ?_))))))))))))))))
  · refine Ak Ab (Ak Ay (Ak Ab (Ak Ay (Ak (q.bneq am_un4) (Ak A5 (Ak Ab (Ak Ab (Ak qu.quo (Ak Ab (Ak Ab (Ak qu.quo (B1 (hF := signed_fun _ (n / g) (d / g) (by omega) (by omega)) (h := Ak BA (Ak BA (Bz [_] (h := AC _ true [] E2 C0 (h := Aa Ae (Ad k (Af (Cv (B7 [_, _] EB C0 (DI BC)) (⟨?_, rfl⟩))))))))))))))))))))); rfl
  refine AE (AE (AE (AE (AE (Ak Au (Ak Ab (Ak Ab (Ak qu.quo (Ak Ab (Ak Ab (Ak qu.quo (B1 (hF := signed_fun _ (n / g) (d / g) (by omega) (by omega)) (h := Ak BA (Ak BA (Bz [_] (h := AC _ true [] E2 C0 (h := Aa Ae (Ad k (Af (Cv (B7 [_, _] EB C0 (DI BC)) (⟨?_, rfl⟩))))))))))))))))))))); rfl
theorem Cx (a : Nat) (ha : ES a) : Fun Tryz.prog 167 [.agg (uC a)] (AK (.agg (uC (a / 2))) []) := by
  unfold ES at ha
  refine Fun.of (nt := 14) (rs := [.cell 2 122]) Tryz.func167 rfl rfl rfl rfl rfl (Ac fun _ z=>A4 (Be _ true) (A4 (Bd Cy) (Ad z (Ac fun _ z=>Aa (Ap 0 DH BW) (Aa (At BN) (Aa (qu.shr 2 rfl) (Aa (Ap 1 Cr BW) (Aa (At BN) (Aa (qu.shr 2 rfl) (Aa (Ap 0 DH BW) (Aa (At BN) (Aa (qu.shl 9223372036854775808 rfl) (Aa qu.addB (Aa (Bj _ Cy D8) (AC _ true [_] Bf AA (h := Ad z (Af (BD (B7 [_, _] Bp AA BC) (⟨?_, rfl⟩))))))))))))))))))); exact uE (by omega) (by omega)
theorem less_fun (a b : Nat) (ha : ES a) (hb : ES b) : Fun Tryz.prog 168 [.agg (uC a), .agg (uC b)] (AK (bL (decide (a < b))) []) := by
  unfold ES at ha hb
  refine Fun.of (nt := 24) (rs := [.tmp 4]) Tryz.func168 rfl rfl rfl rfl rfl (Ac fun _ z=>A4 (Be _ true) (A4 (Be _ true) (Aa Ae (Ad z (Ac fun _ z=>Aa (Ap 0 DH BW) (Aa (At BN) (Aa (Ap 0 DH BW) (Aa (At BN) (Aa Ay (AP Ab (fun c1 => ?_) (fun c1 => ?_)))))))))))
  · refine Ai (Ai (Ai (Ai (Ai (Ai (Aa A5 (Aa Ae (Ad z (Af (Aq ?_)))))))))); exact bT (by omega)
  refine Aa (Ap 0 DH BW) (Aa (At BN) (Aa (Ap 0 DH BW) (Aa (At BN) (Aa B6 (AP Ab (fun c2 => ?_) (fun c2 => ?_))))))
  · refine Aa (Ap 1 Cr BW) (Aa (At BN) (Aa (Ap 1 Cr BW) (Aa (At BN) (Aa Ay (Aa A5 (Aa Au (Aa Ae (Ad z (Af (Aq ?_)))))))))); exact dI (by omega)
  refine Ai (Ai (A9 (Aa Au (Aa Au (Aa Ae (Ad z (Af (Aq ?_)))))))); exact bF (by omega)
theorem uplus_fun (a b : Nat) (h : ES (a + b)) : Fun Tryz.prog 170 [.agg (uC a), .agg (uC b)] (AK (.agg (uC (a + b))) []) := by
  unfold ES at h
  refine Fun.of (nt := 26) (rs := [.cell 4 122]) Tryz.func170 rfl rfl rfl rfl rfl (Ac fun _ z=>A4 (Be _ true) (A4 (Be _ true) (A4 (Bd Cy) (Ad z (Ac fun _ z=>Aa (Ap 1 Cr BW) (Aa (At BN) (Aa (Ap 1 Cr BW) (Aa (At BN) (Aa qu.add (Aa Ae (Ad z (Ac fun _ z=>Aa (Ap 0 DH BW) (Aa (At BN) (Aa (Ap 0 DH BW) (Aa (At BN) (Aa qu.add (Aa Ae (Ad z (An (Ac fun _ z=>Aa Ab (Aa (Ap 1 Cr BW) (Aa (At BN) (Aa Ay (Ad z (Ax (fun c1 => ?_) (fun c1 => ?_))))))))))))))))))))))))))
  · refine Ao fun _ z=>Aa Ab (Aa qu.add (Aa Ae (Ad z ?_))); show Ev _ _ _ _; refine Ac fun _ z=>Aa Ab (Aa Ab (Aa (Bj _ Cy D8) (AC _ true [_, _] Bf AA (h := Ad z (Af (BD (B7 [_, _] Bp AA BC) (⟨?_, rfl⟩))))))); exact uE (by omega) (by omega)
  refine As (Ac fun _ z=>Aa Ab (Aa Ab (Aa (Bj _ Cy D8) (AC _ true [_, _] Bf AA (h := Ad z (Af (BD (B7 [_, _] Bp AA BC) (⟨?_, rfl⟩)))))))); exact uE (by omega) (by omega)
theorem uminus_fun (a b : Nat) (ha : ES a) (h : b ≤ a) : Fun Tryz.prog 169 [.agg (uC a), .agg (uC b)] (AK (.agg (uC (a - b))) []) := by
  unfold ES at ha
  refine Fun.of (nt := 25) (rs := [.cell 4 122]) Tryz.func169 rfl rfl rfl rfl rfl (Ac fun _ z=>A4 (Be _ true) (A4 (Be _ true) (A4 (Bd Cy) (Ad z (Ac fun _ z=>Aa (Ap 0 DH BW) (Aa (At BN) (Aa (Ap 0 DH BW) (Aa (At BN) (Aa qu.sub (Aa Ae (Ad z (An (Ac fun _ z=>Aa (Ap 1 Cr BW) (Aa (At BN) (Aa (Ap 1 Cr BW) (Aa (At BN) (Aa Ay (Ad z (Ax (fun c1 => ?_) (fun c1 => ?_))))))))))))))))))))
  · refine Ao fun _ z=>Aa Ab (Aa qu.sub (Aa Ae (Ad z ?_))); show Ev _ _ _ _; refine Ac fun _ z=>Aa Ab (Aa (Ap 1 Cr BW) (Aa (At BN) (Aa (Ap 1 Cr BW) (Aa (At BN) (Aa qu.sub (Aa (Bj _ Cy D8) (AC _ true [_, _] Bf AA (h := Ad z (Af (BD (B7 [_, _] Bp AA BC) (⟨?_, rfl⟩))))))))))); exact uE (by omega) (by omega)
  refine As (Ac fun _ z=>Aa Ab (Aa (Ap 1 Cr BW) (Aa (At BN) (Aa (Ap 1 Cr BW) (Aa (At BN) (Aa qu.sub (Aa (Bj _ Cy D8) (AC _ true [_, _] Bf AA (h := Ad z (Af (BD (B7 [_, _] Bp AA BC) (⟨?_, rfl⟩)))))))))))); exact uE (by omega) (by omega)
theorem pow_lt {t : Nat} (h : 2 ^ t < 340282366920938463463374607431768211456) : t < 128 := by
  have e : (340282366920938463463374607431768211456 : Nat) = 2 ^ 128 := by decide
  rw [e] at h; exact (Nat.pow_lt_pow_iff_right (by decide)).1 h
theorem t_bd {g x t b : Nat} (h : x * 2 ^ t = g) (hx : 0 < x) (hg : g ≤ b) (hb : ES b) : t < 128 := by
  refine pow_lt (Nat.lt_of_le_of_lt ?_ hb); exact Nat.le_trans (Nat.le_trans (Nat.le_mul_of_pos_left _ hx) (Nat.le_of_eq h)) hg
theorem ugcd_fun (a b : Nat) (ha : ES a) (hb : ES b) (h0 : 0 < b) : Fun Tryz.prog 119 [.agg (uC a), .agg (uC b)] (AK (.agg (uC (Nat.gcd a b))) []) := by
  have hgb : Nat.gcd a b ≤ b := Nat.gcd_le_right a h0; have hgp : 0 < Nat.gcd a b := Nat.gcd_pos_of_pos_right a h0; have hgu : ES (Nat.gcd a b) := Nat.lt_of_le_of_lt hgb hb
  have hz : a = 0 → Nat.gcd a b = b := fun h => by rw [h, Nat.gcd_zero_left]
  have hm : ∀ {x : Nat}, x ≤ a → ES x := fun h => Nat.lt_of_le_of_lt h ha; have hm2 : ∀ {x : Nat}, x ≤ b → ES x := fun h => Nat.lt_of_le_of_lt h hb
  have hmx : ∀ {x : Nat}, x ≤ max a b → ES x := fun h => by unfold ES at ha hb ⊢; omega
  refine Fun.of (nt := 57) (rs := [.cell 4 122]) Tryz.func119 rfl rfl rfl rfl rfl (Ac fun _ z=>A4 (Be _ true) (A4 (Be _ true) (A4 (Bd Cy) (Ad z (An (Ac fun _ z=>Aa (Av _ Bp AA) (Aa (Bj _ Cy D8) (Aa (q.seql am_eq122 (am_sq122 _ _ _ _)) (Ad z (Ev.c (fun c1 => ?_) (fun c1 => ?_)))))))))))
  · refine Ac fun _ z=>Aa (Av _ Bp AA) (AC _ true [_, _] Bf AA (h := Ad z (Af (BD (B7 [_, _] Bp AA BC) (⟨?_, rfl⟩))))); rw [hz (u0_t ‹_›)]; rfl
  refine As ?_; have hap := u0_f ‹_›; refine Ac fun _ z=>Aa Ae (Ad z (An (Ar (AI (ι := {q : Nat × Nat × Nat // G1 a b q.1 q.2.1 q.2.2}) [0, 1, 2] [2, 3, 4] (fun ⟨(x, y, t), _⟩ => [(5, iL (t : Int))]) (fun ⟨(x, y, t), _⟩ => [(0, ⟨false, 122, 2, [[.lit (.int .u64 ((x : Int) / 18446744073709551616)), .lit (.int .u64 ((x : Int) % 18446744073709551616))]], true⟩), (1, ⟨false, 122, 2, [[.lit (.int .u64 ((y : Int) / 18446744073709551616)), .lit (.int .u64 ((y : Int) % 18446744073709551616))]], true⟩), (2, ⟨false, 122, 2, [[.lit (.int .u64 (0)), .lit (.int .u64 (0))]], true⟩)]) (fun ⟨(x, y, t), _⟩ => x) ⟨(a, b, 0), G1.init hap h0⟩ (.c (.c (.c .n))) (Aj (h := (Aj (h := (Aj))))) (Ag) ?_)))); rintro ⟨⟨x, y, t⟩, hxy⟩ R0 hR0; dsimp only [cA, nA, lC, lN]
  dsimp only at hxy
  have htb := t_bd hxy.2.2 (Nat.gcd_pos_of_pos_left y hxy.1.1) hgb hb; obtain ⟨⟨hx0, hy0⟩, hxa, _⟩ := id hxy; have hxu' := hm hxy.2.1.1; have hyu' := hm2 hxy.2.1.2; have hxu := hxu'; have hyu := hyu'
  unfold ES at hxu hyu
  refine An (Ac fun _ z=>Aa (Ap 1 Cr BW) (Aa (At BN) (Aa (qu.and 1 2 rfl rfl (by decide)) (Aa B6 (AP Ab (fun c2 => ?_) (fun c2 => ?_))))))
  · refine Aa (Ap 1 Cr BW) (Aa (At BN) (Aa (qu.and 1 2 rfl rfl (by decide)) (Aa B6 (Aa A5 (Ad z (Ax (fun c3 => ?_) (fun c3 => ?_)))))))
    · refine As (Ar (Ev.rtp (m := 9) (L0 := #[false, false, false, false, false, false, false, false, false]) rfl (by kernel_rfl) (by exact rfl) fun _ z=>(HP.mv (i := 4) rfl (h := (.done (HT.three (i := 0) (j := 2) (k := 5) trivial rfl rfl rfl (Aa (Av _ Bp AA) (AD ?_)) (Aa (Av _ Bp AA) (AD ?_)) (Aa A6 (AD ?_))))))))
      · skip; refine HT.three (i := 1) (j := 2) (k := 5) trivial rfl rfl rfl (A3 (hF := Cx x hxu') (h := AD ?_)) (Aa (Av _ Bp AA) (AD ?_)) (Aa A6 (AD ?_))
        · skip; refine Dz (i := 2) (j := 5) trivial rfl rfl (Aa (Av _ Bp AA) (AD ?_)) (Aa A6 (AD ?_))
          · skip; refine Dz (i := 3) (j := 5) trivial rfl rfl (A3 (hF := Cx y hyu') (h := AD ?_)) (Aa A6 (AD ?_))
            · skip; refine Dz (i := 5) (j := 6) trivial rfl rfl (Aa A6 (AD ?_)) (AC _ true [_, _] Bf AA (h := AD ?_))
              · skip; refine AN (i := 6) trivial rfl (AC _ true [_, _] Bf AA (h := AD (AN (i := 7) trivial rfl (AC _ true [_, _] Bf AA (h := AD (AN (i := 8) trivial rfl (Aa Ae (AD (Cw trivial (by kernel_rfl) (z _ (hR0 _ _ (A8 [0, 1, 2] [2, 3, 4] ⟨(x / 2, y / 2, t + 1), hxy.step (by omega) (by omega)⟩ ?_ (Aj (h := (Aj (h := (Aj))))) (Ag) (.c (.c (.c .n))))))))))))))); skip; all_goals (dsimp only; omega)
              skip; refine Dz (i := 5) (j := 7) trivial rfl rfl (Aa A6 (AD ?_)) (AC _ true [_, _] Bf AA (h := AD ?_))
              · skip; refine AN (i := 7) trivial rfl (AC _ true [_, _] Bf AA (h := AD (AN (i := 8) trivial rfl (Aa Ae (AD (Cw trivial (by kernel_rfl) (z _ (hR0 _ _ (A8 [0, 1, 2] [2, 3, 4] ⟨(x / 2, y / 2, t + 1), hxy.step (by omega) (by omega)⟩ ?_ (Aj (h := (Aj (h := (Aj))))) (Ag) (.c (.c (.c .n)))))))))))); skip; all_goals (dsimp only; omega)
              skip; refine AN (i := 5) trivial rfl (Aa A6 (AD (AN (i := 8) trivial rfl (Aa Ae (AD (Cw trivial (by kernel_rfl) (z _ (hR0 _ _ (A8 [0, 1, 2] [2, 3, 4] ⟨(x / 2, y / 2, t + 1), hxy.step (by omega) (by omega)⟩ ?_ (Aj (h := (Aj (h := (Aj))))) (Ag) (.c (.c (.c .n)))))))))))); skip; all_goals (dsimp only; omega)
            skip; refine AN (i := 3) trivial rfl (A3 (hF := Cx y hyu') (h := AD (AN (i := 6) trivial rfl (AC _ true [_, _] Bf AA (h := AD (AN (i := 7) trivial rfl (AC _ true [_, _] Bf AA (h := AD (AN (i := 8) trivial rfl (Aa Ae (AD (Cw trivial (by kernel_rfl) (z _ (hR0 _ _ (A8 [0, 1, 2] [2, 3, 4] ⟨(x / 2, y / 2, t + 1), hxy.step (by omega) (by omega)⟩ ?_ (Aj (h := (Aj (h := (Aj))))) (Ag) (.c (.c (.c .n)))))))))))))))))); skip; all_goals (dsimp only; omega)
          skip; refine AN (i := 2) trivial rfl (Aa (Av _ Bp AA) (AD (AN (i := 3) trivial rfl (A3 (hF := Cx y hyu') (h := AD (AN (i := 6) trivial rfl (AC _ true [_, _] Bf AA (h := AD (AN (i := 7) trivial rfl (AC _ true [_, _] Bf AA (h := AD (AN (i := 8) trivial rfl (Aa Ae (AD (Cw trivial (by kernel_rfl) (z _ (hR0 _ _ (A8 [0, 1, 2] [2, 3, 4] ⟨(x / 2, y / 2, t + 1), hxy.step (by omega) (by omega)⟩ ?_ (Aj (h := (Aj (h := (Aj))))) (Ag) (.c (.c (.c .n))))))))))))))))))))); skip; all_goals (dsimp only; omega)
        · skip; refine Dz (i := 1) (j := 5) trivial rfl rfl (A3 (hF := Cx x hxu') (h := AD ?_)) (Aa A6 (AD ?_))
          · skip; refine Dz (i := 3) (j := 5) trivial rfl rfl (A3 (hF := Cx y hyu') (h := AD ?_)) (Aa A6 (AD ?_))
            · skip; refine Dz (i := 5) (j := 6) trivial rfl rfl (Aa A6 (AD ?_)) (AC _ true [_, _] Bf AA (h := AD ?_))
              · skip; refine AN (i := 6) trivial rfl (AC _ true [_, _] Bf AA (h := AD (AN (i := 7) trivial rfl (AC _ true [_, _] Bf AA (h := AD (AN (i := 8) trivial rfl (Aa Ae (AD (Cw trivial (by kernel_rfl) (z _ (hR0 _ _ (A8 [0, 1, 2] [2, 3, 4] ⟨(x / 2, y / 2, t + 1), hxy.step (by omega) (by omega)⟩ ?_ (Aj (h := (Aj (h := (Aj))))) (Ag) (.c (.c (.c .n))))))))))))))); skip; all_goals (dsimp only; omega)
              skip; refine Dz (i := 5) (j := 7) trivial rfl rfl (Aa A6 (AD ?_)) (AC _ true [_, _] Bf AA (h := AD ?_))
              · skip; refine AN (i := 7) trivial rfl (AC _ true [_, _] Bf AA (h := AD (AN (i := 8) trivial rfl (Aa Ae (AD (Cw trivial (by kernel_rfl) (z _ (hR0 _ _ (A8 [0, 1, 2] [2, 3, 4] ⟨(x / 2, y / 2, t + 1), hxy.step (by omega) (by omega)⟩ ?_ (Aj (h := (Aj (h := (Aj))))) (Ag) (.c (.c (.c .n)))))))))))); skip; all_goals (dsimp only; omega)
              skip; refine AN (i := 5) trivial rfl (Aa A6 (AD (AN (i := 8) trivial rfl (Aa Ae (AD (Cw trivial (by kernel_rfl) (z _ (hR0 _ _ (A8 [0, 1, 2] [2, 3, 4] ⟨(x / 2, y / 2, t + 1), hxy.step (by omega) (by omega)⟩ ?_ (Aj (h := (Aj (h := (Aj))))) (Ag) (.c (.c (.c .n)))))))))))); skip; all_goals (dsimp only; omega)
            skip; refine AN (i := 3) trivial rfl (A3 (hF := Cx y hyu') (h := AD (AN (i := 6) trivial rfl (AC _ true [_, _] Bf AA (h := AD (AN (i := 7) trivial rfl (AC _ true [_, _] Bf AA (h := AD (AN (i := 8) trivial rfl (Aa Ae (AD (Cw trivial (by kernel_rfl) (z _ (hR0 _ _ (A8 [0, 1, 2] [2, 3, 4] ⟨(x / 2, y / 2, t + 1), hxy.step (by omega) (by omega)⟩ ?_ (Aj (h := (Aj (h := (Aj))))) (Ag) (.c (.c (.c .n)))))))))))))))))); skip; all_goals (dsimp only; omega)
          skip; refine AN (i := 1) trivial rfl (A3 (hF := Cx x hxu') (h := AD (AN (i := 3) trivial rfl (A3 (hF := Cx y hyu') (h := AD (AN (i := 6) trivial rfl (AC _ true [_, _] Bf AA (h := AD (AN (i := 7) trivial rfl (AC _ true [_, _] Bf AA (h := AD (AN (i := 8) trivial rfl (Aa Ae (AD (Cw trivial (by kernel_rfl) (z _ (hR0 _ _ (A8 [0, 1, 2] [2, 3, 4] ⟨(x / 2, y / 2, t + 1), hxy.step (by omega) (by omega)⟩ ?_ (Aj (h := (Aj (h := (Aj))))) (Ag) (.c (.c (.c .n))))))))))))))))))))); skip; all_goals (dsimp only; omega)
        skip; refine Dz (i := 1) (j := 2) trivial rfl rfl (A3 (hF := Cx x hxu') (h := AD ?_)) (Aa (Av _ Bp AA) (AD ?_))
        · skip; refine AN (i := 2) trivial rfl (Aa (Av _ Bp AA) (AD (AN (i := 3) trivial rfl (A3 (hF := Cx y hyu') (h := AD (AN (i := 6) trivial rfl (AC _ true [_, _] Bf AA (h := AD (AN (i := 7) trivial rfl (AC _ true [_, _] Bf AA (h := AD (AN (i := 8) trivial rfl (Aa Ae (AD (Cw trivial (by kernel_rfl) (z _ (hR0 _ _ (A8 [0, 1, 2] [2, 3, 4] ⟨(x / 2, y / 2, t + 1), hxy.step (by omega) (by omega)⟩ ?_ (Aj (h := (Aj (h := (Aj))))) (Ag) (.c (.c (.c .n))))))))))))))))))))); skip; all_goals (dsimp only; omega)
        skip; refine AN (i := 1) trivial rfl (A3 (hF := Cx x hxu') (h := AD (AN (i := 3) trivial rfl (A3 (hF := Cx y hyu') (h := AD (AN (i := 6) trivial rfl (AC _ true [_, _] Bf AA (h := AD (AN (i := 7) trivial rfl (AC _ true [_, _] Bf AA (h := AD (AN (i := 8) trivial rfl (Aa Ae (AD (Cw trivial (by kernel_rfl) (z _ (hR0 _ _ (A8 [0, 1, 2] [2, 3, 4] ⟨(x / 2, y / 2, t + 1), hxy.step (by omega) (by omega)⟩ ?_ (Aj (h := (Aj (h := (Aj))))) (Ag) (.c (.c (.c .n))))))))))))))))))))); skip; all_goals (dsimp only; omega)
      · skip; refine Dz (i := 0) (j := 5) trivial rfl rfl (Aa (Av _ Bp AA) (AD ?_)) (Aa A6 (AD ?_))
        · skip; refine Dz (i := 1) (j := 5) trivial rfl rfl (A3 (hF := Cx x hxu') (h := AD ?_)) (Aa A6 (AD ?_))
          · skip; refine Dz (i := 3) (j := 5) trivial rfl rfl (A3 (hF := Cx y hyu') (h := AD ?_)) (Aa A6 (AD ?_))
            · skip; refine Dz (i := 5) (j := 6) trivial rfl rfl (Aa A6 (AD ?_)) (AC _ true [_, _] Bf AA (h := AD ?_))
              · skip; refine AN (i := 6) trivial rfl (AC _ true [_, _] Bf AA (h := AD (AN (i := 7) trivial rfl (AC _ true [_, _] Bf AA (h := AD (AN (i := 8) trivial rfl (Aa Ae (AD (Cw trivial (by kernel_rfl) (z _ (hR0 _ _ (A8 [0, 1, 2] [2, 3, 4] ⟨(x / 2, y / 2, t + 1), hxy.step (by omega) (by omega)⟩ ?_ (Aj (h := (Aj (h := (Aj))))) (Ag) (.c (.c (.c .n))))))))))))))); skip; all_goals (dsimp only; omega)
              skip; refine Dz (i := 5) (j := 7) trivial rfl rfl (Aa A6 (AD ?_)) (AC _ true [_, _] Bf AA (h := AD ?_))
              · skip; refine AN (i := 7) trivial rfl (AC _ true [_, _] Bf AA (h := AD (AN (i := 8) trivial rfl (Aa Ae (AD (Cw trivial (by kernel_rfl) (z _ (hR0 _ _ (A8 [0, 1, 2] [2, 3, 4] ⟨(x / 2, y / 2, t + 1), hxy.step (by omega) (by omega)⟩ ?_ (Aj (h := (Aj (h := (Aj))))) (Ag) (.c (.c (.c .n)))))))))))); skip; all_goals (dsimp only; omega)
              skip; refine AN (i := 5) trivial rfl (Aa A6 (AD (AN (i := 8) trivial rfl (Aa Ae (AD (Cw trivial (by kernel_rfl) (z _ (hR0 _ _ (A8 [0, 1, 2] [2, 3, 4] ⟨(x / 2, y / 2, t + 1), hxy.step (by omega) (by omega)⟩ ?_ (Aj (h := (Aj (h := (Aj))))) (Ag) (.c (.c (.c .n)))))))))))); skip; all_goals (dsimp only; omega)
            skip; refine AN (i := 3) trivial rfl (A3 (hF := Cx y hyu') (h := AD (AN (i := 6) trivial rfl (AC _ true [_, _] Bf AA (h := AD (AN (i := 7) trivial rfl (AC _ true [_, _] Bf AA (h := AD (AN (i := 8) trivial rfl (Aa Ae (AD (Cw trivial (by kernel_rfl) (z _ (hR0 _ _ (A8 [0, 1, 2] [2, 3, 4] ⟨(x / 2, y / 2, t + 1), hxy.step (by omega) (by omega)⟩ ?_ (Aj (h := (Aj (h := (Aj))))) (Ag) (.c (.c (.c .n)))))))))))))))))); skip; all_goals (dsimp only; omega)
          skip; refine AN (i := 1) trivial rfl (A3 (hF := Cx x hxu') (h := AD (AN (i := 3) trivial rfl (A3 (hF := Cx y hyu') (h := AD (AN (i := 6) trivial rfl (AC _ true [_, _] Bf AA (h := AD (AN (i := 7) trivial rfl (AC _ true [_, _] Bf AA (h := AD (AN (i := 8) trivial rfl (Aa Ae (AD (Cw trivial (by kernel_rfl) (z _ (hR0 _ _ (A8 [0, 1, 2] [2, 3, 4] ⟨(x / 2, y / 2, t + 1), hxy.step (by omega) (by omega)⟩ ?_ (Aj (h := (Aj (h := (Aj))))) (Ag) (.c (.c (.c .n))))))))))))))))))))); skip; all_goals (dsimp only; omega)
        skip; refine AN (i := 0) trivial rfl (Aa (Av _ Bp AA) (AD (AN (i := 1) trivial rfl (A3 (hF := Cx x hxu') (h := AD (AN (i := 3) trivial rfl (A3 (hF := Cx y hyu') (h := AD (AN (i := 6) trivial rfl (AC _ true [_, _] Bf AA (h := AD (AN (i := 7) trivial rfl (AC _ true [_, _] Bf AA (h := AD (AN (i := 8) trivial rfl (Aa Ae (AD (Cw trivial (by kernel_rfl) (z _ (hR0 _ _ (A8 [0, 1, 2] [2, 3, 4] ⟨(x / 2, y / 2, t + 1), hxy.step (by omega) (by omega)⟩ ?_ (Aj (h := (Aj (h := (Aj))))) (Ag) (.c (.c (.c .n)))))))))))))))))))))))); skip; all_goals (dsimp only; omega)
      skip; refine Dz (i := 0) (j := 2) trivial rfl rfl (Aa (Av _ Bp AA) (AD ?_)) (Aa (Av _ Bp AA) (AD ?_))
      · skip; refine Dz (i := 1) (j := 2) trivial rfl rfl (A3 (hF := Cx x hxu') (h := AD ?_)) (Aa (Av _ Bp AA) (AD ?_))
        · skip; refine AN (i := 2) trivial rfl (Aa (Av _ Bp AA) (AD (AN (i := 3) trivial rfl (A3 (hF := Cx y hyu') (h := AD (AN (i := 6) trivial rfl (AC _ true [_, _] Bf AA (h := AD (AN (i := 7) trivial rfl (AC _ true [_, _] Bf AA (h := AD (AN (i := 8) trivial rfl (Aa Ae (AD (Cw trivial (by kernel_rfl) (z _ (hR0 _ _ (A8 [0, 1, 2] [2, 3, 4] ⟨(x / 2, y / 2, t + 1), hxy.step (by omega) (by omega)⟩ ?_ (Aj (h := (Aj (h := (Aj))))) (Ag) (.c (.c (.c .n))))))))))))))))))))); skip; all_goals (dsimp only; omega)
        skip; refine AN (i := 1) trivial rfl (A3 (hF := Cx x hxu') (h := AD (AN (i := 3) trivial rfl (A3 (hF := Cx y hyu') (h := AD (AN (i := 6) trivial rfl (AC _ true [_, _] Bf AA (h := AD (AN (i := 7) trivial rfl (AC _ true [_, _] Bf AA (h := AD (AN (i := 8) trivial rfl (Aa Ae (AD (Cw trivial (by kernel_rfl) (z _ (hR0 _ _ (A8 [0, 1, 2] [2, 3, 4] ⟨(x / 2, y / 2, t + 1), hxy.step (by omega) (by omega)⟩ ?_ (Aj (h := (Aj (h := (Aj))))) (Ag) (.c (.c (.c .n))))))))))))))))))))); skip; all_goals (dsimp only; omega)
      skip; refine AN (i := 0) trivial rfl (Aa (Av _ Bp AA) (AD (AN (i := 1) trivial rfl (A3 (hF := Cx x hxu') (h := AD (AN (i := 3) trivial rfl (A3 (hF := Cx y hyu') (h := AD (AN (i := 6) trivial rfl (AC _ true [_, _] Bf AA (h := AD (AN (i := 7) trivial rfl (AC _ true [_, _] Bf AA (h := AD (AN (i := 8) trivial rfl (Aa Ae (AD (Cw trivial (by kernel_rfl) (z _ (hR0 _ _ (A8 [0, 1, 2] [2, 3, 4] ⟨(x / 2, y / 2, t + 1), hxy.step (by omega) (by omega)⟩ ?_ (Aj (h := (Aj (h := (Aj))))) (Ag) (.c (.c (.c .n)))))))))))))))))))))))); skip; all_goals (dsimp only; omega)
    refine AO (hR0 _ _ (An (Ar (AI (ι := {q : Nat × Nat // G2 a b q.1 q.2 t}) [0, 1, 2] [2, 3, 4, 5] (fun ⟨(p, r), _⟩ => []) (fun ⟨(p, r), _⟩ => [(0, ⟨false, 122, 2, [[.lit (.int .u64 ((p : Int) / 18446744073709551616)), .lit (.int .u64 ((p : Int) % 18446744073709551616))]], true⟩), (1, ⟨false, 122, 2, [[.lit (.int .u64 ((r : Int) / 18446744073709551616)), .lit (.int .u64 ((r : Int) % 18446744073709551616))]], true⟩), (2, ⟨false, 122, 2, [[.lit (.int .u64 (0)), .lit (.int .u64 (0))]], true⟩)]) (fun ⟨(p, r), _⟩ => p + r) ⟨(x, y), hxy.to (by omega)⟩ (.c (.c (.c (.c .n)))) (Aj (h := (Aj (h := (Aj))))) trivial ?_)))); rintro ⟨⟨p, r⟩, hpr⟩ R2 hR2; dsimp only [cA, nA, lC, lN]
    dsimp only at hpr
    refine An (Ac fun _ z=>Aa (Av _ Bp AA) (Aa (Bj _ Cy D8) (Aa (q.sneq am_eq122 (am_sq122 _ _ _ _)) (Ad z (Ev.c (fun c4 => ?_) (fun c4 => ?_))))))
    · refine As (Ar (An (Ar (AI (ι := {x : Nat // G2 a b x r t ∧ 0 < x ∧ x ≤ p}) [0, 1, 2] [2, 3, 4, 5] (fun ⟨p1, _⟩ => []) (fun ⟨p1, _⟩ => [(0, ⟨false, 122, 2, [[.lit (.int .u64 ((p1 : Int) / 18446744073709551616)), .lit (.int .u64 ((p1 : Int) % 18446744073709551616))]], true⟩), (1, ⟨false, 122, 2, [[.lit (.int .u64 ((r : Int) / 18446744073709551616)), .lit (.int .u64 ((r : Int) % 18446744073709551616))]], true⟩), (2, ⟨false, 122, 2, [[.lit (.int .u64 (0)), .lit (.int .u64 (0))]], true⟩)]) (fun ⟨p1, _⟩ => p1) ⟨p, hpr, u0n_t ‹_›, Nat.le_refl _⟩ (.c (.c (.c (.c .n)))) (Aj (h := (Aj (h := (Aj))))) trivial ?_)))); rintro ⟨p1, hg1, hp1p, hp1l⟩ R4 hR4; dsimp only [cA, nA, lC, lN]; have hp1u := hmx hg1.2.1.1; have hp1o := hp1u
      unfold ES at hp1o
      refine An (Ac fun _ z=>Aa (Ap 1 Cr BW) (Aa (At BN) (Aa (qu.and 1 2 rfl rfl (by decide)) (Aa B6 (Ad z (Ax (fun c5 => ?_) (fun c5 => ?_)))))))
      · refine As (Ar ?_); clear hp1o; refine Ao fun _ z=>Aa (Av _ Bp AA) (A3 (hF := Cx p1 hp1u) (h := AC _ true [_, _] Bf AA (h := Ad z (hR4 _ _ (A8 [0, 1, 2] [2, 3, 4, 5] ⟨p1 / 2, hg1.left (by omega), by omega, by omega⟩ ?_ (Aj (h := (Aj (h := (Aj))))) trivial (.c (.c (.c (.c .n))))))))); skip; all_goals (dsimp only; omega)
      refine AO (hR4 _ _ (An (Ar (AI (ι := {x : Nat // G2 a b p1 x t ∧ x ≤ r}) [0, 1, 2] [2, 3, 4, 5] (fun ⟨r1, _⟩ => []) (fun ⟨r1, _⟩ => [(0, ⟨false, 122, 2, [[.lit (.int .u64 ((p1 : Int) / 18446744073709551616)), .lit (.int .u64 ((p1 : Int) % 18446744073709551616))]], true⟩), (1, ⟨false, 122, 2, [[.lit (.int .u64 ((r1 : Int) / 18446744073709551616)), .lit (.int .u64 ((r1 : Int) % 18446744073709551616))]], true⟩), (2, ⟨false, 122, 2, [[.lit (.int .u64 (0)), .lit (.int .u64 (0))]], true⟩)]) (fun ⟨r1, _⟩ => r1) ⟨r, hg1, Nat.le_refl _⟩ (.c (.c (.c (.c .n)))) (Aj (h := (Aj (h := (Aj))))) trivial ?_)))); rintro ⟨r1, hg2, hr1l⟩ R6 hR6; dsimp only [cA, nA, lC, lN]; have hr1u := hmx hg2.2.1.2; have hr1o := hr1u
      unfold ES at hr1o
      have hr1p := hg2.1
      have hpod : p1 % 2 = 1 := by omega
      refine An (Ac fun _ z=>Aa (Ap 1 Cr BW) (Aa (At BN) (Aa (qu.and 1 2 rfl rfl (by decide)) (Aa B6 (Ad z (Ax (fun c6 => ?_) (fun c6 => ?_)))))))
      · refine As (Ar (Ao fun _ z=>Aa (Av _ Bp AA) (A3 (hF := Cx r1 hr1u) (h := AC _ true [_, _] Bf AA (h := Ad z (hR6 _ _ (A8 [0, 1, 2] [2, 3, 4, 5] ⟨r1 / 2, hg2.right (by omega), by omega⟩ ?_ (Aj (h := (Aj (h := (Aj))))) trivial (.c (.c (.c (.c .n))))))))))); skip; all_goals (dsimp only; omega)
      refine AO (hR6 _ _ (An ?_)); have hr1p : 0 < r1 := hg2.1; refine Ac fun _ z=>Aa (Av _ Bp AA) (Aa (Av _ Bp AA) (A3 (hF := less_fun p1 r1 (hmx hg2.2.1.1) hr1u) (h := Ad z (Ax (fun c7 => ?_) (fun c7 => ?_)))))
      · refine Ao fun _ z=>Aa (Av _ Bp AA) (Aa (Av _ Bp AA) (AC _ true [_, _] Bf AA (h := AC _ true [_, _] Bf AA (h := Ad z ?_)))); show Ev _ _ _ _; refine Ao fun _ z=>Aa (Av _ Bp AA) (Aa (Av _ Bp AA) (A3 (hF := (by exact uminus_fun r1 p1 hr1u (by omega))) (h := AC _ true [_, _] Bf AA (h := Ad z (hR2 _ _ (A8 [0, 1, 2] [2, 3, 4, 5] ⟨(r1 - p1, p1), hg2.swap hpod (by omega)⟩ ?_ (Aj (h := (Aj (h := (Aj))))) trivial (.c (.c (.c (.c .n)))))))))); skip; all_goals (dsimp only; omega)
      refine As (Ao fun _ z=>Aa (Av _ Bp AA) (Aa (Av _ Bp AA) (A3 (hF := (by exact uminus_fun p1 r1 (hmx hg2.2.1.1) (by omega))) (h := AC _ true [_, _] Bf AA (h := Ad z (hR2 _ _ (A8 [0, 1, 2] [2, 3, 4, 5] ⟨(p1 - r1, r1), hg2.sub (by omega) (by omega)⟩ ?_ (Aj (h := (Aj (h := (Aj))))) trivial (.c (.c (.c (.c .n))))))))))); skip; all_goals (dsimp only; omega)
    refine AO (hR2 _ _ (An (Ar (AI (ι := {q : Nat × Nat // q.1 * 2 ^ q.2 = Nat.gcd a b}) [0, 1, 2] [3, 4] (fun ⟨(w, s), _⟩ => [(5, iL (s : Int))]) (fun ⟨(w, s), _⟩ => [(0, ⟨false, 122, 2, [[.lit (.int .u64 ((p : Int) / 18446744073709551616)), .lit (.int .u64 ((p : Int) % 18446744073709551616))]], true⟩), (1, ⟨false, 122, 2, [[.lit (.int .u64 ((w : Int) / 18446744073709551616)), .lit (.int .u64 ((w : Int) % 18446744073709551616))]], true⟩), (2, ⟨false, 122, 2, [[.lit (.int .u64 (0)), .lit (.int .u64 (0))]], true⟩)]) (fun ⟨(w, s), _⟩ => s) ⟨(r, t), (by have e := u0n_f ‹_›; subst e; exact hpr.fin)⟩ (.c (.c .n)) (Aj (h := (Aj (h := (Aj))))) (Ag) ?_)))); rintro ⟨⟨w, s⟩, hws⟩ R8 hR8; dsimp only [cA, nA, lC, lN]
    dsimp only at hws
    have hw0 : 0 < w := Nat.pos_of_ne_zero (fun e => by rw [e, Nat.zero_mul] at hws; omega); have hsb := t_bd hws hw0 hgb hb; refine An (Ac fun _ z=>Aa Ab (Aa Bh (Ad z (Ax (fun c8 => ?_) (fun c8 => ?_)))))
    · refine As (An (Ar ?_)); have hdb := dbl hws (by omega); have hww : ES (w + w) := Nat.lt_of_le_of_lt (Nat.le_trans hdb.2 hgb) hb; refine Ao fun _ z=>Aa (Av _ Bp AA) (Aa (Av _ Bp AA) (A3 (hF := uplus_fun w w hww) (h := AC _ true [_, _] Bf AA (h := Ad z ?_)))); show Ev _ _ _ _; refine Ao fun _ z=>Aa Ab (Aa BV (Aa Ae (Ad z (hR8 _ _ (A8 [0, 1, 2] [3, 4] ⟨(w + w, s - 1), hdb.1⟩ ?_ (Aj (h := (Aj (h := (Aj))))) (Ag (he := (by congr 2; omega))) (.c (.c .n))))))); skip; all_goals (dsimp only; omega)
    refine AO (hR8 _ _ (Ac fun _ z=>Aa (Av _ Bp AA) (AC _ true [_, _] Bf AA (h := Ad z (Af (BD (B7 [_, _] Bp AA BC) (⟨?_, rfl⟩))))))); have hs0 : s = 0 := (by omega); subst hs0; rw [← hws, Nat.pow_zero, Nat.mul_one]; rfl
  refine Ai (Ai (Aa Au (Ad z (Ei (AO (hR0 _ _ (An (Ar (AI (ι := {q : Nat × Nat // G2 a b q.1 q.2 t}) [0, 1, 2] [2, 3, 4, 5] (fun ⟨(p, r), _⟩ => []) (fun ⟨(p, r), _⟩ => [(0, ⟨false, 122, 2, [[.lit (.int .u64 ((p : Int) / 18446744073709551616)), .lit (.int .u64 ((p : Int) % 18446744073709551616))]], true⟩), (1, ⟨false, 122, 2, [[.lit (.int .u64 ((r : Int) / 18446744073709551616)), .lit (.int .u64 ((r : Int) % 18446744073709551616))]], true⟩), (2, ⟨false, 122, 2, [[.lit (.int .u64 (0)), .lit (.int .u64 (0))]], true⟩)]) (fun ⟨(p, r), _⟩ => p + r) ⟨(x, y), hxy.to (by omega)⟩ (.c (.c (.c (.c .n)))) (Aj (h := (Aj (h := (Aj))))) trivial ?_))))))))); rintro ⟨⟨p, r⟩, hpr⟩ R2 hR2; dsimp only [cA, nA, lC, lN]
  dsimp only at hpr
  refine An (Ac fun _ z=>Aa (Av _ Bp AA) (Aa (Bj _ Cy D8) (Aa (q.sneq am_eq122 (am_sq122 _ _ _ _)) (Ad z (Ev.c (fun c9 => ?_) (fun c9 => ?_))))))
  · refine As (Ar (An (Ar (AI (ι := {x : Nat // G2 a b x r t ∧ 0 < x ∧ x ≤ p}) [0, 1, 2] [2, 3, 4, 5] (fun ⟨p1, _⟩ => []) (fun ⟨p1, _⟩ => [(0, ⟨false, 122, 2, [[.lit (.int .u64 ((p1 : Int) / 18446744073709551616)), .lit (.int .u64 ((p1 : Int) % 18446744073709551616))]], true⟩), (1, ⟨false, 122, 2, [[.lit (.int .u64 ((r : Int) / 18446744073709551616)), .lit (.int .u64 ((r : Int) % 18446744073709551616))]], true⟩), (2, ⟨false, 122, 2, [[.lit (.int .u64 (0)), .lit (.int .u64 (0))]], true⟩)]) (fun ⟨p1, _⟩ => p1) ⟨p, hpr, u0n_t ‹_›, Nat.le_refl _⟩ (.c (.c (.c (.c .n)))) (Aj (h := (Aj (h := (Aj))))) trivial ?_)))); rintro ⟨p1, hg1, hp1p, hp1l⟩ R4 hR4; dsimp only [cA, nA, lC, lN]; have hp1u := hmx hg1.2.1.1; have hp1o := hp1u
    unfold ES at hp1o
    refine An (Ac fun _ z=>Aa (Ap 1 Cr BW) (Aa (At BN) (Aa (qu.and 1 2 rfl rfl (by decide)) (Aa B6 (Ad z (Ax (fun c10 => ?_) (fun c10 => ?_)))))))
    · refine As (Ar ?_); clear hp1o; refine Ao fun _ z=>Aa (Av _ Bp AA) (A3 (hF := Cx p1 hp1u) (h := AC _ true [_, _] Bf AA (h := Ad z (hR4 _ _ (A8 [0, 1, 2] [2, 3, 4, 5] ⟨p1 / 2, hg1.left (by omega), by omega, by omega⟩ ?_ (Aj (h := (Aj (h := (Aj))))) trivial (.c (.c (.c (.c .n))))))))); skip; all_goals (dsimp only; omega)
    refine AO (hR4 _ _ (An (Ar (AI (ι := {x : Nat // G2 a b p1 x t ∧ x ≤ r}) [0, 1, 2] [2, 3, 4, 5] (fun ⟨r1, _⟩ => []) (fun ⟨r1, _⟩ => [(0, ⟨false, 122, 2, [[.lit (.int .u64 ((p1 : Int) / 18446744073709551616)), .lit (.int .u64 ((p1 : Int) % 18446744073709551616))]], true⟩), (1, ⟨false, 122, 2, [[.lit (.int .u64 ((r1 : Int) / 18446744073709551616)), .lit (.int .u64 ((r1 : Int) % 18446744073709551616))]], true⟩), (2, ⟨false, 122, 2, [[.lit (.int .u64 (0)), .lit (.int .u64 (0))]], true⟩)]) (fun ⟨r1, _⟩ => r1) ⟨r, hg1, Nat.le_refl _⟩ (.c (.c (.c (.c .n)))) (Aj (h := (Aj (h := (Aj))))) trivial ?_)))); rintro ⟨r1, hg2, hr1l⟩ R6 hR6; dsimp only [cA, nA, lC, lN]; have hr1u := hmx hg2.2.1.2; have hr1o := hr1u
    unfold ES at hr1o
    have hr1p := hg2.1
    have hpod : p1 % 2 = 1 := by omega
    refine An (Ac fun _ z=>Aa (Ap 1 Cr BW) (Aa (At BN) (Aa (qu.and 1 2 rfl rfl (by decide)) (Aa B6 (Ad z (Ax (fun c11 => ?_) (fun c11 => ?_)))))))
    · refine As (Ar (Ao fun _ z=>Aa (Av _ Bp AA) (A3 (hF := Cx r1 hr1u) (h := AC _ true [_, _] Bf AA (h := Ad z (hR6 _ _ (A8 [0, 1, 2] [2, 3, 4, 5] ⟨r1 / 2, hg2.right (by omega), by omega⟩ ?_ (Aj (h := (Aj (h := (Aj))))) trivial (.c (.c (.c (.c .n))))))))))); skip; all_goals (dsimp only; omega)
    refine AO (hR6 _ _ (An ?_)); have hr1p : 0 < r1 := hg2.1; refine Ac fun _ z=>Aa (Av _ Bp AA) (Aa (Av _ Bp AA) (A3 (hF := less_fun p1 r1 (hmx hg2.2.1.1) hr1u) (h := Ad z (Ax (fun c12 => ?_) (fun c12 => ?_)))))
    · refine Ao fun _ z=>Aa (Av _ Bp AA) (Aa (Av _ Bp AA) (AC _ true [_, _] Bf AA (h := AC _ true [_, _] Bf AA (h := Ad z ?_)))); show Ev _ _ _ _; refine Ao fun _ z=>Aa (Av _ Bp AA) (Aa (Av _ Bp AA) (A3 (hF := (by exact uminus_fun r1 p1 hr1u (by omega))) (h := AC _ true [_, _] Bf AA (h := Ad z (hR2 _ _ (A8 [0, 1, 2] [2, 3, 4, 5] ⟨(r1 - p1, p1), hg2.swap hpod (by omega)⟩ ?_ (Aj (h := (Aj (h := (Aj))))) trivial (.c (.c (.c (.c .n)))))))))); skip; all_goals (dsimp only; omega)
    refine As (Ao fun _ z=>Aa (Av _ Bp AA) (Aa (Av _ Bp AA) (A3 (hF := (by exact uminus_fun p1 r1 (hmx hg2.2.1.1) (by omega))) (h := AC _ true [_, _] Bf AA (h := Ad z (hR2 _ _ (A8 [0, 1, 2] [2, 3, 4, 5] ⟨(p1 - r1, r1), hg2.sub (by omega) (by omega)⟩ ?_ (Aj (h := (Aj (h := (Aj))))) trivial (.c (.c (.c (.c .n))))))))))); skip; all_goals (dsimp only; omega)
  refine AO (hR2 _ _ (An (Ar (AI (ι := {q : Nat × Nat // q.1 * 2 ^ q.2 = Nat.gcd a b}) [0, 1, 2] [3, 4] (fun ⟨(w, s), _⟩ => [(5, iL (s : Int))]) (fun ⟨(w, s), _⟩ => [(0, ⟨false, 122, 2, [[.lit (.int .u64 ((p : Int) / 18446744073709551616)), .lit (.int .u64 ((p : Int) % 18446744073709551616))]], true⟩), (1, ⟨false, 122, 2, [[.lit (.int .u64 ((w : Int) / 18446744073709551616)), .lit (.int .u64 ((w : Int) % 18446744073709551616))]], true⟩), (2, ⟨false, 122, 2, [[.lit (.int .u64 (0)), .lit (.int .u64 (0))]], true⟩)]) (fun ⟨(w, s), _⟩ => s) ⟨(r, t), (by have e := u0n_f ‹_›; subst e; exact hpr.fin)⟩ (.c (.c .n)) (Aj (h := (Aj (h := (Aj))))) (Ag) ?_)))); rintro ⟨⟨w, s⟩, hws⟩ R8 hR8; dsimp only [cA, nA, lC, lN]
  dsimp only at hws
  have hw0 : 0 < w := Nat.pos_of_ne_zero (fun e => by rw [e, Nat.zero_mul] at hws; omega); have hsb := t_bd hws hw0 hgb hb; refine An (Ac fun _ z=>Aa Ab (Aa Bh (Ad z (Ax (fun c13 => ?_) (fun c13 => ?_)))))
  · refine As (An (Ar ?_)); have hdb := dbl hws (by omega); have hww : ES (w + w) := Nat.lt_of_le_of_lt (Nat.le_trans hdb.2 hgb) hb; refine Ao fun _ z=>Aa (Av _ Bp AA) (Aa (Av _ Bp AA) (A3 (hF := uplus_fun w w hww) (h := AC _ true [_, _] Bf AA (h := Ad z ?_)))); show Ev _ _ _ _; refine Ao fun _ z=>Aa Ab (Aa BV (Aa Ae (Ad z (hR8 _ _ (A8 [0, 1, 2] [3, 4] ⟨(w + w, s - 1), hdb.1⟩ ?_ (Aj (h := (Aj (h := (Aj))))) (Ag (he := (by congr 2; omega))) (.c (.c .n))))))); skip; all_goals (dsimp only; omega)
  refine AO (hR8 _ _ (Ac fun _ z=>Aa (Av _ Bp AA) (AC _ true [_, _] Bf AA (h := Ad z (Af (BD (B7 [_, _] Bp AA BC) (⟨?_, rfl⟩))))))); have hs0 : s = 0 := (by omega); subst hs0; rw [← hws, Nat.pow_zero, Nat.mul_one]; rfl
theorem u_small {a : Nat} (h : a ≤ 18446744073709551615) : (a : Int) / 18446744073709551616 = 0 ∧ (a : Int) % 18446744073709551616 = (a : Int) := by omega
theorem uC_small {a : Nat} (h : a ≤ 18446744073709551615) : [AV.lit (.int .u64 0), AV.lit (.int .u64 (a : Int))] = uC a := by
  obtain ⟨h1, h2⟩ := u_small h; rw [uC, h1, h2]
theorem div64_fun (a b : Nat) (ha : a ≤ 18446744073709551615) (hb : b ≤ 18446744073709551615) (h0 : 0 < b) : Fun Tryz.prog 120 [.agg (uC a), .agg (uC b)] (AK (.tup [.agg (uC (a / b)), .agg (uC (a % b))]) []) := by
  obtain ⟨a1, a2⟩ := u_small ha; obtain ⟨b1, b2⟩ := u_small hb; have hq : a / b ≤ a := Nat.div_le_self _ _; have hr : a % b ≤ a := Nat.mod_le _ _; have e1 := uC_small (a := a / b) (by omega); have e2 := uC_small (a := a % b) (by omega)
  have e3 : ((a / b : Nat) : Int) = ((a : Int) % 18446744073709551616) / ((b : Int) % 18446744073709551616) := by rw [a2, b2]; exact Int.natCast_ediv a b
  have e4 : ((a % b : Nat) : Int) = ((a : Int) % 18446744073709551616) % ((b : Int) % 18446744073709551616) := by rw [a2, b2]; exact Int.natCast_emod a b
  rw [e3] at e1; rw [e4] at e2; rw [← e1, ← e2]; refine Fun.of (nt := 91) (rs := [.cell 4 122, .cell 5 122]) Tryz.func120 rfl rfl rfl rfl rfl (Ac fun _ k=>A4 (Be _ true) (A4 (Be _ true) (A4 (Bd Cy) (A4 (Bd Cy) (Ad k (An (Ac fun _ k=>Aa (Ap 0 DH BW) (Aa (At BN) (Aa B6 (AP Ab (fun c1 => ?_) (fun c1 => ?_)))))))))))
  · refine Aa (Ap 0 DH BW) (Aa (At BN) (Aa B6 (Aa A5 (Ad k (Ax (fun c2 => ?_) (fun c2 => ?_))))))
    · refine AT (Wk.frzv 2 [_, _, _]) (AT (Wk.frzv 3 [_, _]) (Ev.stp (m := 14) (L0 := #[false, false, false, false, false, false, false, false, false, false, false, false, false, false]) rfl (by kernel_rfl) (by exact rfl) fun _ k=>(HP.fa (i := 0) Cr (by rw [BW]; decide) rfl (h := (HP.ls1 (i := 1) BN rfl (h := (HP.fa (i := 2) Cr (by rw [BW]; decide) rfl (h := (HP.ls1 (i := 3) BN rfl (h := (HP.q (i := 4) rfl (qu.quo) (HP.fa (i := 6) Cr (by rw [BW]; decide) rfl (h := (HP.ls1 (i := 7) BN rfl (h := (HP.fa (i := 8) Cr (by rw [BW]; decide) rfl (h := (HP.ls1 (i := 9) BN rfl (h := (HP.q (i := 10) rfl (qu.rem) (.done (Dz (i := 5) (j := 11) trivial rfl rfl (Aa (Bj _ Cy D8) (AD ?_)) (Aa (Bj _ Cy D8) (AD ?_))))))))))))))))))))))))
      · skip; refine Dz (i := 11) (j := 12) trivial rfl rfl (Aa (Bj _ Cy D8) (AD ?_)) (AC _ true [_] Bf AA (h := AD ?_))
        · skip; refine AN (i := 12) trivial rfl (AC _ true [_] Bf AA (h := AD (AN (i := 13) trivial rfl (AC _ true [_] Bf AA (h := AD (Cw trivial (by kernel_rfl) (k _ (Af (Cv (B7 [_, _] Bp AA (B7 [_, _] Bp AA BC)) (⟨?_, rfl⟩)))))))))); rfl
        skip; refine AN (i := 11) trivial rfl (Aa (Bj _ Cy D8) (AD (AN (i := 13) trivial rfl (AC _ true [_] Bf AA (h := AD (Cw trivial (by kernel_rfl) (k _ (Af (Cv (B7 [_, _] Bp AA (B7 [_, _] Bp AA BC)) (⟨?_, rfl⟩)))))))))); rfl
      skip; refine AN (i := 5) trivial rfl (Aa (Bj _ Cy D8) (AD (AN (i := 12) trivial rfl (AC _ true [_] Bf AA (h := AD (AN (i := 13) trivial rfl (AC _ true [_] Bf AA (h := AD (Cw trivial (by kernel_rfl) (k _ (Af (Cv (B7 [_, _] Bp AA (B7 [_, _] Bp AA BC)) (⟨?_, rfl⟩))))))))))))); rfl
    omega
  omega
theorem made_fun (n d g : Nat) (hn : ES n) (hd : ES d) (h0 : 0 < d) (hg : g = Nat.gcd n d) (hq1 : n / g ≤ 1152921504606846976) (hq2 : d / g ≤ 1152921504606846976)
    (hd1 : Fun Tryz.prog 120 [.agg (uC n), .agg (uC g)] (AK (.tup [.agg (uC (n / g)), .agg (uC (n % g))]) [])) (hd2 : Fun Tryz.prog 120 [.agg (uC d), .agg (uC g)] (AK (.tup [.agg (uC (d / g)), .agg (uC (d % g))]) [])) :
    Fun Tryz.prog 65 [.agg (uC n), bL false, .agg (uC d)] (AK (.tup [.agg (CB (((n / g : Nat) : Int), ((d / g : Nat) : Int))), iL 0]) []) := by
  have hgf := ugcd_fun n d hn hd h0; rw [← hg] at hgf; obtain ⟨c1, k1⟩ := u_small (a := n / g) (by omega); obtain ⟨c2, k2⟩ := u_small (a := d / g) (by omega); obtain ⟨x, hx⟩ : ∃ x, x = n / g := ⟨_, rfl⟩; obtain ⟨y, hy⟩ : ∃ y, y = d / g := ⟨_, rfl⟩; rw [← hx] at hd1 c1 k1 hq1 ⊢; rw [← hy] at hd2 c2 k2 hq2 ⊢; clear hx hy
  have e1 : iL (x : Int) = iL ((x : Int) % 18446744073709551616) := by rw [k1]
  have e2 : iL (y : Int) = iL ((y : Int) % 18446744073709551616) := by rw [k2]
  show Fun _ _ _ (AK (.tup [.agg [iL (x : Int), iL (y : Int)], iL 0]) [])
  rw [e1, e2]; refine Fun.of (nt := 67) (rs := [.cell 6 46, .tmp 7]) Tryz.func65 rfl rfl rfl rfl rfl (Ac fun _ k=>A4 (Be _ true) (A4 (Be _ true) (A4 (Bd DC) (Aa Ae (Ad k (An (Ac fun _ k=>Aa (Av _ Bp AA) (Aa (Bj _ Cy D8) (Aa (q.seql am_eq122 (am_sq122 _ _ _ _)) (Ad k (Ev.c (fun c1 => ?_) (fun c1 => ?_))))))))))))
  · exfalso; have e := u0_t ‹_›; omega
  refine As (Ac fun _ k=>Aa (Av _ Bp AA) (Aa (Av _ Bp AA) (A3 (hF := hgf) (h := A4 (Bd Cy) (AC _ true [_, _, _] Bf AA (h := Ad k (Ac fun _ k=>Aa (Av _ Bp AA) (Aa (Av _ Bp AA) (A3 (hF := hd1) (h := Aa Ab (Aa BA (Aa BA (A4 (Bd Cy) (A4 (Bd Cy) (AC _ true [_, _, _, _, _] Bf AA (h := AC _ true [_, _, _, _, _] Bf AA (h := Ad k (Ac fun _ k=>Aa (Av _ Bp AA) (Aa (Av _ Bp AA) (A3 (hF := hd2) (h := Aa Ab (Aa BA (Aa BA (A4 (Bd Cy) (A4 (Bd Cy) (AC _ true [_, _, _, _, _, _, _] Bf AA (h := AC _ true [_, _, _, _, _, _, _] Bf AA (h := Ad k (An (Ac fun _ k=>Aa (Ap 0 DH BW) (Aa (At BN) (Aa Bh (AP Ab (fun c2 => ?_) (fun c2 => ?_))))))))))))))))))))))))))))))))))
  · omega
  refine Aa (Ap 1 Cr BW) (Aa (At BN) (Aa Bh (Aa Au (AP Ab (fun c3 => ?_) (fun c3 => ?_)))))
  · omega
  refine Aa (Ap 0 DH BW) (Aa (At BN) (Aa Bh (Aa Au (AP Ab (fun c4 => ?_) (fun c4 => ?_)))))
  · omega
  refine Aa (Ap 1 Cr BW) (Aa (At BN) (Aa Bh (Aa Au (Ad k (Ax (fun c5 => ?_) (fun c5 => ?_))))))
  · omega
  refine As (An (Ac fun _ k=>Aa Ab (Ad k (Ei (As (Ac fun _ k=>Aa (Ap 1 Cr BW) (Aa (At BN) (Aa (q.cvi Cl am_us112) (Aa (Ap 1 Cr BW) (Aa (At BN) (Aa (q.cvi Cl am_us112) (Aa (Bj _ DC am_pl46) (AC _ true [_, _, _, _, _, _, _] E2 C0 (h := Aa Ae (Ad k (Af (Cv (B7 [_, _] EB C0 (DI BC)) (⟨?_, rfl⟩)))))))))))))))))); rfl
theorem r2Make_fun (n d : Nat) (hn : n ≤ 1152921504606846976) (hd : d ≤ 1152921504606846976) (h0 : 0 < d) : Fun Tryz.prog 35 [iL (n : Int), iL (d : Int)] (AK (.tup [.agg (CB (((n / Nat.gcd n d : Nat) : Int), ((d / Nat.gcd n d : Nat) : Int))), iL 0]) []) := by
  have hg : 0 < Nat.gcd n d := Nat.gcd_pos_of_pos_right n h0; have hgl : Nat.gcd n d ≤ d := Nat.gcd_le_right n h0; have hq1 : n / Nat.gcd n d ≤ n := Nat.div_le_self _ _; have hq2 : d / Nat.gcd n d ≤ d := Nat.div_le_self _ _
  have hneg : (!(decide ((n : Int) < 0) == decide ((d : Int) < 0))) = false := by
    rw [decide_eq_false (by omega), decide_eq_false (by omega)]; rfl
  have hmf := made_fun n d _ (by unfold ES; omega) (by unfold ES; omega) h0 rfl (by omega) (by omega) (div64_fun n _ (by omega) (by omega) hg) (div64_fun d _ (by omega) (by omega) hg); rw [← uC_small (a := n) (by omega), ← uC_small (a := d) (by omega), ← hneg] at hmf; refine Fun.of (nt := 20) (rs := [.cell 4 46, .tmp 5]) Tryz.func35 rfl rfl rfl rfl rfl (Ac fun _ k=>A4 (Bd DC) (Aa Ae (Ad k (Ac fun _ k=>Aa Ab (A3 (hF := r2size_fun n (by omega)) (h := Aa (Bj _ Cy D8) (Aa Ab (Aa Ay (Aa Ab (Aa Ay (Aa (q.bneq am_un4) (Aa Ab (A3 (hF := r2size_fun d (by omega)) (h := Aa (Bj _ Cy D8) (A3 (hF := hmf) (h := Aa BA (Aa BA (AC _ true [] E2 C0 (h := Aa Ae (Ad k (Af (Cv (B7 [_, _] EB C0 (DI BC)) (⟨?_, rfl⟩))))))))))))))))))))))); rfl
def frD (n v : Nat) : Int × Int := (((n / Nat.gcd n v : Nat) : Int), ((v / Nat.gcd n v : Nat) : Int))
def shR (x : Det) : (Int × Int) × Int := if Do x then (if volE x.mem.bs x.mem.hs = 0 then (if volV x.mem.bs x.mem.hs = 0 then ((0, 0), 16) else (frD (Ft x.bars x.runs).toNat (volV x.mem.bs x.mem.hs).toNat, 0)) else ((0, 0), volE x.mem.bs x.mem.hs)) else ((0, 0), 1)
theorem sh_1 {x : Det} (h : ¬ Do x) : shR x = ((0, 0), 1) := if_neg h
theorem sh_2 {x : Det} (h : Do x) (h2 : ¬ volE x.mem.bs x.mem.hs = 0) : shR x = ((0, 0), volE x.mem.bs x.mem.hs) := (if_pos h).trans (if_neg h2)
theorem sh_3 {x : Det} (h : Do x) (h2 : volE x.mem.bs x.mem.hs = 0) (h3 : volV x.mem.bs x.mem.hs = 0) : shR x = ((0, 0), 16) := ((if_pos h).trans (if_pos h2)).trans (if_pos h3)
theorem sh_4 {x : Det} (h : Do x) (h2 : volE x.mem.bs x.mem.hs = 0) (h3 : ¬ volV x.mem.bs x.mem.hs = 0) : shR x = (frD (Ft x.bars x.runs).toNat (volV x.mem.bs x.mem.hs).toNat, 0) := ((if_pos h).trans (if_pos h2)).trans (if_neg h3)
theorem vol_bd {bs hs : List Bx} (h : Eo bs hs) (h2 : volE bs hs = 0) : 0 ≤ volV bs hs ∧ volV bs hs ≤ 1152921504606846976 := by
  have h1 := cells_le h
  by_cases h3 : C9 (Dg bs hs) > 1152921504606846976
  · have := (vol_5 h h3).2; omega
  rw [(vol_0 h h3).1]; omega
theorem laidT_bd {bars : List Bar} {runs : List Rn} (h : Dq bars runs) : 0 ≤ Ft bars runs ∧ Ft bars runs ≤ 20686308000 := by
  have hr := laid_runs h; rw [← laidX_0 runs hr]; have h1 := laidX_bd (bars := bars) 0 runs hr; have h2 := h.2.2.2; omega
theorem made0_fun (n : Nat) : Fun Tryz.prog 65 [.agg (uC n), bL false, .agg [.lit (.int .u64 0), .lit (.int .u64 0)]] (AK (.tup [.agg (CB (0, 0)), iL 16]) []) := by
  refine Fun.of (nt := 67) (rs := [.cell 6 46, .tmp 7]) Tryz.func65 rfl rfl rfl rfl rfl (Ac fun _ k=>A4 (Be _ true) (A4 (Be _ true) (A4 (Bd DC) (Aa Ae (Ad k (An (Ac fun _ k=>Aa (Av _ Bp AA) (Aa (Bj _ Cy D8) (Aa (q.seql am_eq122 (am_sq122 _ _ _ _)) (Ad k (Ev.c (fun c1 => ?_) (fun c1 => ?_))))))))))))
  · refine Ac fun _ k=>Aa (Bj _ DC am_pl46) (AC _ true [_, _] E2 C0 (h := Aa Ae (Ad k (Af (Cv (B7 [_, _] EB C0 (DI BC)) (⟨?_, rfl⟩)))))); rfl
  contradiction
theorem r2Make0_fun (n : Nat) (hn : n ≤ 1152921504606846976) : Fun Tryz.prog 35 [iL (n : Int), iL 0] (AK (.tup [.agg (CB (0, 0)), iL 16]) []) := by
  have hz : Fun Tryz.prog 66 [iL 0] (AK (.lit (.int .u64 0)) []) := r2size_fun 0 (by decide)
  have hneg : (!(decide ((n : Int) < 0) == decide ((0 : Int) < 0))) = false := by
    rw [decide_eq_false (by omega)]; rfl
  have hmf := made0_fun n; rw [← uC_small (a := n) (by omega), ← hneg] at hmf; refine Fun.of (nt := 20) (rs := [.cell 4 46, .tmp 5]) Tryz.func35 rfl rfl rfl rfl rfl (Ac fun _ k=>A4 (Bd DC) (Aa Ae (Ad k (Ac fun _ k=>Aa Ab (A3 (hF := r2size_fun n (by omega)) (h := Aa (Bj _ Cy D8) (Aa Ab (Aa Ay (Aa Ab (Aa Ay (Aa (q.bneq am_un4) (Aa Ab (A3 (hF := hz) (h := Aa (Bj _ Cy D8) (A3 (hF := hmf) (h := Aa BA (Aa BA (AC _ true [] E2 C0 (h := Aa Ae (Ad k (Af (Cv (B7 [_, _] EB C0 (DI BC)) (⟨?_, rfl⟩))))))))))))))))))))))); rfl
theorem share_no (x : Det) (n : Int) (hlf : Fun Tryz.prog 8 [.agg x.c] (AK (.tup [iL n, iL 1]) [])) : Fun Tryz.prog 11 [.agg x.c] (AK (.tup [.agg (CB (0, 0)), iL 1]) []) := by
  refine Fun.of (nt := 37) (rs := [.cell 2 46, .tmp 3]) Tryz.func11 rfl rfl rfl rfl rfl (Ac fun _ k=>A4 (Be _ true) (A4 (Bd DC) (Aa Ae (Ad k (Ac fun _ k=>Aa (Av _ Dh Dl) (A3 (hF := hlf) (h := Aa Ab (Aa BA (Aa BA (Aa Ae (Aa Ae (Ad k (An (Ac fun _ k=>Aa Ab (Aa Dk (Ad k (Cb (fun c1 => ?_) (fun c1 => ?_))))))))))))))))))
  · refine Ac fun _ k=>Aa (Bj _ DC am_pl46) (Aa Ab (AC _ true [_] E2 C0 (h := Aa Ae (Ad k (Af (Cv (B7 [_, _] EB C0 (DI BC)) (⟨?_, rfl⟩))))))); rfl
  omega
theorem share_ok (x : Det) (n v e : Int) (hlf : Fun Tryz.prog 8 [.agg x.c] (AK (.tup [iL n, iL 0]) [])) (hvf : Fun Tryz.prog 32 [.agg [.sh 6 (x.mem.bs.map Bx.c), .sh 6 (x.mem.hs.map Bx.c)]] (AK (.tup [iL v, iL e]) []))
    (hvb : e = 0 → 0 ≤ v ∧ v ≤ 1152921504606846976) (hlb : 0 ≤ n ∧ n ≤ 20686308000) {R : (Int × Int) × Int} (s2 : ¬ e = 0 → R = ((0, 0), e)) (s3 : e = 0 → v = 0 → R = ((0, 0), 16)) (s4 : e = 0 → ¬ v = 0 → R = (frD n.toNat v.toNat, 0)) :
    Fun Tryz.prog 11 [.agg x.c] (AK (.tup [.agg (CB R.1), iL R.2]) []) := by
  obtain ⟨N, rfl⟩ := Int.eq_ofNat_of_zero_le hlb.1; refine Fun.of (nt := 37) (rs := [.cell 2 46, .tmp 3]) Tryz.func11 rfl rfl rfl rfl rfl (Ac fun _ k=>A4 (Be _ true) (A4 (Bd DC) (Aa Ae (Ad k (Ac fun _ k=>Aa (Av _ Dh Dl) (A3 (hF := hlf) (h := Aa Ab (Aa BA (Aa BA (Aa Ae (Aa Ae (Ad k (An (Ac fun _ k=>Aa Ab (Aa Dk (Ad k (Cb (fun c1 => ?_) (fun c1 => ?_))))))))))))))))))
  · omega
  refine As (Ac fun _ k=>Aa (Ap 0 am_fi34_0 am_cl26) (Aa (Ap 1 am_fi26_1 E7) (Aa (Av _ FS E7) (A3 (hF := hvf) (h := Aa Ab (Aa BA (Aa BA (Aa Ae (Aa Ae (Ad k (An (Ar (Ac fun _ k=>Aa Ab (Aa Dk (Aa Ae (Ad k (Cb (fun c2 => ?_) (fun c2 => ?_))))))))))))))))))
  · refine Ac fun _ k=>Aa (Bj _ DC am_pl46) (Aa Ab (AC _ true [_] E2 C0 (h := Aa Ae (Ad k (Af (Cv (B7 [_, _] EB C0 (DI BC)) (⟨?_, rfl⟩))))))); rw [s2 ‹_›]; rfl
  refine Ac fun _ k=>Aa Ab (Aa B6 (Aa Ae (Ad k (Ax (fun c3 => ?_) (fun c3 => ?_)))))
  · refine Ac fun _ k=>Aa (Bj _ DC am_pl46) (AC _ true [_] E2 C0 (h := Aa Ae (Ad k (Af (Cv (B7 [_, _] EB C0 (DI BC)) (⟨?_, rfl⟩)))))); rw [s3 ‹_› ‹_›]; rfl
  refine As ?_; obtain ⟨hv0, hv1⟩ := hvb ‹_›; obtain ⟨V, rfl⟩ := Int.eq_ofNat_of_zero_le hv0; refine Ac fun _ k=>Aa Ab (Aa Ab (A3 (hF := rtMake_fun N V (by omega) (by omega) (by omega)) (h := Aa BA (Aa BA (AC _ true [_] E2 C0 (h := Aa Ae (Ad k (Af (Cv (B7 [_, _] EB C0 (DI BC)) (⟨?_, rfl⟩)))))))))); rw [s4 ‹_› ‹_›]; rfl
theorem share_fun (x : Det) (hw : x.w) : Fun Tryz.prog 11 [.agg x.c] (AK (.tup [.agg (CB (shR x).1), iL (shR x).2]) []) := by
  have hlf := Laid_fun x hw; have hvf := volume_fun x.mem.bs x.mem.hs hw.1.2.1 hw.1.2.2
  by_cases hd : Do x
  · have hvb := fun h => vol_bd (bs := x.mem.bs) (hs := x.mem.hs) hd.1.1.2.1 h; have hlb := laidT_bd hd.1.2.1; rw [show detV x (Ft x.bars x.runs) = Ft x.bars x.runs from if_pos hd, show detE x = 0 from if_pos hd] at hlf; have s2 := sh_2 hd; have s3 := sh_3 hd; have s4 := sh_4 hd; clear hd; exact share_ok x _ _ _ hlf hvf hvb hlb s2 s3 s4
  rw [show detE x = 1 from if_neg hd] at hlf; rw [sh_1 hd]; exact share_no x _ hlf
theorem rshare_no (x : Det) (hd : ¬ Do x) (hvl : Fun Tryz.prog 13 [.agg x.c] (AK (bL (decide (Do x))) [])) : Fun Tryz.prog 12 [.agg x.c] (AK (.tup [.agg (CB (0, 0)), iL 1]) []) := by
  refine Fun.of (nt := 27) (rs := [.cell 2 46, .tmp 3]) Tryz.func12 rfl rfl rfl rfl rfl (Ac fun _ k=>A4 (Be _ true) (A4 (Bd DC) (Aa Ae (Ad k (An (Ac fun _ k=>Aa (Av _ Dh Dl) (A3 (hF := hvl) (h := Aa BB (Ad k (Cb (fun c1 => ?_) (fun c1 => ?_)))))))))))
  · refine Ac fun _ k=>Aa (Bj _ DC am_pl46) (AC _ true [_] E2 C0 (h := Aa Ae (Ad k (Af (Cv (B7 [_, _] EB C0 (DI BC)) (⟨?_, rfl⟩)))))); rfl
  contradiction
theorem rshare_ok (x : Det) (hd : Do x) (n v e : Int) (hvl : Fun Tryz.prog 13 [.agg x.c] (AK (bL (decide (Do x))) [])) (hlf : Fun Tryz.prog 14 [.agg x.c, iL 0] (AK (iL n) [])) (hvf : Fun Tryz.prog 34 [.agg [.sh 6 (x.mem.bs.map Bx.c), .sh 6 (x.mem.hs.map Bx.c)]] (AK (.tup [iL v, iL e]) []))
    {R : (Int × Int) × Int} (s2 : ¬ e = 0 → R = ((0, 0), e)) (hmk : e = 0 → Fun Tryz.prog 35 [iL n, iL v] (AK (.tup [.agg (CB R.1), iL R.2]) [])) :
    Fun Tryz.prog 12 [.agg x.c] (AK (.tup [.agg (CB R.1), iL R.2]) []) := by
  obtain ⟨⟨R1, R2⟩, R3⟩ := R
  dsimp only at hmk ⊢
  refine Fun.of (nt := 27) (rs := [.cell 2 46, .tmp 3]) Tryz.func12 rfl rfl rfl rfl rfl (Ac fun _ k=>A4 (Be _ true) (A4 (Bd DC) (Aa Ae (Ad k (An (Ac fun _ k=>Aa (Av _ Dh Dl) (A3 (hF := hvl) (h := Aa BB (Ad k (Cb (fun c1 => ?_) (fun c1 => ?_)))))))))))
  · contradiction
  refine As (Ac fun _ k=>Aa (Ap 0 am_fi34_0 am_cl26) (Aa (Ap 1 am_fi26_1 E7) (Aa (Av _ FS E7) (A3 (hF := hvf) (h := Aa Ab (Aa BA (Aa BA (Aa Ae (Aa Ae (Ad k (An (Ac fun _ k=>Aa Ab (Aa Dk (Ad k (Cb (fun c2 => ?_) (fun c2 => ?_))))))))))))))))
  · refine Ac fun _ k=>Aa (Bj _ DC am_pl46) (Aa Ab (AC _ true [_] E2 C0 (h := Aa Ae (Ad k (Af (Cv (B7 [_, _] EB C0 (DI BC)) (⟨?_, rfl⟩))))))); have e2 := s2 ‹_›; injection e2 with e3 e4; injection e3 with e5 e6; subst e4 e5 e6; rfl
  refine As (Ac fun _ k=>Aa (Av _ Dh Dl) (A3 (hF := hlf) (h := Aa Ab (A3 (hF := hmk ‹_›) (h := Aa BA (Aa BA (AC _ true [_] E2 C0 (h := Aa Ae (Ad k (Af (Cv (B7 [_, _] EB C0 (DI BC)) (⟨?_, rfl⟩)))))))))))); rfl
theorem rshare_fun (x : Det) (hw : x.w) : Fun Tryz.prog 12 [.agg x.c] (AK (.tup [.agg (CB (shR x).1), iL (shR x).2]) []) := by
  have hvl := rdetValid_fun x hw
  by_cases hd : Do x
  · have hlo := hd.1.2.1; have hlf := rLaidOf_fun x 0 hlo; rw [laidX_0 _ (laid_runs hlo)] at hlf; have hvf := rVolume_fun x.mem.bs x.mem.hs hd.1.1.2.1; have hlb := laidT_bd hlo; refine rshare_ok x hd _ _ _ hvl hlf hvf (sh_2 hd) fun he => ?_; obtain ⟨hv0, hv1⟩ := vol_bd hd.1.1.2.1 he
    by_cases hv : volV x.mem.bs x.mem.hs = 0
    · rw [sh_3 hd he hv, hv]; have := r2Make0_fun (Ft x.bars x.runs).toNat (by omega)
      rwa [Int.toNat_of_nonneg hlb.1] at this
    rw [sh_4 hd he hv]; have := r2Make_fun (Ft x.bars x.runs).toNat (volV x.mem.bs x.mem.hs).toNat (by omega) (by omega) (by omega)
    rwa [Int.toNat_of_nonneg hlb.1, Int.toNat_of_nonneg hv0] at this
  rw [sh_1 hd]; exact rshare_no x hd hvl
theorem equalStep_fun (a b : List (Int × Int)) (ha : a.length ≤ 140737488355328) (hb : b.length ≤ 140737488355328) : Fun Tryz.prog 19 [.sh 2 (a.map CB), .sh 2 (b.map CB)] (AK (bL (decide (a = b))) []) := by
  refine Fun.of (nt := 26) (rs := [.tmp 4]) Tryz.func19 rfl rfl rfl rfl rfl (Ac fun _ k=>Aa Ae (Ad k (An (Ac fun _ k=>Aa Ab (Aa (A7 CG) (Aa Ab (Aa (A7 CG) (Aa Dk (Ad k (Cb (fun c1 => ?_) (fun c1 => ?_)))))))))))
  · refine Ac fun _ k=>Aa Ae (Ad k (Af (Aq ?_))); exact bF (fun h => by subst h; omega)
  refine As (An (Ac fun _ k=>Aa Ab (Aa (A7 CG) (Aa Ab (Ad k (Ar (AI (ι := {q : List (Int × Int) × List (Int × Int) // q.1 ++ q.2 = a ∧ b.take q.1.length = q.1}) [] [0, 1, 12] (fun ⟨(pre, suf), _⟩ => [(13, iL (pre.length : Int))]) (fun ⟨(pre, suf), _⟩ => []) (fun ⟨(pre, suf), _⟩ => suf.length) ⟨([], a), rfl, rfl⟩ (.c (.c (.c .n))) AW (Ag) ?_))))))); rintro ⟨⟨pre, suf⟩, hp, hinv⟩ R0 hR0; dsimp only [cA, nA, lC, lN]
  simp only at hp hinv
  have hpl := Cd hp
  rcases suf with _ | ⟨s, suf⟩
  · rw [List.append_nil] at hp; subst hp; simp only [List.length_nil] at hpl; refine Ac fun _ k=>Aa Ay (Ad k (By (fun c2 => ?_) (fun c2 => ?_)))
    · omega
    refine AO (hR0 _ _ (Ac fun _ k=>Aa Ae (Ad k (Af (Aq ?_))))); exact bT (hinv.symm.trans (List.take_of_length_le (by omega)))
  simp only [lC] at hpl; have hidx := Ch hp; obtain ⟨s2, hidx2⟩ : ∃ s2, b[pre.length]? = some s2 := ⟨_, List.getElem?_eq_getElem (by omega)⟩; refine Ac fun _ k=>Aa Ay (Ad k (By (fun c4 => ?_) (fun c4 => ?_)))
  · refine An (Ar (Ac fun _ k=>Aa Ab (Aa Ae (Ad k (Ck (C8 [(0, 0), (0, 0), (2, 3), (3, 7), (0, 0), (0, 0), (6, 48), (7, 112), (8, 255)]) 9 fun _ k=>Ak Ab (Ak Ab (Ak (AL CG Dw (hl := (by exact AY hidx (by omega)))) (Ak (BF _ am_ag62 Dw) (Ak Ab (Ak Ab (Ak (AL CG Dw (hl := (by exact AY hidx2 (by omega)))) (Ak (BF _ am_ag62 Dw) (Ak (q.sneq am_eq62 (am_sq62 _ _ _ _)) (Bz [] (h := Ad k (Ev.c (fun c5 => ?_) (fun c5 => ?_)))))))))))))))))
    · refine Ac fun _ k=>Aa Ae (Ad k (Af (hR0 _ _ (Aq ?_)))); exact bF (fun h => by subst h; rw [hidx] at hidx2; cases hidx2; simp at *)
    refine As (Ao fun _ k=>Aa A6 (Aa Ab (Ad k (hR0 _ _ (A8 [] [0, 1, 12] ⟨(pre ++ [s], suf), B2 hp, ?_⟩ BX AW (Ag (he := (by simp))) (.c (.c (.c .n)))))))); simp only [List.length_append, List.length_cons, List.length_nil, Nat.zero_add]; rw [List.take_add_one, hinv, hidx2]
    simp at *
    obtain ⟨x1, x2⟩ := s; obtain ⟨y1, y2⟩ := s2
    simp_all
  omega
def demoL : List Bar := [⟨[98], 16, 1, 0, [1000]⟩, ⟨[97], 12, 2, 0, [1000]⟩]
theorem example_fun : Fun Tryz.prog 18 [] (AK (.sh 5 (demoL.map Bar.c)) []) := by
  refine Fun.of (nt := 6) (rs := [.tmp 0]) Tryz.func18 rfl rfl rfl rfl rfl (Ac fun _ k=>Aa Ae (Ad k (Ac fun _ k=>A4 (C3 [[_]] true AG Ed Ah) (SeqL.weaken (Wk.frzl (f := Cz) [_] 1 []) (Aa (Bj _ am_ze72 am_pl72) (A4 (C3 [[_]] true AG Ed Ah) (SeqL.weaken (Wk.frzl (f := Cz) [_] 3 []) (Aa (Bj _ am_ze72 am_pl72) (A4 (C3 [[_, _, _, _, _], [_, _, _, _, _]] true BO am_ze72 Bv) (Aa Ae (Ad k (AT (Wk.frzl (f := Bar.c) [(⟨_, _, _, _, _⟩ : Bar), (⟨_, _, _, _, _⟩ : Bar)] 0 []) (Af (Aq ?_)))))))))))))); rfl
theorem demo_w : Gl demoL := by
  intro b hb; simp only [demoL, List.mem_cons, List.not_mem_nil, or_false] at hb
  rcases hb with rfl | rfl <;> exact ⟨by decide, by decide⟩
theorem demo_masses : Fun Tryz.prog 17 [.sh 5 (demoL.map Bar.c)] (AK (.tup [.sh 2 (([(12, 1776), (16, 1578)] : List (Int × Int)).map CB), iL 0]) []) := by
  have h := Masses_fun demoL (by decide) demo_w
  rwa [show massesV demoL = [(12, 1776), (16, 1578)] by decide +kernel, show schedE demoL = 0 by decide +kernel] at h
theorem demo_total : Fun Tryz.prog 10 [.sh 5 (demoL.map Bar.c)] (AK (.tup [iL 3354, iL 0]) []) := by
  have h := Total_fun demoL (by decide) demo_w
  rwa [show totV demoL = 3354 by decide +kernel, show schedE demoL = 0 by decide +kernel] at h
theorem awake_fun : Fun Tryz.prog 5 [] (AK (bL true) []) := by
  refine Fun.of (nt := 32) (rs := [.tmp 0]) Tryz.func5 rfl rfl rfl rfl rfl (Ac fun _ k=>Aa Ae (Ad k (Ac fun _ k=>A3 (hF := example_fun) (h := A3 (hF := demo_masses) (h := Aa Ab (Aa BA (Aa BA (Aa Ae (Aa Ae (Ad k (Ac fun _ k=>A3 (hF := example_fun) (h := A3 (hF := demo_total) (h := Aa Ab (Aa BA (Aa BA (Aa Ae (Aa Ae (Ad k (Ac fun _ k=>Aa Ab (Aa B6 (AP Ab (fun c1 => ?_) (fun c1 => ?_))))))))))))))))))))))
  · refine Aa Ab (Aa (Bj _ am_ze62 am_pl62) (Aa (Bj _ am_ze62 am_pl62) (A4 (C3 [[_, _], [_, _]] true CG am_ze62 Dw) (A3 (hF := equalStep_fun _ [(12, 1776), (16, 1578)] (by decide) (by decide)) (h := Aa A5 (AP Ab (fun c2 => ?_) (fun c2 => ?_)))))))
    · refine Aa Ab (Aa B6 (Aa A5 (AP Ab (fun c3 => ?_) (fun c3 => ?_))))
      · refine Aa Ab (Aa B6 (Aa A5 (Aa Ae (Ad k (Af (Aq ?_)))))); rfl
      omega
    contradiction
  omega
theorem eqF_fun (l : List (Int × List UInt8)) (hl : l.length ≤ 140737488355328) : Fun Tryz.prog 15 [.sh 2 (l.map findC), .sh 2 (l.map findC)] (AK (bL true) []) := by
  refine Fun.of (nt := 26) (rs := [.tmp 4]) Tryz.func15 rfl rfl rfl rfl rfl (Ac fun _ k=>Aa Ae (Ad k (An (Ac fun _ k=>Aa Ab (Aa (A7 Fw) (Aa Ab (Aa (A7 Fw) (Aa Dk (Ad k (Cb (fun c1 => ?_) (fun c1 => ?_)))))))))))
  · omega
  refine As (An (Ac fun _ k=>Aa Ab (Aa (A7 Fw) (Aa Ab (Ad k (Ar (AI (ι := {p : List (Int × List UInt8) × List (Int × List UInt8) // p.1 ++ p.2 = l ∧ True}) [] [0, 1, 12] (fun ⟨(pre, suf), _⟩ => [(13, iL (pre.length : Int))]) (fun ⟨(pre, suf), _⟩ => []) (fun ⟨(pre, suf), _⟩ => suf.length) ⟨([], l), rfl, trivial⟩ (.c (.c (.c .n))) AW (Ag) ?_))))))); rintro ⟨⟨pre, suf⟩, hp, hinv⟩ R0 hR0; dsimp only [cA, nA, lC, lN]
  simp only at hp hinv
  have hpl := Cd hp
  rcases suf with _ | ⟨s, suf⟩
  · rw [List.append_nil] at hp; simp only [lN] at hpl; refine Ac fun _ k=>Aa Ay (Ad k (By (fun c2 => ?_) (fun c2 => ?_)))
    · omega
    refine AO (hR0 _ _ (Ac fun _ k=>Aa Ae (Ad k (Af (Aq ?_))))); rfl
  simp only [lC] at hpl; have hidx := Ch hp; obtain ⟨s1, s2⟩ := s; refine Ac fun _ k=>Aa Ay (Ad k (By (fun c3 => ?_) (fun c3 => ?_)))
  · refine An (Ar (Ac fun _ k=>Aa Ab (Aa Ae (Ad k (Ck (C8 [(0, 0), (0, 0), (2, 3), (3, 7), (0, 0), (0, 0), (6, 48), (7, 112), (8, 255)]) 9 fun _ k=>Ak Ab (Ak Ab (Ak (AL Fw FZ (hl := (by exact AY hidx (by omega)))) (Ak (BF _ am_ag54 FZ) (Ak Ab (Ak Ab (Ak (AL Fw FZ (hl := (by exact AY hidx (by omega)))) (Ak (BF _ am_ag54 FZ) (Ak (q.sneq am_eq54 (am_sq54 _ _ _ _)) (Bz [] (h := Ad k (Ev.c (fun c4 => ?_) (fun c4 => ?_)))))))))))))))))
    · exfalso; simp at *
    refine As (Ao fun _ k=>Aa A6 (Aa Ab (Ad k (hR0 _ _ (A8 [] [0, 1, 12] ⟨(pre ++ [(s1, s2)], suf), B2 hp, trivial⟩ BX AW (Ag (he := (by congr 2; simp))) (.c (.c (.c .n)))))))); skip
  omega
theorem w_l2 {x : Det} (h : x.w) : x.l := ⟨h.1.1, ⟨h.1.2.1, h.1.2.2⟩, h.2.1.1, h.2.2.1.1, h.2.2.2.1, h.2.2.2.2.1⟩
theorem det_bad2 {x : Det} (h : ¬ Do x) : qbV x = [] ∧ detV x (Ft x.bars x.runs) = 0 ∧ detE x = 1 := ⟨if_neg h, if_neg h, if_neg h⟩
theorem det_good2 {x : Det} (h : Do x) : qbV x = qbL x.bars x.runs BR ∧ detV x (Ft x.bars x.runs) = Ft x.bars x.runs ∧ detE x = 0 := ⟨if_pos h, if_pos h, if_pos h⟩
theorem laid_law (x : Det) (hw : x.w) : Fun Tryz.prog 4 [.agg x.c] (AK (bL true) []) := by
  have hl := w_l2 hw; obtain ⟨hw1, ⟨hw2, hw2b⟩, ⟨hw3, hw3b⟩, hw4, hw5, hw6⟩ := id hw; have hbad : ¬ Do x → qbV x = [] ∧ detV x (Ft x.bars x.runs) = 0 ∧ detE x = 1 := det_bad2
  have hgood : Do x → qbV x = qbL x.bars x.runs BR ∧ detV x (Ft x.bars x.runs) = Ft x.bars x.runs ∧ detE x = 0 ∧ laidX x.bars x.runs 0 = Ft x.bars x.runs ∧ Dq x.bars x.runs ∧ (qbL x.bars x.runs BR).length ≤ 9 := fun h => by
    obtain ⟨e1, e2, e3⟩ := det_good2 h; exact ⟨e1, e2, e3, laidX_0 _ (laid_runs h.1.2.1), h.1.2.1, qbL_len _ _ _⟩
  have f1 := qBal_fun x hw; have f2 := Laid_fun x hw; have f3 := share_fun x hw; have f4 := rshare_fun x hw; have f5 := rdetValid_fun x hw; obtain ⟨N, hN⟩ : ∃ N, N = detV x (Ft x.bars x.runs) := ⟨_, rfl⟩; obtain ⟨E1, hE1⟩ : ∃ E, E = detE x := ⟨_, rfl⟩; obtain ⟨Q1, hQ1⟩ : ∃ Q, Q = qbV x := ⟨_, rfl⟩; obtain ⟨R1, hR1⟩ : ∃ R, R = shR x := ⟨_, rfl⟩; rw [← hE1] at f1 f2 hbad hgood; rw [← hQ1] at f1 hbad hgood; rw [← hN] at f2 hbad hgood; rw [← hR1] at f3 f4; clear hN hE1 hQ1 hR1; obtain ⟨⟨R2, R3⟩, R4⟩ := R1
  dsimp only at f3 f4
  refine Fun.of (nt := 80) (rs := [.tmp 2]) Tryz.func4 rfl rfl rfl rfl rfl (Ac fun _ k=>A4 (Be _ true) (Aa Ae (Ad k (An (Ac fun _ k=>A3 (hF := awake_fun) (h := Aa q.nott (Ad k (Ei (As (An (Ac fun _ k=>Aa (Av _ Dh Dl) (A3 (hF := smDet_fun x hl) (h := Aa BB (Ad k (Cb (fun c1 => ?_) (fun c1 => ?_))))))))))))))))
  · refine Ac fun _ k=>Aa Ae (Ad k (Af (Aq ?_))); rfl
  refine As (Ac fun _ k=>Aa (Av _ Dh Dl) (A3 (hF := f2) (h := Aa Ab (Aa BA (Aa BA (Aa Ae (Aa Ae (Ad k (Ac fun _ k=>Aa (Av _ Dh Dl) (A3 (hF := f1) (h := Aa Ab (Aa BA (Aa BA (Aa Ae (Aa Ae (Ad k (Ac fun _ k=>Aa (Av _ Dh Dl) (A3 (hF := f3) (h := Aa Ab (Aa BA (Aa BA (A4 (Bd DC) (AC _ true [_] E2 C0 (h := Aa Ae (Ad k (Ac fun _ k=>Aa (Av _ Dh Dl) (A3 (hF := f4) (h := Aa Ab (Aa BA (Aa BA (A4 (Bd DC) (AC _ true [_, _] E2 C0 (h := Aa Ae (Ad k (An (Ac fun _ k=>Aa (Av _ EB C0) (Aa (Av _ EB C0) (Aa (q.sneq am_eq46 (am_sq46 _ _ _ _)) (S.bb Ab (fun c2 => ?_) (fun c2 => ?_))))))))))))))))))))))))))))))))))))))))
  · refine Ai (A9 (Aa A5 (Ad k (B3 ?_))))
    (exfalso; simp at *)
  refine Aa Ab (Aa Ab (Aa Dk (Aa Au (Ad k (Cb (fun c3 => ?_) (fun c3 => ?_))))))
  · omega
  refine As (An (Ac fun _ k=>Aa (Av _ Dh Dl) (A3 (hF := f5) (h := Aa BB (Ad k (Cb (fun c4 => ?_) (fun c4 => ?_)))))))
  · obtain ⟨b1, b2, b3⟩ := hbad ‹_›; subst b1; refine Ac fun _ k=>Aa Ab (Aa B6 (AP Ab (fun c5 => ?_) (fun c5 => ?_)))
    · refine Aa Ab (Aa B6 (Aa A5 (AP Ab (fun c6 => ?_) (fun c6 => ?_))))
      · refine Aa Ab (Aa (A7 Fw) (Aa B6 (Aa A5 (AP Ab (fun c7 => ?_) (fun c7 => ?_)))))
        · refine Aa Ab (Aa B6 (Aa A5 (Aa Ae (Ad k (Af (Aq ?_)))))); exact lawT (by omega)
        contradiction
      omega
    omega
  refine As ?_; obtain ⟨g1, g2, g3, g4, g5, g6⟩ := hgood ‹_›; have hlf := rLaidOf_fun x 0 g5; have hrb := rBalance_fun x g5; rw [g4] at hlf; rw [← g1] at hrb g6; refine Ac fun _ k=>Aa Ab (Aa (Av _ Dh Dl) (A3 (hF := hlf) (h := Aa B6 (AP Ab (fun c8 => ?_) (fun c8 => ?_)))))
  · refine Aa Ab (Aa B6 (Aa A5 (AP Ab (fun c9 => ?_) (fun c9 => ?_))))
    · refine Aa Ab (Aa B6 (Aa A5 (AP Ab (fun c10 => ?_) (fun c10 => ?_))))
      · refine Aa Ab (Aa (Av _ Dh Dl) (A3 (hF := hrb) (h := A3 (hF := eqF_fun _ (by omega)) (h := Aa A5 (Aa Ae (Ad k (Af (Aq ?_)))))))); rfl
      omega
    omega
  omega
section
open Go.ChangeShapes Go.WideShapes Go.RowKit
theorem open_string {row : List AV} (h : WT Tryz.prog 9 row) : ∃ s : List UInt8, row = [.lit (FQ s)] ∧ s.length ≤ 140737488355328 := by
  obtain ⟨s, rfl, hs⟩ := h.string_inv Dr; refine ⟨s.data.toList, by rw [FQ, ← bytes_eta], ?_⟩; have e : s.data.toList.length = s.size := Array.length_toList; simp only [reachBytes] at hs; omega
theorem open_ints {row : List AV} (h : WT Tryz.prog 66 row) : ∃ l : List Int, row = [.sh 1 (l.map Cz)] ∧ l.length ≤ 140737488355328 := by
  obtain ⟨rows, rfl, h1, h2⟩ := h.slice_inv AG
  obtain ⟨l, rfl, _⟩ := rows_map (f := Cz) (q := fun _ => True) (rows := rows) (fun r hr => by
    obtain ⟨a, rfl, _⟩ := (h2 r hr).int_inv Cl
    exact ⟨a, rfl, trivial⟩)
  refine ⟨l, by rw [Ah], ?_⟩; rw [am_by3, List.length_map] at h1; simp only [reachBytes] at h1; omega
theorem open_bars {row : List AV} (h : WT Tryz.prog 27 row) : ∃ l : List Bar, row = [.sh 5 (l.map Bar.c)] ∧ l.length ≤ 140737488355328 ∧ Gl l := by
  obtain ⟨rows, rfl, h1, h2⟩ := h.slice_inv BO
  obtain ⟨l, rfl, hq⟩ := rows_map (f := Bar.c) (q := Bar.w) (rows := rows) (fun r hr => by
    obtain ⟨r1, q1, rfl, k1, g1⟩ := ((h2 r hr).struct_inv am_ft72).cons_inv; obtain ⟨r2, q2, rfl, k2, g2⟩ := g1.cons_inv; obtain ⟨r3, q3, rfl, k3, g3⟩ := g2.cons_inv; obtain ⟨r4, q4, rfl, k4, g4⟩ := g3.cons_inv; obtain ⟨r5, q5, rfl, k5, g5⟩ := g4.cons_inv; obtain rfl := g5.nil_inv; obtain ⟨s, rfl, hs⟩ := open_string k1; obtain ⟨a, rfl, _⟩ := k2.int_inv Cl; obtain ⟨b, rfl, _⟩ := k3.int_inv Cl; obtain ⟨c, rfl, _⟩ := k4.int_inv Cl; obtain ⟨d, rfl, hd⟩ := open_ints k5
    exact ⟨⟨s, a, b, c, d⟩, rfl, hs, hd⟩)
  refine ⟨l, by rw [Bv], ?_, hq⟩; rw [am_by72, List.length_map] at h1; simp only [reachBytes] at h1; omega
theorem open_steps {row : List AV} (h : WT Tryz.prog 56 row) : ∃ l : List (Int × Int), row = [.sh 2 (l.map CB)] ∧ l.length ≤ 140737488355328 := by
  obtain ⟨rows, rfl, h1, h2⟩ := h.slice_inv CG
  obtain ⟨l, rfl, _⟩ := rows_map (f := CB) (q := fun _ => True) (rows := rows) (fun r hr => by
    obtain ⟨r1, r2, rfl, k1, k2⟩ := ((h2 r hr).struct_inv am_ft62).cons_inv; obtain ⟨r3, r4, rfl, k3, k4⟩ := k2.cons_inv; obtain rfl := k4.nil_inv; obtain ⟨a, rfl, _⟩ := k1.int_inv Cl; obtain ⟨b, rfl, _⟩ := k3.int_inv Cl
    exact ⟨(a, b), rfl, trivial⟩)
  refine ⟨l, by rw [Dw], ?_⟩; rw [am_by62, List.length_map] at h1; simp only [reachBytes] at h1; omega
theorem open_joints {row : List AV} (h : WT Tryz.prog 29 row) : ∃ l : List (Int × Int), row = [.sh 2 (l.map CB)] ∧ l.length ≤ 140737488355328 := by
  obtain ⟨rows, rfl, h1, h2⟩ := h.slice_inv EZ
  obtain ⟨l, rfl, _⟩ := rows_map (f := CB) (q := fun _ => True) (rows := rows) (fun r hr => by
    obtain ⟨r1, r2, rfl, k1, k2⟩ := ((h2 r hr).struct_inv am_ft94).cons_inv; obtain ⟨r3, r4, rfl, k3, k4⟩ := k2.cons_inv; obtain rfl := k4.nil_inv; obtain ⟨a, rfl, _⟩ := k1.int_inv Cl; obtain ⟨b, rfl, _⟩ := k3.int_inv Cl
    exact ⟨(a, b), rfl, trivial⟩)
  refine ⟨l, by rw [G5], ?_⟩; rw [am_by94, List.length_map] at h1; simp only [reachBytes] at h1; omega
end
section
open Go.ChangeShapes Go.WideShapes Go.RowKit
theorem open_box {row : List AV} (h : WT Tryz.prog 100 row) : ∃ b : Bx, row = b.c := by
  obtain ⟨r1, q1, rfl, k1, g1⟩ := (h.struct_inv am_ft100).cons_inv; obtain ⟨r2, q2, rfl, k2, g2⟩ := g1.cons_inv; obtain rfl := g2.nil_inv; obtain ⟨a1, b1, rfl, j1, i1⟩ := (k1.struct_inv am_ft80).cons_inv; obtain ⟨a2, b2, rfl, j2, i2⟩ := i1.cons_inv; obtain ⟨a3, b3, rfl, j3, i3⟩ := i2.cons_inv; obtain rfl := i3.nil_inv; obtain ⟨c1, d1, rfl, l1, m1⟩ := (k2.struct_inv am_ft80).cons_inv; obtain ⟨c2, d2, rfl, l2, m2⟩ := m1.cons_inv; obtain ⟨c3, d3, rfl, l3, m3⟩ := m2.cons_inv; obtain rfl := m3.nil_inv; obtain ⟨x1, rfl, _⟩ := j1.int_inv Cl; obtain ⟨x2, rfl, _⟩ := j2.int_inv Cl; obtain ⟨x3, rfl, _⟩ := j3.int_inv Cl; obtain ⟨y1, rfl, _⟩ := l1.int_inv Cl; obtain ⟨y2, rfl, _⟩ := l2.int_inv Cl; obtain ⟨y3, rfl, _⟩ := l3.int_inv Cl; exact ⟨⟨x1, x2, x3, y1, y2, y3⟩, rfl⟩
theorem open_dem {row : List AV} (h : WT Tryz.prog 102 row) : ∃ d : Dem, row = d.c ∧ d.w := by
  obtain ⟨r1, q1, rfl, k1, g1⟩ := (h.struct_inv am_ft102).cons_inv; obtain ⟨r2, q2, rfl, k2, g2⟩ := g1.cons_inv; obtain ⟨r3, q3, rfl, k3, g3⟩ := g2.cons_inv; obtain rfl := g3.nil_inv; obtain ⟨s, rfl, hs⟩ := open_string k1; obtain ⟨⟨x1, x2, x3, y1, y2, y3⟩, rfl⟩ := open_box k2; obtain ⟨t, rfl, ht⟩ := open_steps k3; exact ⟨⟨s, ⟨x1, x2, x3, y1, y2, y3⟩, t⟩, rfl, hs, ht⟩
theorem open_dems {row : List AV} (h : WT Tryz.prog 30 row) : ∃ l : List Dem, row = [.sh 8 (l.map Dem.c)] ∧ l.length ≤ 140737488355328 ∧ demW l := by
  obtain ⟨rows, rfl, h1, h2⟩ := h.slice_inv CQ; obtain ⟨l, rfl, hq⟩ := rows_map (f := Dem.c) (q := Dem.w) (rows := rows) (fun r hr => open_dem (h2 r hr)); refine ⟨l, by rw [DR], ?_, hq⟩; rw [am_by102, List.length_map] at h1; simp only [reachBytes] at h1; omega
end
section
open Go.ChangeShapes Go.WideShapes Go.RowKit
theorem open_boxs {row : List AV} (h : WT Tryz.prog 22 row) : ∃ l : List Bx, row = [.sh 6 (l.map Bx.c)] ∧ l.length ≤ 140737488355328 := by
  obtain ⟨rows, rfl, h1, h2⟩ := h.slice_inv Bs
  obtain ⟨l, rfl, _⟩ := rows_map (f := Bx.c) (q := fun _ => True) (rows := rows) (fun r hr => by
    obtain ⟨b, rfl⟩ := open_box (h2 r hr)
    exact ⟨b, rfl, trivial⟩)
  refine ⟨l, by rw [AB], ?_⟩; rw [am_by100, List.length_map] at h1; simp only [reachBytes] at h1; omega
theorem open_run {row : List AV} (h : WT Tryz.prog 82 row) : ∃ r : Rn, row = r.c ∧ r.mark.length ≤ 140737488355328 := by
  obtain ⟨r1, q1, rfl, k1, g1⟩ := (h.struct_inv am_ft82).cons_inv; obtain ⟨r2, q2, rfl, k2, g2⟩ := g1.cons_inv; obtain ⟨r3, q3, rfl, k3, g3⟩ := g2.cons_inv; obtain ⟨r4, q4, rfl, k4, g4⟩ := g3.cons_inv; obtain ⟨r5, q5, rfl, k5, g5⟩ := g4.cons_inv; obtain rfl := g5.nil_inv; obtain ⟨r6, q6, rfl, k6, g6⟩ := (k2.struct_inv am_ft78).cons_inv; obtain ⟨r7, q7, rfl, k7, g7⟩ := g6.cons_inv; obtain rfl := g7.nil_inv; obtain ⟨r8, q8, rfl, k8, g8⟩ := (k3.struct_inv am_ft80).cons_inv; obtain ⟨r9, q9, rfl, k9, g9⟩ := g8.cons_inv; obtain ⟨r10, q10, rfl, k10, g10⟩ := g9.cons_inv; obtain rfl := g10.nil_inv; obtain ⟨r11, q11, rfl, k11, g11⟩ := (k4.struct_inv am_ft80).cons_inv; obtain ⟨r12, q12, rfl, k12, g12⟩ := g11.cons_inv; obtain ⟨r13, q13, rfl, k13, g13⟩ := g12.cons_inv; obtain rfl := g13.nil_inv; obtain ⟨s, rfl, hs⟩ := open_string k1; obtain ⟨a0, rfl, _⟩ := k6.int_inv Cl; obtain ⟨a1, rfl, _⟩ := k7.int_inv Cl; obtain ⟨b0, rfl, _⟩ := k8.int_inv Cl; obtain ⟨b1, rfl, _⟩ := k9.int_inv Cl; obtain ⟨b2, rfl, _⟩ := k10.int_inv Cl; obtain ⟨c0, rfl, _⟩ := k11.int_inv Cl; obtain ⟨c1, rfl, _⟩ := k12.int_inv Cl; obtain ⟨c2, rfl, _⟩ := k13.int_inv Cl; obtain ⟨d0, rfl, _⟩ := k5.int_inv Cl; exact ⟨⟨s, a0, a1, b0, b1, b2, c0, c1, c2, d0⟩, rfl, hs⟩
theorem open_runs {row : List AV} (h : WT Tryz.prog 28 row) : ∃ l : List Rn, row = [.sh 10 (l.map Rn.c)] ∧ l.length ≤ 140737488355328 ∧ runW l := by
  obtain ⟨rows, rfl, h1, h2⟩ := h.slice_inv Bo; obtain ⟨l, rfl, hq⟩ := rows_map (f := Rn.c) (q := fun r => r.mark.length ≤ 140737488355328) (rows := rows) (fun r hr => open_run (h2 r hr)); refine ⟨l, by rw [B5], ?_, hq⟩; rw [am_by82, List.length_map] at h1; simp only [reachBytes] at h1; omega
theorem open_member {row : List AV} (h : WT Tryz.prog 26 row) : ∃ x : Mem, row = x.c ∧ x.w := by
  obtain ⟨r14, q14, rfl, k14, g14⟩ := (h.struct_inv am_ft26).cons_inv; obtain ⟨r15, q15, rfl, k15, g15⟩ := g14.cons_inv; obtain ⟨r16, q16, rfl, k16, g16⟩ := g15.cons_inv; obtain ⟨r17, q17, rfl, k17, g17⟩ := g16.cons_inv; obtain ⟨r18, q18, rfl, k18, g18⟩ := g17.cons_inv; obtain rfl := g18.nil_inv; obtain ⟨r19, q19, rfl, k19, g19⟩ := (k15.struct_inv am_ft24).cons_inv; obtain ⟨r20, q20, rfl, k20, g20⟩ := g19.cons_inv; obtain rfl := g20.nil_inv; obtain ⟨s, rfl, hs⟩ := open_string k14; obtain ⟨b, rfl, hb⟩ := open_boxs k19; obtain ⟨c, rfl, hc⟩ := open_boxs k20; obtain ⟨a0, rfl, _⟩ := k16.int_inv Cl; obtain ⟨a1, rfl, _⟩ := k17.int_inv Cl; obtain ⟨a2, rfl, _⟩ := k18.int_inv Cl; exact ⟨⟨s, b, c, a0, a1, a2⟩, rfl, hs, hb, hc⟩
theorem open_rule {row : List AV} (h : WT Tryz.prog 32 row) : ∃ x : Rul, row = x.c := by
  obtain ⟨r21, q21, rfl, k21, g21⟩ := (h.struct_inv am_ft32).cons_inv; obtain ⟨r22, q22, rfl, k22, g22⟩ := g21.cons_inv; obtain ⟨r23, q23, rfl, k23, g23⟩ := g22.cons_inv; obtain ⟨r24, q24, rfl, k24, g24⟩ := g23.cons_inv; obtain ⟨r25, q25, rfl, k25, g25⟩ := g24.cons_inv; obtain ⟨r26, q26, rfl, k26, g26⟩ := g25.cons_inv; obtain ⟨r27, q27, rfl, k27, g27⟩ := g26.cons_inv; obtain ⟨r28, q28, rfl, k28, g28⟩ := g27.cons_inv; obtain ⟨r29, q29, rfl, k29, g29⟩ := g28.cons_inv; obtain rfl := g29.nil_inv; obtain ⟨a0, rfl, _⟩ := k21.int_inv Cl; obtain ⟨a1, rfl, _⟩ := k22.int_inv Cl; obtain ⟨a2, rfl, _⟩ := k23.int_inv Cl; obtain ⟨a3, rfl, _⟩ := k24.int_inv Cl; obtain ⟨a4, rfl, _⟩ := k25.int_inv Cl; obtain ⟨a5, rfl, _⟩ := k26.int_inv Cl; obtain ⟨a6, rfl, _⟩ := k27.int_inv Cl; obtain ⟨a7, rfl, _⟩ := k28.int_inv Cl; obtain ⟨a8, rfl, _⟩ := k29.int_inv Cl; exact ⟨⟨a0, a1, a2, a3, a4, a5, a6, a7, a8⟩, rfl⟩
theorem open_det {row : List AV} (h : WT Tryz.prog 34 row) : ∃ x : Det, row = x.c ∧ x.w := by
  obtain ⟨r30, q30, rfl, k30, g30⟩ := (h.struct_inv am_ft34).cons_inv; obtain ⟨r31, q31, rfl, k31, g31⟩ := g30.cons_inv; obtain ⟨r32, q32, rfl, k32, g32⟩ := g31.cons_inv; obtain ⟨r33, q33, rfl, k33, g33⟩ := g32.cons_inv; obtain ⟨r34, q34, rfl, k34, g34⟩ := g33.cons_inv; obtain ⟨r35, q35, rfl, k35, g35⟩ := g34.cons_inv; obtain rfl := g35.nil_inv; obtain ⟨x1, rfl, h1⟩ := open_member k30; obtain ⟨x2, rfl, h2, h2w⟩ := open_bars k31; obtain ⟨x3, rfl, h3, h3w⟩ := open_runs k32; obtain ⟨x4, rfl, h4⟩ := open_joints k33; obtain ⟨x5, rfl, h5, h5w⟩ := open_dems k34; obtain ⟨x6, rfl⟩ := open_rule k35; exact ⟨⟨x1, x2, x3, x4, x5, x6⟩, rfl, h1, ⟨h2, h2w⟩, ⟨h3, h3w⟩, h4, h5, h5w⟩
end
end Go.Proofs.YtlpgjlnkfgacbaaGreatDoor
