/-
  The law StockMerges, walked.
  Conditions: none.
-/
import Derived.Test.YtckahagagfmpbaaSw2
import Derived.Test.YtckahagagfmpbaaSw1
namespace Go.Proofs.Ytckahagagfmpbaa
open Go Go.AM
set_option linter.unusedSimpArgs false
set_option linter.unusedVariables false
set_option maxRecDepth 100000
set_option maxHeartbeats 1000000

theorem perm_sum {l m : List Int} (h : l.Perm m) : l.sum = m.sum := by
  induction h with
  | nil => rfl
  | cons x _ ih => rw [List.sum_cons, List.sum_cons, ih]
  | swap x y l => simp only [List.sum_cons]; omega
  | trans _ _ h1 h2 => exact h1.trans h2
theorem sk_perm {l m : List (Int × Int)} (h : l.Perm m) (hok : ∀ b ∈ l, okPc b) : skP l = skP m := by
  have hok' : ∀ b ∈ m, okPc b := fun b hb => hok b (h.mem_iff.2 hb)
  refine desc_ext (skP_sorted l) (skP_sorted m) fun p => ?_
  rw [skP_mem hok, skP_mem hok']
  have e1 : SkHas l p.1 ↔ SkHas m p.1 := by
    unfold SkHas
    exact ⟨fun ⟨b, hb, e⟩ => ⟨b, h.mem_iff.1 hb, e⟩, fun ⟨b, hb, e⟩ => ⟨b, h.mem_iff.2 hb, e⟩⟩
  have e2 : skCnt l p.1 = skCnt m p.1 := perm_sum (h.map _)
  rw [e1, e2]
theorem mg1_perm {l m : List (Int × Int)} (h : l.Perm m) (hok : ∀ b ∈ l, okPc b) : mgV1 l = mgV1 m ∧ mgE1 l = mgE1 m := by
  have e := sk_perm h hok
  have eg : shG l ↔ shG m := by unfold shG; rw [e]
  unfold mgV1 mgE1
  by_cases hg : shG l
  · rw [if_pos hg, if_pos hg, if_pos (eg.1 hg), if_pos (eg.1 hg), e]; exact ⟨rfl, rfl⟩
  · rw [if_neg hg, if_neg hg, if_neg (fun h => hg (eg.2 h)), if_neg (fun h => hg (eg.2 h))]; exact ⟨rfl, rfl⟩
theorem mg_comm (a b : List (Int × Int)) : mgV a b = mgV b a ∧ mgE a b = mgE b a := by
  by_cases h : okOrd a ∧ okOrd b
  · obtain ⟨h1, h2⟩ := mg1_perm (List.perm_append_comm (l₁ := a) (l₂ := b)) (ok2 h.1 h.2).1
    rw [(mY h.1 h.2).1, (mY h.1 h.2).2, (mY h.2 h.1).1, (mY h.2 h.1).2]
    exact ⟨h1, h2⟩
  · have h' : ¬ (okOrd b ∧ okOrd a) := fun hh => h ⟨hh.2, hh.1⟩
    exact ⟨(if_neg h).trans (if_neg h').symm, (if_neg h).trans (if_neg h').symm⟩
theorem nil_ord : okOrd [] := ⟨by simp, fun p hp => by cases hp⟩
theorem mg_nil (a : List (Int × Int)) : mgV a [] = sV a ∧ mgE a [] = sE a := by
  by_cases h : okOrd a
  · have hl := skP_len h.2
    have hl2 := h.1
    rw [(mY h nil_ord).1, (mY h nil_ord).2, (sY h).1, (sY h).2, List.append_nil]
    unfold mgV1 mgE1 shV shE
    rw [if_pos (show (skP a).length ≤ 200 by omega), if_pos (show (skP a).length ≤ 200 by omega)]
    exact ⟨rfl, rfl⟩
  · have h' : ¬ (okOrd a ∧ okOrd []) := fun hh => h hh.1
    exact ⟨(if_neg h').trans (if_neg h).symm, (if_neg h').trans (if_neg h).symm⟩
/-! The total of the short order. -/
theorem sum_nn0 {T : Type} (f : T → Int) : ∀ l : List T, (∀ x ∈ l, f x = 0) → (l.map f).sum = 0
  | [], _ => rfl
  | x :: l, h => by rw [List.map_cons, List.sum_cons, h x (by simp), sum_nn0 f l (fun y hy => h y (by simp [hy]))]; rfl
theorem sum_add {T : Type} (f g : T → Int) : ∀ l : List T, (l.map fun x => f x + g x).sum = (l.map f).sum + (l.map g).sum
  | [] => rfl
  | x :: l => by simp only [List.map_cons, List.sum_cons, sum_add f g l]; omega
theorem sum_swap {T U : Type} (g : T → U → Int) (l : List U) : ∀ q : List T, (q.map fun p => (l.map (g p)).sum).sum = (l.map fun b => (q.map fun p => g p b).sum).sum
  | [] => by simp only [List.map_nil, List.sum_nil]; exact (sum_nn0 _ l fun _ _ => rfl).symm
  | p :: q => by
    simp only [List.map_cons, List.sum_cons, sum_swap g l q]
    exact (sum_add (g p) (fun b => (q.map fun p => g p b).sum) l).symm
theorem sum_one {T K : Type} [DecidableEq K] (key : T → K) (k : K) (v : Int) : ∀ q : List T, (q.map key).Nodup → k ∈ q.map key → (q.map fun p => if key p = k then v else 0).sum = v
  | [], _, h => by simp at h
  | p :: q, hn, h => by
    rw [List.map_cons, List.nodup_cons] at hn
    rw [List.map_cons, List.sum_cons]
    by_cases e : key p = k
    · rw [if_pos e, sum_nn0 _ q (fun x hx => if_neg (fun e' => hn.1 (by rw [e, ← e']; exact List.mem_map_of_mem hx)))]
      omega
    · rw [if_neg e, sum_one key k v q hn.2 (by
        rcases List.mem_cons.1 h with h | h
        · exact absurd h.symm e
        · exact h)]
      omega
theorem sum_mul (k : Int) : ∀ l : List Int, k * l.sum = (l.map fun x => k * x).sum
  | [] => by simp
  | x :: l => by rw [List.sum_cons, Int.mul_add, List.map_cons, List.sum_cons, sum_mul k l]
theorem skP_tot {l : List (Int × Int)} (hok : ∀ b ∈ l, okPc b) : totP (skP l) = totP l := by
  have e1 : (skP l).map (fun p => p.1 * p.2) = (skP l).map fun p => (l.map fun b => if p.1 = b.1 then b.1 * b.2 else 0).sum := by
    refine List.map_congr_left fun p hp => ?_
    rw [((skP_mem hok p).1 hp).2, skCnt, sum_mul, List.map_map]
    congr 1
    refine List.map_congr_left fun b _ => ?_
    by_cases e : b.1 = p.1
    · simp only [Function.comp_apply]; rw [if_pos e, if_pos e.symm, e]
    · simp only [Function.comp_apply]; rw [if_neg e, if_neg (fun h => e h.symm), Int.mul_zero]
  rw [totP, e1, sum_swap (fun (p b : Int × Int) => if p.1 = b.1 then b.1 * b.2 else 0) l (skP l), totP]
  congr 1
  refine List.map_congr_left fun b hb => ?_
  refine sum_one (fun p : Int × Int => p.1) b.1 (b.1 * b.2) (skP l) ?_ ?_
  · rw [List.Nodup, List.pairwise_map]
    exact (skP_sorted l).imp fun h e => by omega
  · exact List.mem_map.2 ⟨(b.1, skCnt l b.1), (skP_mem hok _).2 ⟨⟨b, hb, rfl⟩, rfl⟩, rfl⟩
theorem totP_app (a b : List (Int × Int)) : totP (a ++ b) = totP a + totP b := by simp [totP]
theorem mg_zero {a b : List (Int × Int)} (h : mgE a b = 0) : okOrd a ∧ okOrd b ∧ mgV a b = skP (a ++ b) ∧ shG (a ++ b) ∧ (skP (a ++ b)).length ≤ 200 := by
  unfold mgE at h
  by_cases h1 : okOrd a ∧ okOrd b
  · rw [if_pos h1] at h
    unfold mgE1 at h
    by_cases h2 : shG (a ++ b)
    · rw [if_pos h2] at h
      by_cases h3 : (skP (a ++ b)).length ≤ 200
      · exact ⟨h1.1, h1.2, (if_pos h1).trans ((if_pos h2).trans (if_pos h3)), h2, h3⟩
      · rw [if_neg h3] at h; cases h
    · rw [if_neg h2] at h; cases h
  · rw [if_neg h1] at h; cases h
theorem mg_ne {a b : List (Int × Int)} (h : ¬ mgE a b = 0) : (mgV a b).length = 0 := by
  unfold mgE at h
  unfold mgV
  by_cases h1 : okOrd a ∧ okOrd b
  · rw [if_pos h1] at h ⊢
    unfold mgE1 at h
    unfold mgV1
    by_cases h2 : shG (a ++ b)
    · rw [if_pos h2] at h ⊢
      by_cases h3 : (skP (a ++ b)).length ≤ 200
      · rw [if_pos h3] at h; exact absurd rfl h
      · rw [if_neg h3]; rfl
    · rw [if_neg h2]; rfl
  · rw [if_neg h1]; rfl
theorem skP_ok {c : List (Int × Int)} (hok : ∀ b ∈ c, okPc b) (hg : shG c) : ∀ p ∈ skP c, okPc p := fun p hp => by
  obtain ⟨⟨b, hb, e⟩, h2⟩ := (skP_mem hok p).1 hp
  obtain ⟨g1, g2, _⟩ := hok b hb
  have g3 := hg p hp
  have g4 := skCnt_pos hok ⟨b, hb, e⟩
  unfold okPc
  omega
theorem mg_tot {a b : List (Int × Int)} (h : mgE a b = 0) : tlV (mgV a b) = tlV a + tlV b ∧ tlE a = 0 ∧ tlE b = 0 ∧ tlE (mgV a b) = 0 := by
  obtain ⟨h1, h2, h3, h4, h5⟩ := mg_zero h
  have hok2 := (ok2 h1 h2).1
  have h6 : okOrd (mgV a b) := by rw [h3]; exact ⟨h5, skP_ok hok2 h4⟩
  rw [(tl_ok h6).1, (tl_ok h6).2, (tl_ok h1).1, (tl_ok h1).2, (tl_ok h2).1, (tl_ok h2).2, h3, skP_tot hok2, totP_app]
  exact ⟨rfl, rfl, rfl, rfl⟩
theorem tlV_bd (a : List (Int × Int)) : 0 ≤ tlV a ∧ tlV a ≤ 1048576000000 * 200 := by
  unfold tlV
  split
  · rename_i h
    have := totP_bd a h.2
    have := h.1
    omega
  · omega
theorem fun_nil2 {P : Program} {f : FuncId} {x : AV} {sz : Nat} {Post : AV → List (Nat × AM.Obj) → Prop} (h : Fun P f [x, .sh sz []] Post) : Fun P f [x, .lit (.slice none 0 0)] Post :=
  ⟨h.1, fun E xs hx => h.2 E xs (by
    simp only [FVs] at hx ⊢
    obtain ⟨y, ys, rfl, h1, z, zs, rfl, h2, rfl⟩ := hx
    refine ⟨y, _, rfl, h1, z, _, rfl, ?_, rfl⟩
    simp only [FV] at h2 ⊢
    subst h2
    exact ⟨none, 0, [], rfl, Nat.le_refl _, by simp [FVr], fun h => absurd rfl h⟩)⟩
theorem stMergeN_fun (a : List (Int × Int)) (ha : a.length ≤ 140737488355328) : Fun Try.prog 26 [.sh 2 (a.map pairC), .lit (.slice none 0 0)] (Ret (.tup [.sh 2 ((mgV a []).map pairC), .lit (.int .i64 (mgE a []))]) []) :=
  fun_nil2 (stMerge_fun a [] ha (by simp))
theorem merges_law (a b : List (Int × Int)) (ha : a.length ≤ 140737488355328) (hb : b.length ≤ 140737488355328) : Fun Try.prog 6 [.sh 2 (a.map pairC), .sh 2 (b.map pairC)] (Ret (.lit (.bool true)) []) := by
  obtain ⟨c1, c2⟩ := mg_comm a b
  obtain ⟨c3, c4⟩ := mg_nil a
  refine Fun.of (nt := 103) (rs := [.tmp 4]) Try.func6 rfl rfl rfl rfl rfl ?_
  refine Ev.sr fun K hK => S.o q.as (S.end (hK _ ?_))
  clear hK K
  refine Ev.seq ?_
  refine Ev.sr fun K hK => S.c0 (hF := awake_fun) (h := S.o q.nott (S.end (hK _ ?_)))
  clear hK K
  refine Ev.cf ?_
  refine Ev.skip ?_
  show Ev _ _ _ _
  refine Ev.seq ?_
  refine Ev.sr fun K hK => S.o q.mv (S.o q.mv (S.nn (q.bs [[_], [_]] true am_el59 am_ze23 am_cl23) (S.c0 (hF := few_fun [a, b] (by simp) (fun x hx => by simp only [List.mem_cons, List.not_mem_nil, or_false] at hx; first | (rcases hx with rfl | rfl <;> assumption) | (subst hx; assumption))) (h := S.o q.not (S.end (hK _ ?_))))))
  clear hK K
  refine Ev.cn (fun c1 => ?_) (fun c1 => ?_)
  · first
  | (first | omega | contradiction)
  | refine Ev.sr fun K hK => S.o q.as (S.end (hK _ ?_))
    clear hK K
    refine Ev.ret ?_
    refine Ev.ret1 ?_
    refine ⟨?_, rfl⟩
    first | rfl | exact lawT rfl | exact lawT (by omega) | exact lawT (by assumption) | (exfalso; omega) | contradiction | (exfalso; simp_all; done) | (exfalso; simp at *; done)
  · first
  | (first | omega | contradiction)
  | refine Ev.skip ?_
    show Ev _ _ _ _
    have hsm : ∀ x ∈ [a, b], x.length ≤ 220 := ‹_›
    have hfa := hsm a (by simp)
    have hfb := hsm b (by simp)
    have hsv := sV_len a
    have hmv := mgV_len a b
    have hmw := mgV_len b a
    have hmn := mgV_len a []
    refine Ev.sr fun K hK => S.o q.mv (S.o q.mv (S.c0 (hF := stMerge_fun _ _ (by omega) (by omega)) (h := S.o q.mv (S.o q.ex (S.o q.ex (S.o q.as (S.o q.as (S.end (hK _ ?_)))))))))
    clear hK K
    refine Ev.sr fun K hK => S.o q.mv (S.o q.mv (S.c0 (hF := stMerge_fun _ _ (by omega) (by omega)) (h := S.o q.mv (S.o q.ex (S.o q.ex (S.o q.as (S.o q.as (S.end (hK _ ?_)))))))))
    clear hK K
    refine Ev.seq ?_
    refine Ev.sr fun K hK => S.o q.mv (S.o q.mv (S.o q.neq (S.bn q.mv (fun c2 => ?_) (fun c2 => ?_))))
    · first
    | (first | omega | contradiction)
    | refine S.sk (S.sk (S.sk (S.sk (S.o q.pt (S.end (hK _ ?_))))))
      clear hK K
      refine Ev.ct ?_
      refine Ev.sr fun K hK => S.o q.as (S.end (hK _ ?_))
      clear hK K
      refine Ev.ret ?_
      refine Ev.ret1 ?_
      refine ⟨?_, rfl⟩
      first | rfl | exact lawT rfl | exact lawT (by omega) | exact lawT (by assumption) | (exfalso; omega) | contradiction | (exfalso; simp_all; done) | (exfalso; simp at *; done)
    · first
    | (first | omega | contradiction)
    | refine S.o q.mv (S.o q.mv (S.c0 (hF := eqPc_fun _ _ (by omega) (by omega)) (h := S.o q.not (S.o q.pf (S.end (hK _ ?_))))))
      clear hK K
      refine Ev.cn (fun c3 => ?_) (fun c3 => ?_)
      · first
      | (first | omega | contradiction)
      | refine Ev.sr fun K hK => S.o q.as (S.end (hK _ ?_))
        clear hK K
        refine Ev.ret ?_
        refine Ev.ret1 ?_
        refine ⟨?_, rfl⟩
        first | rfl | exact lawT rfl | exact lawT (by omega) | exact lawT (by assumption) | (exfalso; omega) | contradiction | (exfalso; simp_all; done) | (exfalso; simp at *; done)
      · first
      | (first | omega | contradiction)
      | refine Ev.skip ?_
        show Ev _ _ _ _
        refine Ev.sr fun K hK => S.o q.mv (S.c0 (hF := sShort_fun _ (by omega)) (h := S.o q.mv (S.o q.ex (S.o q.ex (S.o q.as (S.o q.as (S.end (hK _ ?_))))))))
        clear hK K
        refine Ev.sr fun K hK => S.o q.mv (S.c0 (hF := stMergeN_fun a (by omega)) (h := S.o q.mv (S.o q.ex (S.o q.ex (S.o q.as (S.o q.as (S.end (hK _ ?_))))))))
        clear hK K
        refine Ev.seq ?_
        refine Ev.sr fun K hK => S.o q.mv (S.o q.mv (S.o q.neq (S.bn q.mv (fun c4 => ?_) (fun c4 => ?_))))
        · first
        | (first | omega | contradiction)
        | refine S.sk (S.sk (S.sk (S.sk (S.o q.pt (S.end (hK _ ?_))))))
          clear hK K
          refine Ev.ct ?_
          refine Ev.sr fun K hK => S.o q.as (S.end (hK _ ?_))
          clear hK K
          refine Ev.ret ?_
          refine Ev.ret1 ?_
          refine ⟨?_, rfl⟩
          first | rfl | exact lawT rfl | exact lawT (by omega) | exact lawT (by assumption) | (exfalso; omega) | contradiction | (exfalso; simp_all; done) | (exfalso; simp at *; done)
        · first
        | (first | omega | contradiction)
        | refine S.o q.mv (S.o q.mv (S.c0 (hF := eqPc_fun _ _ (by omega) (by omega)) (h := S.o q.not (S.o q.pf (S.end (hK _ ?_))))))
          clear hK K
          refine Ev.cn (fun c5 => ?_) (fun c5 => ?_)
          · first
          | (first | omega | contradiction)
          | refine Ev.sr fun K hK => S.o q.as (S.end (hK _ ?_))
            clear hK K
            refine Ev.ret ?_
            refine Ev.ret1 ?_
            refine ⟨?_, rfl⟩
            first | rfl | exact lawT rfl | exact lawT (by omega) | exact lawT (by assumption) | (exfalso; omega) | contradiction | (exfalso; simp_all; done) | (exfalso; simp at *; done)
          · first
          | (first | omega | contradiction)
          | refine Ev.skip ?_
            show Ev _ _ _ _
            refine Ev.seq ?_
            refine Ev.sr fun K hK => S.o q.mv (S.o q.neq (S.end (hK _ ?_)))
            clear hK K
            refine Ev.cn (fun c6 => ?_) (fun c6 => ?_)
            · first
            | (first | omega | contradiction)
            | have e1 := mg_ne ‹¬ mgE a b = 0›
              refine Ev.sr fun K hK => S.o q.mv (S.o (q.lens am_el23) (S.o q.eql (S.o q.as (S.end (hK _ ?_)))))
              clear hK K
              refine Ev.ret ?_
              refine Ev.ret1 ?_
              refine ⟨?_, rfl⟩
              first | rfl | exact lawT rfl | exact lawT (by omega) | exact lawT (by assumption) | (exfalso; omega) | contradiction | (exfalso; simp_all; done) | (exfalso; simp at *; done)
            · first
            | (first | omega | contradiction)
            | refine Ev.skip ?_
              show Ev _ _ _ _
              obtain ⟨e1, e2, e3, e4⟩ := mg_tot ‹mgE a b = 0›
              obtain ⟨b1, b2⟩ := tlV_bd a
              obtain ⟨b3, b4⟩ := tlV_bd b
              refine Ev.sr fun K hK => S.o q.mv (S.c0 (hF := stTotal_fun _ (by omega)) (h := S.o q.mv (S.o q.ex (S.o q.ex (S.o q.as (S.o q.as (S.end (hK _ ?_))))))))
              clear hK K
              refine Ev.sr fun K hK => S.o q.mv (S.c0 (hF := stTotal_fun _ (by omega)) (h := S.o q.mv (S.o q.ex (S.o q.ex (S.o q.as (S.o q.as (S.end (hK _ ?_))))))))
              clear hK K
              refine Ev.sr fun K hK => S.o q.mv (S.c0 (hF := stTotal_fun _ (by omega)) (h := S.o q.mv (S.o q.ex (S.o q.ex (S.o q.as (S.o q.as (S.end (hK _ ?_))))))))
              clear hK K
              refine Ev.sr fun K hK => S.o q.mv (S.o q.eql (S.bd q.mv (fun c7 => ?_) (fun c7 => ?_)))
              · first
              | (first | omega | contradiction)
              | refine S.o q.mv (S.o q.eql (S.o q.pt (S.bd q.mv (fun c8 => ?_) (fun c8 => ?_))))
                · first
                | (first | omega | contradiction)
                | refine S.o q.mv (S.o q.eql (S.o q.pt (S.bd q.mv (fun c9 => ?_) (fun c9 => ?_))))
                  · first
                  | (first | omega | contradiction)
                  | refine S.o q.mv (S.o q.mv (S.o q.mv (S.o q.add (S.o q.eql (S.o q.pt (S.o q.as (S.end (hK _ ?_))))))))
                    clear hK K
                    refine Ev.ret ?_
                    refine Ev.ret1 ?_
                    refine ⟨?_, rfl⟩
                    first | rfl | exact lawT rfl | exact lawT (by omega) | exact lawT (by assumption) | (exfalso; omega) | contradiction | (exfalso; simp_all; done) | (exfalso; simp at *; done)
                  · first
                  | (first | omega | contradiction)
                  | refine S.sk (S.sk (S.sk (S.sk (S.sk (S.o q.pf (S.o q.as (S.end (hK _ ?_))))))))
                    clear hK K
                    refine Ev.ret ?_
                    refine Ev.ret1 ?_
                    refine ⟨?_, rfl⟩
                    first | rfl | exact lawT rfl | exact lawT (by omega) | exact lawT (by assumption) | (exfalso; omega) | contradiction | (exfalso; simp_all; done) | (exfalso; simp at *; done)
                · first
                | (first | omega | contradiction)
                | refine S.sk (S.sk (S.o q.pf (S.o q.mv (S.sk (S.sk (S.sk (S.sk (S.sk (S.o q.pf (S.o q.as (S.end (hK _ ?_))))))))))))
                  clear hK K
                  refine Ev.ret ?_
                  refine Ev.ret1 ?_
                  refine ⟨?_, rfl⟩
                  first | rfl | exact lawT rfl | exact lawT (by omega) | exact lawT (by assumption) | (exfalso; omega) | contradiction | (exfalso; simp_all; done) | (exfalso; simp at *; done)
              · first
              | (first | omega | contradiction)
              | refine S.sk (S.sk (S.o q.pf (S.o q.mv (S.sk (S.sk (S.o q.pf (S.o q.mv (S.sk (S.sk (S.sk (S.sk (S.sk (S.o q.pf (S.o q.as (S.end (hK _ ?_))))))))))))))))
                clear hK K
                refine Ev.ret ?_
                refine Ev.ret1 ?_
                refine ⟨?_, rfl⟩
                first | rfl | exact lawT rfl | exact lawT (by omega) | exact lawT (by assumption) | (exfalso; omega) | contradiction | (exfalso; simp_all; done) | (exfalso; simp at *; done)
end Go.Proofs.Ytckahagagfmpbaa
