/-
  Offcut: what is served, plain.
  Conditions: none.
-/
import Derived.Test.YtaggnajjmopobaaOf6
namespace Go.Proofs.Ytaggnajjmopobaa
open Go Go.AM
set_option linter.unusedSimpArgs false
set_option linter.unusedVariables false
set_option maxRecDepth 100000
set_option maxHeartbeats 2000000
theorem sum_nn0 {T : Type} (f : T → Int) : ∀ l : List T, (∀ x ∈ l, f x = 0) → (l.map f).sum = 0
  | [], _ => rfl
  | x :: l, h => by rw [List.map_cons, List.sum_cons, h x (by simp), sum_nn0 f l (fun y hy => h y (by simp [hy]))]; rfl
theorem sum_add {T : Type} (f g : T → Int) : ∀ l : List T, (l.map fun x => f x + g x).sum = (l.map f).sum + (l.map g).sum
  | [] => rfl
  | x :: l => by simp only [List.map_cons, List.sum_cons, sum_add f g l]; omega
theorem sum_swap {T U : Type} (g : T → U → Int) (l : List U) : ∀ q : List T, (q.map fun p => (l.map (g p)).sum).sum = (l.map fun b => (q.map fun p => g p b).sum).sum
  | [] => by simp only [List.map_nil, List.sum_nil]; exact (sum_nn0 _ l fun _ _ => rfl).symm
  | p :: q => by
    simp only [List.map_cons, List.sum_cons, sum_swap g l q]
    exact (sum_add (g p) (fun b => (q.map fun p => g p b).sum) l).symm
theorem sum_one {T K : Type} [DecidableEq K] (key : T → K) (k : K) (v : Int) : ∀ q : List T, (q.map key).Nodup → k ∈ q.map key → (q.map fun p => if key p = k then v else 0).sum = v
  | [], _, h => by simp at h
  | p :: q, hn, h => by
    rw [List.map_cons, List.nodup_cons] at hn
    rw [List.map_cons, List.sum_cons]
    by_cases e : key p = k
    · rw [if_pos e, sum_nn0 _ q (fun x hx => if_neg (fun e' => hn.1 (by rw [e, ← e']; exact List.mem_map_of_mem hx)))]
      omega
    · rw [if_neg e, sum_one key k v q hn.2 (by
        rcases List.mem_cons.1 h with h | h
        · exact absurd h.symm e
        · exact h)]
      omega
theorem sum_mul (k : Int) : ∀ l : List Int, k * l.sum = (l.map fun x => k * x).sum
  | [] => by simp
  | x :: l => by rw [List.sum_cons, Int.mul_add, List.map_cons, List.sum_cons, sum_mul k l]
theorem skP_tot {l : List (Int × Int)} (hok : ∀ b ∈ l, okPc b) : totP (skP l) = totP l := by
  have e1 : (skP l).map (fun p => p.1 * p.2) = (skP l).map fun p => (l.map fun b => if p.1 = b.1 then b.1 * b.2 else 0).sum := by
    refine List.map_congr_left fun p hp => ?_
    rw [((skP_mem hok p).1 hp).2, skCnt, sum_mul, List.map_map]
    congr 1
    refine List.map_congr_left fun b _ => ?_
    by_cases e : b.1 = p.1
    · simp only [Function.comp_apply]; rw [if_pos e, if_pos e.symm, e]
    · simp only [Function.comp_apply]; rw [if_neg e, if_neg (fun h => e h.symm), Int.mul_zero]
  rw [totP, e1, sum_swap (fun (p b : Int × Int) => if p.1 = b.1 then b.1 * b.2 else 0) l (skP l), totP]
  congr 1
  refine List.map_congr_left fun b hb => ?_
  refine sum_one (fun p : Int × Int => p.1) b.1 (b.1 * b.2) (skP l) ?_ ?_
  · rw [List.Nodup, List.pairwise_map]
    exact (skP_sorted l).imp fun h e => by omega
  · exact List.mem_map.2 ⟨(b.1, skCnt l b.1), (skP_mem hok _).2 ⟨⟨b, hb, rfl⟩, rfl⟩, rfl⟩
theorem totP_app (a b : List (Int × Int)) : totP (a ++ b) = totP a + totP b := by simp [totP]
theorem skP_nodup (l : List (Int × Int)) : ((skP l).map (·.1)).Nodup := by
  rw [List.Nodup, List.pairwise_map]
  exact (skP_sorted l).imp fun h e => by omega
theorem skP_num {l : List (Int × Int)} (hok : ∀ b ∈ l, okPc b) : numP (skP l) = numP l := by
  have e1 : (skP l).map (fun p => p.2) = (skP l).map fun p => (l.map fun b => if p.1 = b.1 then b.2 else 0).sum := by
    refine List.map_congr_left fun p hp => ?_
    rw [((skP_mem hok p).1 hp).2, skCnt]
    congr 1
    refine List.map_congr_left fun b _ => ?_
    by_cases e : b.1 = p.1
    · rw [if_pos e, if_pos e.symm]
    · rw [if_neg e, if_neg (fun h => e h.symm)]
  rw [numP, e1, sum_swap (fun (p b : Int × Int) => if p.1 = b.1 then b.2 else 0) l (skP l), numP]
  congr 1
  refine List.map_congr_left fun b hb => ?_
  refine sum_one (fun p : Int × Int => p.1) b.1 b.2 (skP l) (skP_nodup l) ?_
  exact List.mem_map.2 ⟨(b.1, skCnt l b.1), (skP_mem hok _).2 ⟨⟨b, hb, rfl⟩, rfl⟩, rfl⟩

/-! What is left when an order is served -/
def Noge (m : Mp) (n : Int) : Prop := ∀ p ∈ m, p.1 < n
theorem tk12 {least n : Int} {m : Mp} (hw : WfM least m) : tkE least m n = 12 ↔ Noge m n := by
  constructor
  · intro h p hp
    have h0 : bestK m n = 0 := by
      refine Classical.byContradiction fun h0 => ?_
      by_cases h4 : bestK m n > n
      · have := putE_cases least (cutM m (bestK m n)) (bestK m n - n) 1
        have e5 : tkE least m n = putE least (cutM m (bestK m n)) (bestK m n - n) 1 := (if_neg h0).trans (if_pos h4)
        omega
      · have := (tk_eq (least := least) h0 h4).e
        omega
    refine Classical.byContradiction fun h1 => ?_
    exact ((hw.best n).le p hp (by omega)).1 h0
  · intro h
    have h0 : bestK m n = 0 := by
      refine Classical.byContradiction fun h0 => ?_
      obtain ⟨g1, p, hp, g2⟩ := (hw.best n).mem h0
      have := h p hp
      omega
    exact (tk_none h0).e
theorem cut_keys {m : Mp} {b : Int} (hb : ∃ q ∈ m, q.1 = b) {p : Int × Int} (hp : p ∈ cutM m b) : ∃ q ∈ m, q.1 = p.1 := by
  have h1 : p ∈ mput m b (cntM m b - 1) := by
    unfold cutM at hp
    split at hp
    · exact (mdel_sub _ _).subset hp
    · exact hp
  rcases mput_mem h1 with rfl | h2
  · exact hb
  · exact ⟨p, h2, rfl⟩
theorem tk_dec {least n : Int} {m : Mp} (hw : WfM least m) (hn : inL n) (h : tkE least m n = 0) : totP (tkV least m n) ≤ totP m - n ∧ ∀ k, n ≤ k → Noge m k → Noge (tkV least m n) k := by
  have hs : sTkE least m n = 0 := (sTk_ok hn h).1
  have hF := tk_facts hw hs
  have h0 : ¬ bestK m n = 0 := fun h0 => by rw [(tk_none h0).e] at h; cases h
  obtain ⟨g1, q, hq, g2⟩ := (hw.best n).mem h0
  refine ⟨?_, fun k hk hg p hp => ?_⟩
  · have h1 := hF.tot
    have h2 := hF.le.1
    split at h1 <;> omega
  · have hkey : ∀ p ∈ cutM m (bestK m n), p.1 < k := fun p hp => by
      obtain ⟨x, hx, e⟩ := cut_keys ⟨q, hq, g2⟩ hp
      have := hg x hx
      omega
    by_cases h4 : bestK m n > n
    · have h5 : putE least (cutM m (bestK m n)) (bestK m n - n) 1 = 0 := by
        have e5 : tkE least m n = putE least (cutM m (bestK m n)) (bestK m n - n) 1 := (if_neg h0).trans (if_pos h4)
        omega
      rw [(tk_ok h0 h4 h5).v, putV, if_pos h5] at hp
      split at hp
      · exact hkey p hp
      · rcases mput_mem hp with rfl | hp
        · have := hg q hq
          have := hn.1
          show bestK m n - n < k
          omega
        · exact hkey p hp
    · rw [(tk_eq h0 h4).v] at hp
      exact hkey p hp
theorem itS_e {least n : Int} {s : Sv} {i : Nat} (h : (itS least n s (i + 1)).e = 0) : (itS least n s i).e = 0 := by
  refine Classical.byContradiction fun h0 => h0 ?_
  have e : itS least n s (i + 1) = itS least n s i := itS_stay h0 1
  rw [← e]; exact h
theorem itS_facts {least n : Int} {m : Mp} (hw : WfM least m) (hn : inL n) : ∀ i : Nat, (itS least n ⟨m, 0, 0⟩ i).e = 0 →
    totP (itS least n ⟨m, 0, 0⟩ i).m ≤ totP m - n * (i - (itS least n ⟨m, 0, 0⟩ i).left) ∧ (0 < (itS least n ⟨m, 0, 0⟩ i).left → Noge (itS least n ⟨m, 0, 0⟩ i).m n) ∧ ∀ k, n ≤ k → Noge m k → Noge (itS least n ⟨m, 0, 0⟩ i).m k
  | 0, _ => ⟨by show totP m ≤ totP m - n * (((0 : Nat) : Int) - 0); simp, fun h => absurd h (by show ¬ (0 : Int) < 0; decide), fun k _ h => h⟩
  | i + 1, h => by
    have h0 := itS_e h
    obtain ⟨h1, h2, h3⟩ := itS_facts hw hn i h0
    obtain ⟨w1, w2, w3⟩ := itS_good hw hn i
    have hm : n * ((i : Int) + 1 - (itS least n ⟨m, 0, 0⟩ i).left) = n * (i - (itS least n ⟨m, 0, 0⟩ i).left) + n := by
      rw [show (i : Int) + 1 - (itS least n ⟨m, 0, 0⟩ i).left = (i - (itS least n ⟨m, 0, 0⟩ i).left) + 1 by omega, Int.mul_add, Int.mul_one]
    by_cases g1 : tkE least (itS least n ⟨m, 0, 0⟩ i).m n = 0
    · rw [it_ok h0 g1]
      obtain ⟨d1, d2⟩ := tk_dec w1 hn g1
      refine ⟨?_, fun hl => ?_, fun k hk hg => d2 k hk (h3 k hk hg)⟩
      · show totP (tkV _ _ _) ≤ totP m - n * (((i + 1 : Nat) : Int) - (itS least n ⟨m, 0, 0⟩ i).left)
        rw [show ((i + 1 : Nat) : Int) = (i : Int) + 1 by omega, hm]
        omega
      · have := (tk12 w1).2 (h2 hl)
        omega
    · by_cases g2 : tkE least (itS least n ⟨m, 0, 0⟩ i).m n = 12
      · rw [it_no h0 g2]
        refine ⟨?_, fun _ => (tk12 w1).1 g2, h3⟩
        show totP (itS least n ⟨m, 0, 0⟩ i).m ≤ totP m - n * (((i + 1 : Nat) : Int) - ((itS least n ⟨m, 0, 0⟩ i).left + 1))
        rw [show ((i + 1 : Nat) : Int) - ((itS least n ⟨m, 0, 0⟩ i).left + 1) = i - (itS least n ⟨m, 0, 0⟩ i).left by omega]
        exact h1
      · rw [it_bad h0 g1 g2] at h
        exact absurd h g1
theorem totP_addO (o : Mp) (n k : Int) (hk : 0 ≤ k) : totP (addO o n k) = totP o + n * k := by
  unfold addO
  split
  · rw [totP_snoc]
  · rw [show k = 0 by omega, Int.mul_zero]
    omega
theorem svA_e {least : Int} {m pre suf : Mp} (h : (svA least m (pre ++ suf)).e = 0) : (svA least m pre).e = 0 := by
  refine Classical.byContradiction fun h0 => h0 ?_
  rw [svA_stay h0] at h; exact h
theorem svA_g {least : Int} {m pre suf : Mp} {s : Int × Int} (h : (svA least m (pre ++ s :: suf)).e = 0) : (svA least m pre).e = 0 ∧ (grp least (svA least m pre).m s).e = 0 := by
  have h0 := svA_e h
  refine ⟨h0, Classical.byContradiction fun h1 => ?_⟩
  have h2 : (svA least m (pre ++ [s])).e = 0 := svA_e (suf := suf) (by rw [List.append_assoc]; exact h)
  rw [sv_bad h0 h1] at h2
  exact h1 h2
structure SvF (least : Int) (m l : Mp) : Prop where
  tot : totP (svA least m l).m ≤ totP m - (totP l - totP (svA least m l).out)
  le : totP (svA least m l).out ≤ totP l
  out : ∀ q ∈ (svA least m l).out, okPc q ∧ Noge (svA least m l).m q.1 ∧ ∃ p ∈ l, p.1 = q.1
theorem svA_facts {least : Int} {m : Mp} (hw : WfM least m) : ∀ l : Mp, (∀ p ∈ l, okPc p) → l.Pairwise (fun x y => y.1 < x.1) → (svA least m l).e = 0 → SvF least m l := by
  refine snoc_ind (fun _ _ _ => ⟨by show totP m ≤ totP m - (totP [] - totP []); omega, Int.le_refl _, fun q hq => by cases hq⟩) (fun l s ih hok hpw he => ?_)
  obtain ⟨h0, h1⟩ := svA_g (suf := []) he
  have hokl : ∀ p ∈ l, okPc p := fun p hp => hok p (by simp [hp])
  obtain ⟨p1, p2, p3⟩ := List.pairwise_append.1 hpw
  obtain ⟨i1, i2, i3⟩ := ih hokl p1 h0
  obtain ⟨s1, s2, s3, s4⟩ := hok s (by simp)
  obtain ⟨w1, _⟩ := svA_good hw l hokl
  have hin : inL s.1 := ⟨s1, s2⟩
  obtain ⟨g1, g2, g3⟩ := itS_facts w1 hin s.2.toNat h1
  obtain ⟨k1, k2, k3⟩ := itS_good w1 hin s.2.toNat
  rw [Int.toNat_of_nonneg (by omega)] at g1 k3
  have e := sv_ok h0 h1
  have hg : grp least (svA least m l).m s = itS least s.1 ⟨(svA least m l).m, 0, 0⟩ s.2.toNat := rfl
  rw [← hg] at g1 g2 g3 k2 k3
  have hms : s.1 * (s.2 - (grp least (svA least m l).m s).left) = s.1 * s.2 - s.1 * (grp least (svA least m l).m s).left := Int.mul_sub ..
  have hm0 : 0 ≤ s.1 * (s.2 - (grp least (svA least m l).m s).left) := Int.mul_nonneg (by omega) (by omega)
  refine ⟨?_, ?_, ?_⟩
  · rw [e, totP_snoc]
    show totP (grp least (svA least m l).m s).m ≤ totP m - (totP l + s.1 * s.2 - totP (addO _ _ _))
    rw [totP_addO _ _ _ k2]
    omega
  · rw [e, totP_snoc]
    show totP (addO _ _ _) ≤ _
    rw [totP_addO _ _ _ k2]
    omega
  · rw [e]
    intro q hq
    have hold : ∀ q ∈ (svA least m l).out, okPc q ∧ Noge (grp least (svA least m l).m s).m q.1 ∧ ∃ p ∈ l ++ [s], p.1 = q.1 := fun q hq => by
      obtain ⟨a1, a2, x, hx, a3⟩ := i3 q hq
      have := p3 x hx s (by simp)
      exact ⟨a1, g3 q.1 (by omega) a2, x, by simp [hx], a3⟩
    have hq' : q ∈ addO (svA least m l).out s.1 (grp least (svA least m l).m s).left := hq
    unfold addO at hq'
    split at hq'
    · rename_i hl
      rcases List.mem_append.1 hq' with hq' | hq'
      · exact hold q hq'
      · obtain rfl := List.mem_singleton.1 hq'
        refine ⟨⟨s1, s2, ?_, ?_⟩, g2 hl, s, by simp, rfl⟩ <;> (show _ ≤ _; simp only; omega)
    · exact hold q hq'
theorem one_facts {x : Int × Int} (hx : okPc x) : okOrd [x] ∧ shG [x] ∧ skP [x] = [x] ∧ numP [x] = x.2 := by
  have h1 : ∀ p ∈ [x], okPc p := fun p hp => by obtain rfl := List.mem_singleton.1 hp; exact hx
  have hc : skCnt [x] x.1 = x.2 := by simp [skCnt]
  have h3 : skP [x] = [x] := desc_ext (skP_sorted _) (by simp) fun p => by
    rw [skP_mem h1]
    constructor
    · rintro ⟨⟨b, hb, e⟩, h2⟩
      obtain rfl := List.mem_singleton.1 hb
      rw [← e, hc] at h2
      have : p = b := Prod.ext e.symm h2
      rw [this]; simp
    · intro hp
      obtain rfl := List.mem_singleton.1 hp
      exact ⟨⟨p, by simp, rfl⟩, hc.symm⟩
  exact ⟨⟨by show (1 : Nat) ≤ 200; decide, h1⟩, fun p hp => by rw [h3] at hp; exact (h1 p hp).2.2.2, h3, by simp [numP]⟩
theorem serve_one {least : Int} {m pre suf : Mp} {s : Int × Int} (h : (svA least m (pre ++ s :: suf)).e = 0) (hs : okPc s) (hn : s.2 ≤ 1000) :
    SvR least (svA least m pre).m [s] 0 (svA least m (pre ++ [s])).m (addO [] s.1 (grp least (svA least m pre).m s).left) ∧ (svA least m (pre ++ [s])).out = (svA least m pre).out ++ addO [] s.1 (grp least (svA least m pre).m s).left := by
  obtain ⟨h0, h1⟩ := svA_g h
  obtain ⟨o1, o2, o3, o4⟩ := one_facts hs
  have e := sv_ok h0 h1
  have e1 : svA least (svA least m pre).m [s] = ⟨(grp least (svA least m pre).m s).m, addO [] s.1 (grp least (svA least m pre).m s).left, 0⟩ := by
    show svO least ⟨(svA least m pre).m, [], 0⟩ s = _
    exact (if_pos rfl).trans (if_pos h1)
  have hR := svR_ok (least := least) (m := (svA least m pre).m) (l := [s]) o1 (by rw [o4]; exact hn) o2 (by rw [o3, e1])
  rw [o3, e1] at hR
  refine ⟨by rw [e]; exact hR, ?_⟩
  rw [e]
  show addO _ _ _ = _
  unfold addO
  split <;> simp
theorem num_mem {l : Mp} (hok : ∀ p ∈ l, okPc p) {p : Int × Int} (hp : p ∈ l) : p.2 ≤ numP l := by
  obtain ⟨a, b, rfl⟩ := List.append_of_mem hp
  have := numP_cut hok rfl
  omega
theorem sSv_ok {least : Int} {m l : Mp} (h : sSvE least m l = 0) : okOrd l ∧ numP l ≤ 1000 ∧ shG l ∧ (svA least m (skP l)).e = 0 ∧ sSvV least m l = (svA least m (skP l)).m ∧ sSvO least m l = (svA least m (skP l)).out := by
  by_cases h1 : okOrd l
  · by_cases h2 : numP l ≤ 1000
    · by_cases h3 : shG l
      · refine ⟨h1, h2, h3, ?_, if_pos h, if_pos h⟩
        rw [sSvE, if_pos h1, if_pos h2, if_pos h3] at h; exact h
      · rw [(svR_short h1 h2 h3).e] at h; cases h
    · rw [(svR_list h1 h2).e] at h; cases h
  · rw [(svR_arg h1).e] at h; cases h
theorem sSv_no {least : Int} {m l : Mp} (h : ¬ sSvE least m l = 0) : sSvV least m l = m ∧ sSvO least m l = [] := ⟨if_neg h, if_neg h⟩

end Go.Proofs.Ytaggnajjmopobaa
