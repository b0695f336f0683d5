/-
  Tags: the book and its methods, what they answer.
  Conditions: none.
-/
import Derived.Test.YtaggnajjmopobaaSo5
import Derived.Test.YtaggnajjmopobaaAmClone
import Derived.Ground.SlmcProg
import Derived.Test.YtaggnajjmopobaaAmTwo
import Derived.Test.YtaggnajjmopobaaAmArr
import Derived.Test.YtaggnajjmopobaaRp2

namespace Go.Proofs.Ytaggnajjmopobaa
open Go Go.AM
set_option linter.unusedSimpArgs false
set_option linter.unusedVariables false
set_option maxRecDepth 100000
set_option maxHeartbeats 1000000

/-! ## The store's map, plain -/
abbrev Mp := List (Int × Int)
def cntM (m : Mp) (n : Int) : Int := (mget m n).getD 0
structure WfM (least : Int) (m : Mp) : Prop where
  nd : (m.map (·.1)).Nodup
  ok : ∀ p ∈ m, okPc p ∧ least ≤ p.1
  len : m.length ≤ 200
theorem WfM.cnt {least : Int} {m : Mp} (h : WfM least m) (n : Int) : 0 ≤ cntM m n ∧ cntM m n ≤ 1000000 := by
  unfold cntM
  cases hg : mget m n with
  | none => decide
  | some v => have := (h.ok _ (mget_mem hg)).1; exact ⟨by have := this.2.2.1; show 0 ≤ v; simp only at this; omega, this.2.2.2⟩
theorem wf_nil (least : Int) : WfM least [] := ⟨by simp, by simp, by decide⟩
def pMp (m : Mp) (n k : Int) : Mp := mput m n (cntM m n + k)
def pNo (least n k : Int) : Prop := n < least ∨ k = 0
instance (least n k) : Decidable (pNo least n k) := by unfold pNo; infer_instance
def putE (least : Int) (m : Mp) (n k : Int) : Int := if pNo least n k then 0 else if cntM m n + k > 1000000 then 5 else if (pMp m n k).length > 200 then 4 else 0
def putV (least : Int) (m : Mp) (n k : Int) : Mp := if putE least m n k = 0 then (if pNo least n k then m else pMp m n k) else []
structure PutR (least : Int) (m : Mp) (n k e : Int) (v : Mp) : Prop where
  e : putE least m n k = e
  v : putV least m n k = v
theorem put_no {least n k : Int} {m : Mp} (h : pNo least n k) : PutR least m n k 0 m := by
  have e : putE least m n k = 0 := if_pos h
  exact ⟨e, (if_pos e).trans (if_pos h)⟩
theorem put_big {least n k : Int} {m : Mp} (h : ¬ pNo least n k) (h2 : cntM m n + k > 1000000) : PutR least m n k 5 [] := by
  have e : putE least m n k = 5 := (if_neg h).trans (if_pos h2)
  exact ⟨e, if_neg (by rw [e]; decide)⟩
theorem put_full {least n k : Int} {m : Mp} (h : ¬ pNo least n k) (h2 : ¬ cntM m n + k > 1000000) (h3 : (pMp m n k).length > 200) : PutR least m n k 4 [] := by
  have e : putE least m n k = 4 := (if_neg h).trans ((if_neg h2).trans (if_pos h3))
  exact ⟨e, if_neg (by rw [e]; decide)⟩
theorem put_ok {least n k : Int} {m : Mp} (h : ¬ pNo least n k) (h2 : ¬ cntM m n + k > 1000000) (h3 : ¬ (pMp m n k).length > 200) : PutR least m n k 0 (pMp m n k) := by
  have e : putE least m n k = 0 := (if_neg h).trans ((if_neg h2).trans (if_neg h3))
  exact ⟨e, (if_pos e).trans (if_neg h)⟩
theorem mput_mem {m : Mp} {n v : Int} {p : Int × Int} (h : p ∈ mput m n v) : p = (n, v) ∨ p ∈ m := by
  induction m with
  | nil => simp [mput] at h; exact .inl h
  | cons q m ih =>
    simp only [mput] at h
    split at h
    · rcases List.mem_cons.1 h with h | h
      · exact .inl h
      · exact .inr (by simp [h])
    · rcases List.mem_cons.1 h with h | h
      · exact .inr (by simp [h])
      · rcases ih h with h | h
        · exact .inl h
        · exact .inr (by simp [h])
theorem put_wf {least n k : Int} {m : Mp} (h : WfM least m) (hn : 1 ≤ n ∧ n ≤ 1048576) (hk : 0 ≤ k) : WfM least (putV least m n k) := by
  by_cases h1 : pNo least n k
  · rw [(put_no h1).v]; exact h
  by_cases h2 : cntM m n + k > 1000000
  · rw [(put_big h1 h2).v]; exact wf_nil _
  by_cases h3 : (pMp m n k).length > 200
  · rw [(put_full h1 h2 h3).v]; exact wf_nil _
  rw [(put_ok h1 h2 h3).v]
  have hc := h.cnt n
  unfold pNo at h1
  refine ⟨mput_nodup h.nd _ _, fun p hp => ?_, by omega⟩
  rcases mput_mem hp with rfl | hp
  · refine ⟨⟨hn.1, hn.2, ?_, ?_⟩, ?_⟩ <;> (show _ ≤ _; simp only; omega)
  · exact h.ok p hp
/-! The best offcut -/
def bestK (m : Mp) (n : Int) : Int := m.foldl (fun b p => if p.1 ≥ n ∧ (b = 0 ∨ p.1 < b) then p.1 else b) 0
structure IsBest (m : Mp) (n b : Int) : Prop where
  le : ∀ p ∈ m, n ≤ p.1 → b ≠ 0 ∧ b ≤ p.1
  mem : b ≠ 0 → n ≤ b ∧ ∃ p ∈ m, p.1 = b
theorem isBest_nil (n : Int) : IsBest [] n 0 := ⟨by simp, fun h => absurd rfl h⟩
theorem isBest_snoc {m : Mp} {n b : Int} {p : Int × Int} (h : IsBest m n b) (hp : 1 ≤ p.1) : IsBest (m ++ [p]) n (if p.1 ≥ n ∧ (b = 0 ∨ p.1 < b) then p.1 else b) := by
  refine ⟨fun q hq hn => ?_, fun h0 => ?_⟩
  · rcases List.mem_append.1 hq with hq | hq
    · have := h.le q hq hn
      split <;> omega
    · obtain rfl := List.mem_singleton.1 hq
      split <;> omega
  · split
    · rename_i h1
      exact ⟨h1.1, p, by simp, rfl⟩
    · rename_i h1
      rw [if_neg h1] at h0
      obtain ⟨g1, q, g2, g3⟩ := h.mem h0
      exact ⟨g1, q, by simp [g2], g3⟩
theorem isBest_best (m : Mp) (n : Int) (hp : ∀ p ∈ m, 1 ≤ p.1) : IsBest m n (bestK m n) := by
  revert hp
  refine snoc_ind (P := fun m => (∀ p ∈ m, 1 ≤ p.1) → IsBest m n (bestK m n)) (fun _ => isBest_nil n) (fun l s ih h => ?_) m
  have e : bestK (l ++ [s]) n = if s.1 ≥ n ∧ (bestK l n = 0 ∨ s.1 < bestK l n) then s.1 else bestK l n := by rw [bestK, List.foldl_append]; rfl
  rw [e]
  exact isBest_snoc (ih fun p hp => h p (by simp [hp])) (h s (by simp))
theorem IsBest.eq {m m' : Mp} {n b b' : Int} (h : IsBest m n b) (h' : IsBest m' n b') (hm : ∀ k, (∃ p ∈ m, p.1 = k) ↔ ∃ p ∈ m', p.1 = k) (hp : ∀ p ∈ m, 1 ≤ p.1) (hp' : ∀ p ∈ m', 1 ≤ p.1) : b = b' := by
  by_cases h0 : b = 0
  · by_cases h1 : b' = 0
    · omega
    · obtain ⟨g1, p, g2, g3⟩ := h'.mem h1
      obtain ⟨q, g4, g5⟩ := (hm b').2 ⟨p, g2, g3⟩
      have := (h.le q g4 (by omega)).1
      omega
  · obtain ⟨g1, p, g2, g3⟩ := h.mem h0
    obtain ⟨q, g4, g5⟩ := (hm b).1 ⟨p, g2, g3⟩
    have k1 := h'.le q g4 (by omega)
    obtain ⟨g1', p', g2', g3'⟩ := h'.mem k1.1
    obtain ⟨q', g4', g5'⟩ := (hm b').2 ⟨p', g2', g3'⟩
    have k2 := h.le q' g4' (by omega)
    omega
/-! Taking a piece -/
def cutM (m : Mp) (b : Int) : Mp := if cntM m b - 1 = 0 then mdel (mput m b (cntM m b - 1)) b else mput m b (cntM m b - 1)
def tkE (least : Int) (m : Mp) (n : Int) : Int := if bestK m n = 0 then 12 else if bestK m n > n then putE least (cutM m (bestK m n)) (bestK m n - n) 1 else 0
def tkV (least : Int) (m : Mp) (n : Int) : Mp := if tkE least m n = 0 then (if bestK m n > n then putV least (cutM m (bestK m n)) (bestK m n - n) 1 else cutM m (bestK m n)) else []
def tkB (least : Int) (m : Mp) (n : Int) : Int := if tkE least m n = 0 then bestK m n else 0
structure TkR (least : Int) (m : Mp) (n e b : Int) (v : Mp) : Prop where
  e : tkE least m n = e
  b : tkB least m n = b
  v : tkV least m n = v
theorem tk_none {least n : Int} {m : Mp} (h : bestK m n = 0) : TkR least m n 12 0 [] := by
  have e : tkE least m n = 12 := if_pos h
  exact ⟨e, if_neg (by rw [e]; decide), if_neg (by rw [e]; decide)⟩
theorem tk_eq {least n : Int} {m : Mp} (h : ¬ bestK m n = 0) (h2 : ¬ bestK m n > n) : TkR least m n 0 (bestK m n) (cutM m (bestK m n)) := by
  have e : tkE least m n = 0 := (if_neg h).trans (if_neg h2)
  exact ⟨e, if_pos e, (if_pos e).trans (if_neg h2)⟩
theorem tk_ok {least n : Int} {m : Mp} (h : ¬ bestK m n = 0) (h2 : bestK m n > n) (h3 : putE least (cutM m (bestK m n)) (bestK m n - n) 1 = 0) : TkR least m n 0 (bestK m n) (putV least (cutM m (bestK m n)) (bestK m n - n) 1) := by
  have e : tkE least m n = 0 := ((if_neg h).trans (if_pos h2)).trans h3
  exact ⟨e, if_pos e, (if_pos e).trans (if_pos h2)⟩
theorem tk_bad {least n : Int} {m : Mp} (h : ¬ bestK m n = 0) (h2 : bestK m n > n) (h3 : ¬ putE least (cutM m (bestK m n)) (bestK m n - n) 1 = 0) : TkR least m n (putE least (cutM m (bestK m n)) (bestK m n - n) 1) 0 [] := by
  have e : tkE least m n = putE least (cutM m (bestK m n)) (bestK m n - n) 1 := (if_neg h).trans (if_pos h2)
  exact ⟨e, if_neg (by rw [e]; exact h3), if_neg (by rw [e]; exact h3)⟩
theorem WfM.pos {least : Int} {m : Mp} (h : WfM least m) : ∀ p ∈ m, 1 ≤ p.1 := fun p hp => (h.ok p hp).1.1
theorem WfM.best {least : Int} {m : Mp} (h : WfM least m) (n : Int) : IsBest m n (bestK m n) := isBest_best m n h.pos
theorem WfM.best_bd {least : Int} {m : Mp} (h : WfM least m) (n : Int) : 0 ≤ bestK m n ∧ bestK m n ≤ 1048576 ∧ (bestK m n ≠ 0 → 1 ≤ cntM m (bestK m n) ∧ n ≤ bestK m n ∧ least ≤ bestK m n) := by
  by_cases h0 : bestK m n = 0
  · exact ⟨by omega, by omega, fun h => absurd h0 h⟩
  · obtain ⟨g1, p, hp, g3⟩ := (h.best n).mem h0
    have g4 := h.ok p hp
    have g5 : mget m p.1 = some p.2 := mget_of_mem h.nd hp
    have g6 : cntM m (bestK m n) = p.2 := by unfold cntM; rw [← g3, g5]; rfl
    obtain ⟨k1, k2, k3, k4⟩ := g4.1
    exact ⟨by omega, by omega, fun _ => ⟨by omega, g1, by omega⟩⟩
theorem cut_wf {least : Int} {m : Mp} (h : WfM least m) {b : Int} (hb : 1 ≤ cntM m b) : WfM least (cutM m b) := by
  have hc := h.cnt b
  have hm : ∃ v, mget m b = some v := by
    unfold cntM at hb
    cases hg : mget m b with
    | none => rw [hg] at hb; simp at hb
    | some v => exact ⟨v, rfl⟩
  obtain ⟨v, hv⟩ := hm
  have hbm := h.ok _ (mget_mem hv)
  have hcv : cntM m b = v := by unfold cntM; rw [hv]; rfl
  have hlen : (mput m b (cntM m b - 1)).length = m.length := by rw [mput_some _ hv, List.length_set]
  unfold cutM
  split
  · refine ⟨mdel_nodup (mput_nodup h.nd _ _) b, fun p hp => ?_, by have := (mdel_sub (mput m b (cntM m b - 1)) b).length_le; have := h.len; omega⟩
    rcases mput_mem ((mdel_sub _ _).subset hp) with rfl | hp2
    · exfalso
      have h2 := mget_of_mem (mdel_nodup (mput_nodup h.nd b (cntM m b - 1)) b) hp
      rw [mget_mdel (mput_nodup h.nd _ _), if_pos rfl] at h2
      cases h2
    · exact h.ok p hp2
  · refine ⟨mput_nodup h.nd _ _, fun p hp => ?_, by have := h.len; omega⟩
    rcases mput_mem hp with rfl | hp2
    · refine ⟨⟨hbm.1.1, hbm.1.2.1, ?_, ?_⟩, hbm.2⟩ <;> (show _ ≤ _; simp only; omega)
    · exact h.ok p hp2
theorem tk_wf {least n : Int} {m : Mp} (h : WfM least m) (hn : 1 ≤ n ∧ n ≤ 1048576) : WfM least (tkV least m n) := by
  obtain ⟨b1, b2, b3⟩ := h.best_bd n
  by_cases h0 : bestK m n = 0
  · rw [(tk_none h0).v]; exact wf_nil _
  obtain ⟨b4, b5, b6⟩ := b3 h0
  have hc := cut_wf h b4
  by_cases h1 : bestK m n > n
  · by_cases h2 : putE least (cutM m (bestK m n)) (bestK m n - n) 1 = 0
    · rw [(tk_ok h0 h1 h2).v]; exact put_wf hc ⟨by omega, by omega⟩ (by decide)
    · rw [(tk_bad h0 h1 h2).v]; exact wf_nil _
  · rw [(tk_eq h0 h1).v]; exact hc
/-! The list and the total -/
def lstV (m : Mp) : Mp := (dkeys m).map fun n => (n, cntM m n)
theorem lstV_len (m : Mp) : (lstV m).length = m.length := by
  unfold lstV
  rw [List.length_map, (dkeys_perm m).length_eq, List.length_map]
theorem WfM.wf {least : Int} {m : Mp} (h : WfM least m) : ∀ a ∈ m.map Prod.fst, (Go.Lit.int .i64 a).wf = true := fun a ha => by
  obtain ⟨p, hp, rfl⟩ := List.mem_map.1 ha
  exact wf_of (h.ok p hp).1.1 (h.ok p hp).1.2.1
theorem cnt_perm {m : Mp} (h : (m.map (·.1)).Nodup) : ∀ l : Mp, (∀ p ∈ l, p ∈ m) → l.map (fun p => (p.1, cntM m p.1)) = l
  | [], _ => rfl
  | p :: l, hl => by
    have h1 : mget m p.1 = some p.2 := mget_of_mem h (hl p (by simp))
    have h2 : cntM m p.1 = p.2 := by unfold cntM; rw [h1]; rfl
    rw [List.map_cons, cnt_perm h l fun q hq => hl q (by simp [hq]), h2]
theorem lst_perm {m : Mp} (h : (m.map (·.1)).Nodup) : (lstV m).Perm m := by
  have h1 : (lstV m).Perm ((m.map Prod.fst).map fun n => (n, cntM m n)) := (dkeys_perm m).map _
  rw [List.map_map] at h1
  have h2 := cnt_perm h m fun p hp => hp
  exact h1.trans (by rw [show ((fun n => (n, cntM m n)) ∘ Prod.fst) = fun p : Int × Int => (p.1, cntM m p.1) from rfl, h2])
theorem sumI_perm {a b : List Int} (h : a.Perm b) : a.sum = b.sum := by
  induction h with
  | nil => rfl
  | cons x _ ih => rw [List.sum_cons, List.sum_cons, ih]
  | swap x y l => simp only [List.sum_cons]; omega
  | trans _ _ h1 h2 => exact h1.trans h2
theorem totP_perm {a b : Mp} (h : a.Perm b) : totP a = totP b := by
  unfold totP
  exact sumI_perm (h.map fun p : Int × Int => p.1 * p.2)

end Go.Proofs.Ytaggnajjmopobaa

namespace Go.Proofs.Ytaggnajjmopobaa
open Go Go.AM
set_option linter.unusedSimpArgs false
set_option linter.unusedVariables false
set_option maxRecDepth 100000
set_option maxHeartbeats 2000000

open Go.Shelf in
shelf_lay_g SlLaysW.n5 Slmc 5 at Try 52 as cloneLay
theorem cloneM_fun (rows : List (List AV)) : Fun Try.prog 52 [.shm 3 rows] (CloP 45 3 rows) := clone_F cloneLay ⟨_, Try.func52, rfl, rfl⟩ 45 3 rows
theorem perm_next {dn rm l1 l2 m : Mp} {pq : Int × Int} (hpm : (dn ++ rm).Perm m) (hlq : rm = l1 ++ pq :: l2) : (dn ++ [pq] ++ (l1 ++ l2)).Perm m := by
  subst hlq
  refine List.Perm.trans ?_ hpm
  rw [List.append_assoc]
  refine List.Perm.append_left dn ?_
  show (pq :: (l1 ++ l2)).Perm _
  exact List.perm_middle.symm
theorem olen_fun (n : Int) : Fun Try.prog 34 [.lit (.int .i64 n)] (Ret (.lit (.bool (decide (1 ≤ n ∧ n ≤ 1048576)))) []) := by
  refine Fun.of (nt := 9) (rs := [.tmp 2]) Try.func34 rfl rfl rfl rfl rfl ?_
  refine Ev.sr fun K hK => S.o q.as (S.end (hK _ ?_))
  clear hK K
  refine Ev.sr fun K hK => S.o q.mv (S.o q.geq (S.bd q.mv (fun c1 => ?_) (fun c1 => ?_)))
  · first
  | (first | omega | contradiction)
  | refine S.o q.mv (S.o q.leq (S.o q.pt (S.o q.as (S.end (hK _ ?_)))))
    clear hK K
    refine Ev.ret ?_
    refine Ev.ret1 ?_
    refine ⟨?_, rfl⟩
    first | exact bF (by omega) | exact bT (by omega) | exact dI (by omega)
  · first
  | (first | omega | contradiction)
  | refine S.sk (S.sk (S.o q.pf (S.o q.as (S.end (hK _ ?_)))))
    clear hK K
    refine Ev.ret ?_
    refine Ev.ret1 ?_
    refine ⟨?_, rfl⟩
    first | exact bF (by omega) | exact bT (by omega) | exact dI (by omega)
theorem oput_fun (m : Mp) (least n k : Int) (hw : WfM least m) (hk : 0 ≤ k ∧ k ≤ 1000000) : Fun Try.prog 38 [.shm 3 ((m).map (rowK (Value.int .i64) (Value.int .i64))), .lit (.int .i64 least), .lit (.int .i64 n), .lit (.int .i64 k)] (Ret (.tup [.shm 3 ((putV least m n k).map (rowK (Value.int .i64) (Value.int .i64))), .lit (.int .i64 (putE least m n k))]) []) := by
  have hc : 0 ≤ (mget m n).getD 0 ∧ (mget m n).getD 0 ≤ 1000000 := hw.cnt n
  have hg2 : (mget (mput m n ((mget m n).getD 0 + k)) n).getD 0 = (mget m n).getD 0 + k := by rw [mget_mput, if_pos rfl]; rfl
  have hlm := mput_length_le m n ((mget m n).getD 0 + k)
  have hml := hw.len
  refine Fun.of (nt := 39) (rs := [.tmp 8, .tmp 9]) Try.func38 rfl rfl rfl rfl rfl ?_
  refine Ev.sr fun K hK => S.o q.as (S.o q.as (S.end (hK _ ?_)))
  clear hK K
  refine Ev.sr fun K hK => S.o q.mv ?_
  refine S.clo (mt := 45) (hF := cloneM_fun _) (h0 := ?_) (h1 := ?_)
  · intro hnil
    obtain rfl := List.map_eq_nil_iff.1 hnil
    refine S.o q.as (S.end (hK _ ?_))
    clear hK K
    refine Ev.seq ?_
    refine Ev.sr fun K hK => S.o q.mv (S.o q.mv (S.o q.lss (S.bd q.mv (fun c1 => ?_) (fun c1 => ?_))))
    · first
    | (first | omega | contradiction)
    | refine S.sk (S.sk (S.o q.pt (S.end (hK _ ?_))))
      clear hK K
      refine Ev.ct ?_
      refine Ev.sr fun K hK => S.o q.mv (S.o q.as (S.o q.as (S.end (hK _ ?_))))
      clear hK K
      refine Ev.weaken (Wk.nshm (d0 := 8) (sz := 3)) ?_
      refine Ev.ret ?_
      refine Ev.ret2 ?_
      refine ⟨?_, rfl⟩
      first
       | (rw [(put_no (show pNo least n k by unfold pNo; omega)).e, (put_no (show pNo least n k by unfold pNo; omega)).v] <;> rfl)
       | (rw [(put_big (show ¬ pNo least n k by unfold pNo; omega) (show cntM _ n + k > 1000000 by unfold cntM; omega)).e, (put_big (show ¬ pNo least n k by unfold pNo; omega) (show cntM _ n + k > 1000000 by unfold cntM; omega)).v] <;> rfl)
       | (rw [(put_full (show ¬ pNo least n k by unfold pNo; omega) (show ¬ cntM _ n + k > 1000000 by unfold cntM; omega) (show (pMp _ n k).length > 200 by unfold pMp cntM; omega)).e, (put_full (show ¬ pNo least n k by unfold pNo; omega) (show ¬ cntM _ n + k > 1000000 by unfold cntM; omega) (show (pMp _ n k).length > 200 by unfold pMp cntM; omega)).v] <;> rfl)
       | (rw [(put_ok (show ¬ pNo least n k by unfold pNo; omega) (show ¬ cntM _ n + k > 1000000 by unfold cntM; omega) (show ¬ (pMp _ n k).length > 200 by unfold pMp cntM; omega)).e, (put_ok (show ¬ pNo least n k by unfold pNo; omega) (show ¬ cntM _ n + k > 1000000 by unfold cntM; omega) (show ¬ (pMp _ n k).length > 200 by unfold pMp cntM; omega)).v] <;> rfl)
    · first
    | (first | omega | contradiction)
    | refine S.o q.mv (S.o q.eql (S.o q.pf (S.end (hK _ ?_))))
      clear hK K
      refine Ev.cd (fun c2 => ?_) (fun c2 => ?_)
      · first
      | (first | omega | contradiction)
      | refine Ev.sr fun K hK => S.o q.mv (S.o q.as (S.o q.as (S.end (hK _ ?_))))
        clear hK K
        refine Ev.weaken (Wk.nshm (d0 := 8) (sz := 3)) ?_
        refine Ev.ret ?_
        refine Ev.ret2 ?_
        refine ⟨?_, rfl⟩
        first
         | (rw [(put_no (show pNo least n k by unfold pNo; omega)).e, (put_no (show pNo least n k by unfold pNo; omega)).v] <;> rfl)
         | (rw [(put_big (show ¬ pNo least n k by unfold pNo; omega) (show cntM _ n + k > 1000000 by unfold cntM; omega)).e, (put_big (show ¬ pNo least n k by unfold pNo; omega) (show cntM _ n + k > 1000000 by unfold cntM; omega)).v] <;> rfl)
         | (rw [(put_full (show ¬ pNo least n k by unfold pNo; omega) (show ¬ cntM _ n + k > 1000000 by unfold cntM; omega) (show (pMp _ n k).length > 200 by unfold pMp cntM; omega)).e, (put_full (show ¬ pNo least n k by unfold pNo; omega) (show ¬ cntM _ n + k > 1000000 by unfold cntM; omega) (show (pMp _ n k).length > 200 by unfold pMp cntM; omega)).v] <;> rfl)
         | (rw [(put_ok (show ¬ pNo least n k by unfold pNo; omega) (show ¬ cntM _ n + k > 1000000 by unfold cntM; omega) (show ¬ (pMp _ n k).length > 200 by unfold pMp cntM; omega)).e, (put_ok (show ¬ pNo least n k by unfold pNo; omega) (show ¬ cntM _ n + k > 1000000 by unfold cntM; omega) (show ¬ (pMp _ n k).length > 200 by unfold pMp cntM; omega)).v] <;> rfl)
      · first
      | (first | omega | contradiction)
      | refine Ev.skip ?_
        show Ev _ _ _ _
        refine Ev.seq ?_
        refine Ev.sr fun K hK => S.o q.mv (S.meq0 (by kernel_rfl : Try.prog.underlying 45 = some (.map 3 3)) (h := S.end (hK _ ?_)))
        clear hK K
        refine Ev.ct ?_
        refine Ev.region_S fun K hK => S.nn (v := .hd 0) (o := ⟨true, 45, 3, ([] : List (Int × Int)).map (rowK (Value.int .i64) (Value.int .i64)), true⟩) (q.mm am_mt45) (S.o q.as (S.end (hK _ ?_)))
        clear hK K
        show Ev _ _ _ _
        refine Ev.sr fun K hK => S.o q.mv (S.o q.mv (S.o (q.lk (vv := (Value.int .i64)) klI am_mt45) (S.o q.mv (S.o q.add (S.mu (vv := (Value.int .i64)) [] klI am_mt45 (fun _ => rfl) (hn := S.end (hK _ ?_)))))))
        clear hK K
        refine Ev.seq ?_
        refine Ev.block ?_
        refine Ev.sr fun K hK => S.o q.mv (S.o q.mv (S.o (q.lk (vv := (Value.int .i64)) klI am_mt45) (S.o q.gtr (S.o q.as (S.end (hK _ ?_))))))
        clear hK K
        refine Ev.cd (fun c3 => ?_) (fun c3 => ?_)
        · first
        | (first | omega | contradiction)
        | refine Ev.sr fun K hK => S.o q.as (S.o q.as (S.end (hK _ ?_)))
          clear hK K
          refine Ev.weaken (Wk.nshm (d0 := 8) (sz := 3)) ?_
          refine Ev.ret ?_
          refine Ev.ret2 ?_
          refine ⟨?_, rfl⟩
          first
           | (rw [(put_no (show pNo least n k by unfold pNo; omega)).e, (put_no (show pNo least n k by unfold pNo; omega)).v] <;> rfl)
           | (rw [(put_big (show ¬ pNo least n k by unfold pNo; omega) (show cntM _ n + k > 1000000 by unfold cntM; omega)).e, (put_big (show ¬ pNo least n k by unfold pNo; omega) (show cntM _ n + k > 1000000 by unfold cntM; omega)).v] <;> rfl)
           | (rw [(put_full (show ¬ pNo least n k by unfold pNo; omega) (show ¬ cntM _ n + k > 1000000 by unfold cntM; omega) (show (pMp _ n k).length > 200 by unfold pMp cntM; omega)).e, (put_full (show ¬ pNo least n k by unfold pNo; omega) (show ¬ cntM _ n + k > 1000000 by unfold cntM; omega) (show (pMp _ n k).length > 200 by unfold pMp cntM; omega)).v] <;> rfl)
           | (rw [(put_ok (show ¬ pNo least n k by unfold pNo; omega) (show ¬ cntM _ n + k > 1000000 by unfold cntM; omega) (show ¬ (pMp _ n k).length > 200 by unfold pMp cntM; omega)).e, (put_ok (show ¬ pNo least n k by unfold pNo; omega) (show ¬ cntM _ n + k > 1000000 by unfold cntM; omega) (show ¬ (pMp _ n k).length > 200 by unfold pMp cntM; omega)).v] <;> rfl)
        · first
        | (first | omega | contradiction)
        | refine Ev.sr fun K hK => S.o q.mv (S.o (q.lenm (p := (_, _)) am_mt45 am_em45) (S.o q.gtr (S.o q.as (S.end (hK _ ?_)))))
          clear hK K
          refine Ev.cd (fun c4 => ?_) (fun c4 => ?_)
          · first
          | (first | omega | contradiction)
          | refine Ev.sr fun K hK => S.o q.as (S.o q.as (S.end (hK _ ?_)))
            clear hK K
            refine Ev.weaken (Wk.nshm (d0 := 8) (sz := 3)) ?_
            refine Ev.ret ?_
            refine Ev.ret2 ?_
            refine ⟨?_, rfl⟩
            first
             | (rw [(put_no (show pNo least n k by unfold pNo; omega)).e, (put_no (show pNo least n k by unfold pNo; omega)).v] <;> rfl)
             | (rw [(put_big (show ¬ pNo least n k by unfold pNo; omega) (show cntM _ n + k > 1000000 by unfold cntM; omega)).e, (put_big (show ¬ pNo least n k by unfold pNo; omega) (show cntM _ n + k > 1000000 by unfold cntM; omega)).v] <;> rfl)
             | (rw [(put_full (show ¬ pNo least n k by unfold pNo; omega) (show ¬ cntM _ n + k > 1000000 by unfold cntM; omega) (show (pMp _ n k).length > 200 by unfold pMp cntM; omega)).e, (put_full (show ¬ pNo least n k by unfold pNo; omega) (show ¬ cntM _ n + k > 1000000 by unfold cntM; omega) (show (pMp _ n k).length > 200 by unfold pMp cntM; omega)).v] <;> rfl)
             | (rw [(put_ok (show ¬ pNo least n k by unfold pNo; omega) (show ¬ cntM _ n + k > 1000000 by unfold cntM; omega) (show ¬ (pMp _ n k).length > 200 by unfold pMp cntM; omega)).e, (put_ok (show ¬ pNo least n k by unfold pNo; omega) (show ¬ cntM _ n + k > 1000000 by unfold cntM; omega) (show ¬ (pMp _ n k).length > 200 by unfold pMp cntM; omega)).v] <;> rfl)
          · first
          | (first | omega | contradiction)
          | refine Ev.skip ?_
            show Ev _ _ _ _
            refine Ev.sr fun K hK => S.o q.mv (S.o q.as (S.o q.as (S.end (hK _ ?_))))
            clear hK K
            refine Ev.weaken (Wk.frzm [8, 10, 23, 24, 30, 35, 38] [] (by intro d hd; simp only [List.mem_cons, List.not_mem_nil, or_false] at hd; rcases hd with rfl | rfl | rfl | rfl | rfl | rfl | rfl <;> rfl) (hex := ⟨8, rfl⟩)) ?_
            refine Ev.ret ?_
            refine Ev.ret2 ?_
            refine ⟨?_, rfl⟩
            first
             | (rw [(put_no (show pNo least n k by unfold pNo; omega)).e, (put_no (show pNo least n k by unfold pNo; omega)).v] <;> rfl)
             | (rw [(put_big (show ¬ pNo least n k by unfold pNo; omega) (show cntM _ n + k > 1000000 by unfold cntM; omega)).e, (put_big (show ¬ pNo least n k by unfold pNo; omega) (show cntM _ n + k > 1000000 by unfold cntM; omega)).v] <;> rfl)
             | (rw [(put_full (show ¬ pNo least n k by unfold pNo; omega) (show ¬ cntM _ n + k > 1000000 by unfold cntM; omega) (show (pMp _ n k).length > 200 by unfold pMp cntM; omega)).e, (put_full (show ¬ pNo least n k by unfold pNo; omega) (show ¬ cntM _ n + k > 1000000 by unfold cntM; omega) (show (pMp _ n k).length > 200 by unfold pMp cntM; omega)).v] <;> rfl)
             | (rw [(put_ok (show ¬ pNo least n k by unfold pNo; omega) (show ¬ cntM _ n + k > 1000000 by unfold cntM; omega) (show ¬ (pMp _ n k).length > 200 by unfold pMp cntM; omega)).e, (put_ok (show ¬ pNo least n k by unfold pNo; omega) (show ¬ cntM _ n + k > 1000000 by unfold cntM; omega) (show ¬ (pMp _ n k).length > 200 by unfold pMp cntM; omega)).v] <;> rfl)
  · skip
    refine S.o q.as (S.end (hK _ ?_))
    clear hK K
    refine Ev.seq ?_
    refine Ev.sr fun K hK => S.o q.mv (S.o q.mv (S.o q.lss (S.bd q.mv (fun c5 => ?_) (fun c5 => ?_))))
    · first
    | (first | omega | contradiction)
    | refine S.sk (S.sk (S.o q.pt (S.end (hK _ ?_))))
      clear hK K
      refine Ev.ct ?_
      refine Ev.sr fun K hK => S.o q.mv (S.o q.as (S.o q.as (S.end (hK _ ?_))))
      clear hK K
      refine Ev.weaken (Wk.frzm [8, 10, 12, 20] [] (by intro d hd; simp only [List.mem_cons, List.not_mem_nil, or_false] at hd; rcases hd with rfl | rfl | rfl | rfl <;> rfl) (hex := ⟨8, rfl⟩)) ?_
      refine Ev.ret ?_
      refine Ev.ret2 ?_
      refine ⟨?_, rfl⟩
      first
       | (rw [(put_no (show pNo least n k by unfold pNo; omega)).e, (put_no (show pNo least n k by unfold pNo; omega)).v] <;> rfl)
       | (rw [(put_big (show ¬ pNo least n k by unfold pNo; omega) (show cntM _ n + k > 1000000 by unfold cntM; omega)).e, (put_big (show ¬ pNo least n k by unfold pNo; omega) (show cntM _ n + k > 1000000 by unfold cntM; omega)).v] <;> rfl)
       | (rw [(put_full (show ¬ pNo least n k by unfold pNo; omega) (show ¬ cntM _ n + k > 1000000 by unfold cntM; omega) (show (pMp _ n k).length > 200 by unfold pMp cntM; omega)).e, (put_full (show ¬ pNo least n k by unfold pNo; omega) (show ¬ cntM _ n + k > 1000000 by unfold cntM; omega) (show (pMp _ n k).length > 200 by unfold pMp cntM; omega)).v] <;> rfl)
       | (rw [(put_ok (show ¬ pNo least n k by unfold pNo; omega) (show ¬ cntM _ n + k > 1000000 by unfold cntM; omega) (show ¬ (pMp _ n k).length > 200 by unfold pMp cntM; omega)).e, (put_ok (show ¬ pNo least n k by unfold pNo; omega) (show ¬ cntM _ n + k > 1000000 by unfold cntM; omega) (show ¬ (pMp _ n k).length > 200 by unfold pMp cntM; omega)).v] <;> rfl)
    · first
    | (first | omega | contradiction)
    | refine S.o q.mv (S.o q.eql (S.o q.pf (S.end (hK _ ?_))))
      clear hK K
      refine Ev.cd (fun c6 => ?_) (fun c6 => ?_)
      · first
      | (first | omega | contradiction)
      | refine Ev.sr fun K hK => S.o q.mv (S.o q.as (S.o q.as (S.end (hK _ ?_))))
        clear hK K
        refine Ev.weaken (Wk.frzm [8, 10, 12, 20] [] (by intro d hd; simp only [List.mem_cons, List.not_mem_nil, or_false] at hd; rcases hd with rfl | rfl | rfl | rfl <;> rfl) (hex := ⟨8, rfl⟩)) ?_
        refine Ev.ret ?_
        refine Ev.ret2 ?_
        refine ⟨?_, rfl⟩
        first
         | (rw [(put_no (show pNo least n k by unfold pNo; omega)).e, (put_no (show pNo least n k by unfold pNo; omega)).v] <;> rfl)
         | (rw [(put_big (show ¬ pNo least n k by unfold pNo; omega) (show cntM _ n + k > 1000000 by unfold cntM; omega)).e, (put_big (show ¬ pNo least n k by unfold pNo; omega) (show cntM _ n + k > 1000000 by unfold cntM; omega)).v] <;> rfl)
         | (rw [(put_full (show ¬ pNo least n k by unfold pNo; omega) (show ¬ cntM _ n + k > 1000000 by unfold cntM; omega) (show (pMp _ n k).length > 200 by unfold pMp cntM; omega)).e, (put_full (show ¬ pNo least n k by unfold pNo; omega) (show ¬ cntM _ n + k > 1000000 by unfold cntM; omega) (show (pMp _ n k).length > 200 by unfold pMp cntM; omega)).v] <;> rfl)
         | (rw [(put_ok (show ¬ pNo least n k by unfold pNo; omega) (show ¬ cntM _ n + k > 1000000 by unfold cntM; omega) (show ¬ (pMp _ n k).length > 200 by unfold pMp cntM; omega)).e, (put_ok (show ¬ pNo least n k by unfold pNo; omega) (show ¬ cntM _ n + k > 1000000 by unfold cntM; omega) (show ¬ (pMp _ n k).length > 200 by unfold pMp cntM; omega)).v] <;> rfl)
      · first
      | (first | omega | contradiction)
      | refine Ev.skip ?_
        show Ev _ _ _ _
        refine Ev.seq ?_
        refine Ev.sr fun K hK => S.o q.mv (S.meq1 (by kernel_rfl : Try.prog.underlying 45 = some (.map 3 3)) (h := S.end (hK _ ?_)))
        clear hK K
        refine Ev.cf ?_
        refine Ev.skip ?_
        show Ev _ _ _ _
        refine Ev.sr fun K hK => S.o q.mv (S.o q.mv (S.o (q.lk (vv := (Value.int .i64)) klI am_mt45) (S.o q.mv (S.o q.add (S.mu (vv := (Value.int .i64)) [] klI am_mt45 (fun _ => rfl) (hn := S.end (hK _ ?_)))))))
        clear hK K
        refine Ev.seq ?_
        refine Ev.block ?_
        refine Ev.sr fun K hK => S.o q.mv (S.o q.mv (S.o (q.lk (vv := (Value.int .i64)) klI am_mt45) (S.o q.gtr (S.o q.as (S.end (hK _ ?_))))))
        clear hK K
        refine Ev.cd (fun c7 => ?_) (fun c7 => ?_)
        · first
        | (first | omega | contradiction)
        | refine Ev.sr fun K hK => S.o q.as (S.o q.as (S.end (hK _ ?_)))
          clear hK K
          refine Ev.weaken (Wk.nshm (d0 := 8) (sz := 3)) ?_
          refine Ev.ret ?_
          refine Ev.ret2 ?_
          refine ⟨?_, rfl⟩
          first
           | (rw [(put_no (show pNo least n k by unfold pNo; omega)).e, (put_no (show pNo least n k by unfold pNo; omega)).v] <;> rfl)
           | (rw [(put_big (show ¬ pNo least n k by unfold pNo; omega) (show cntM _ n + k > 1000000 by unfold cntM; omega)).e, (put_big (show ¬ pNo least n k by unfold pNo; omega) (show cntM _ n + k > 1000000 by unfold cntM; omega)).v] <;> rfl)
           | (rw [(put_full (show ¬ pNo least n k by unfold pNo; omega) (show ¬ cntM _ n + k > 1000000 by unfold cntM; omega) (show (pMp _ n k).length > 200 by unfold pMp cntM; omega)).e, (put_full (show ¬ pNo least n k by unfold pNo; omega) (show ¬ cntM _ n + k > 1000000 by unfold cntM; omega) (show (pMp _ n k).length > 200 by unfold pMp cntM; omega)).v] <;> rfl)
           | (rw [(put_ok (show ¬ pNo least n k by unfold pNo; omega) (show ¬ cntM _ n + k > 1000000 by unfold cntM; omega) (show ¬ (pMp _ n k).length > 200 by unfold pMp cntM; omega)).e, (put_ok (show ¬ pNo least n k by unfold pNo; omega) (show ¬ cntM _ n + k > 1000000 by unfold cntM; omega) (show ¬ (pMp _ n k).length > 200 by unfold pMp cntM; omega)).v] <;> rfl)
        · first
        | (first | omega | contradiction)
        | refine Ev.sr fun K hK => S.o q.mv (S.o (q.lenm (p := (_, _)) am_mt45 am_em45) (S.o q.gtr (S.o q.as (S.end (hK _ ?_)))))
          clear hK K
          refine Ev.cd (fun c8 => ?_) (fun c8 => ?_)
          · first
          | (first | omega | contradiction)
          | refine Ev.sr fun K hK => S.o q.as (S.o q.as (S.end (hK _ ?_)))
            clear hK K
            refine Ev.weaken (Wk.nshm (d0 := 8) (sz := 3)) ?_
            refine Ev.ret ?_
            refine Ev.ret2 ?_
            refine ⟨?_, rfl⟩
            first
             | (rw [(put_no (show pNo least n k by unfold pNo; omega)).e, (put_no (show pNo least n k by unfold pNo; omega)).v] <;> rfl)
             | (rw [(put_big (show ¬ pNo least n k by unfold pNo; omega) (show cntM _ n + k > 1000000 by unfold cntM; omega)).e, (put_big (show ¬ pNo least n k by unfold pNo; omega) (show cntM _ n + k > 1000000 by unfold cntM; omega)).v] <;> rfl)
             | (rw [(put_full (show ¬ pNo least n k by unfold pNo; omega) (show ¬ cntM _ n + k > 1000000 by unfold cntM; omega) (show (pMp _ n k).length > 200 by unfold pMp cntM; omega)).e, (put_full (show ¬ pNo least n k by unfold pNo; omega) (show ¬ cntM _ n + k > 1000000 by unfold cntM; omega) (show (pMp _ n k).length > 200 by unfold pMp cntM; omega)).v] <;> rfl)
             | (rw [(put_ok (show ¬ pNo least n k by unfold pNo; omega) (show ¬ cntM _ n + k > 1000000 by unfold cntM; omega) (show ¬ (pMp _ n k).length > 200 by unfold pMp cntM; omega)).e, (put_ok (show ¬ pNo least n k by unfold pNo; omega) (show ¬ cntM _ n + k > 1000000 by unfold cntM; omega) (show ¬ (pMp _ n k).length > 200 by unfold pMp cntM; omega)).v] <;> rfl)
          · first
          | (first | omega | contradiction)
          | refine Ev.skip ?_
            show Ev _ _ _ _
            refine Ev.sr fun K hK => S.o q.mv (S.o q.as (S.o q.as (S.end (hK _ ?_))))
            clear hK K
            refine Ev.weaken (Wk.frzm [8, 10, 12, 21, 24, 30, 35, 38] [] (by intro d hd; simp only [List.mem_cons, List.not_mem_nil, or_false] at hd; rcases hd with rfl | rfl | rfl | rfl | rfl | rfl | rfl | rfl <;> rfl) (hex := ⟨8, rfl⟩)) ?_
            refine Ev.ret ?_
            refine Ev.ret2 ?_
            refine ⟨?_, rfl⟩
            first
             | (rw [(put_no (show pNo least n k by unfold pNo; omega)).e, (put_no (show pNo least n k by unfold pNo; omega)).v] <;> rfl)
             | (rw [(put_big (show ¬ pNo least n k by unfold pNo; omega) (show cntM _ n + k > 1000000 by unfold cntM; omega)).e, (put_big (show ¬ pNo least n k by unfold pNo; omega) (show cntM _ n + k > 1000000 by unfold cntM; omega)).v] <;> rfl)
             | (rw [(put_full (show ¬ pNo least n k by unfold pNo; omega) (show ¬ cntM _ n + k > 1000000 by unfold cntM; omega) (show (pMp _ n k).length > 200 by unfold pMp cntM; omega)).e, (put_full (show ¬ pNo least n k by unfold pNo; omega) (show ¬ cntM _ n + k > 1000000 by unfold cntM; omega) (show (pMp _ n k).length > 200 by unfold pMp cntM; omega)).v] <;> rfl)
             | (rw [(put_ok (show ¬ pNo least n k by unfold pNo; omega) (show ¬ cntM _ n + k > 1000000 by unfold cntM; omega) (show ¬ (pMp _ n k).length > 200 by unfold pMp cntM; omega)).e, (put_ok (show ¬ pNo least n k by unfold pNo; omega) (show ¬ cntM _ n + k > 1000000 by unfold cntM; omega) (show ¬ (pMp _ n k).length > 200 by unfold pMp cntM; omega)).v] <;> rfl)
theorem otake_fun (m : Mp) (least n : Int) (hw : WfM least m) (hn : 1 ≤ n ∧ n ≤ 1048576) : Fun Try.prog 35 [.shm 3 ((m).map (rowK (Value.int .i64) (Value.int .i64))), .lit (.int .i64 least), .lit (.int .i64 n)] (Ret (.tup [.shm 3 ((tkV least m n).map (rowK (Value.int .i64) (Value.int .i64))), .lit (.int .i64 (tkB least m n)), .lit (.int .i64 (tkE least m n))]) []) := by
  obtain ⟨b1, b2, b3⟩ := hw.best_bd n
  have hc : 0 ≤ (mget m (bestK m n)).getD 0 ∧ (mget m (bestK m n)).getD 0 ≤ 1000000 := hw.cnt _
  have hg2 : (mget (mput m (bestK m n) ((mget m (bestK m n)).getD 0 - 1)) (bestK m n)).getD 0 = (mget m (bestK m n)).getD 0 - 1 := by rw [mget_mput, if_pos rfl]; rfl
  have hml := hw.len
  refine Fun.of (nt := 63) (rs := [.tmp 6, .tmp 7, .tmp 8]) Try.func35 rfl rfl rfl rfl rfl ?_
  refine Ev.sr fun K hK => S.o q.as (S.o q.as (S.o q.as (S.end (hK _ ?_))))
  clear hK K
  refine Ev.sr fun K hK => S.o q.as (S.end (hK _ ?_))
  clear hK K
  refine Ev.seq ?_
  refine Ev.sr fun K hK => S.o q.mv (S.nn (q.rg am_mt45) (S.end (hK _ ?_)))
  clear hK K
  refine Ev.block ?_
  refine Ev.weaken (Wk.rem0 0 []) ?_
  refine Ev.loopU (ι := {q : Mp × Mp × Int // (q.1 ++ q.2.1).Perm m ∧ IsBest q.1 n q.2.2}) [0] [0, 1, 2, 6, 7, 8, 14] (fun ⟨(dn, rm, b), _⟩ => [(9, .lit (.int .i64 (b)))]) (fun ⟨(dn, rm, b), _⟩ => [(0, ⟨false, 0, 1, [[.rem 3 [] ((rm).map (rowK (Value.int .i64) (Value.int .i64)))]], true⟩)]) (fun ⟨(dn, rm, b), _⟩ => rm.length) ⟨([], m, 0), List.Perm.refl _, isBest_nil n⟩ (.c (.c (.c (.c (.c (.c (.c .n))))))) (keep_c (he := (by first | rfl | (simp; done))) (h := keep_n)) (slots_c (he := (by first | rfl | (rw [if_pos (by omega)]; done) | (rw [if_neg (by omega)]; done))) (h := trivial)) ?_
  rintro ⟨⟨dn, rm, b⟩, hpm, hib⟩ R0 hR0
  dsimp only [List.cons_append, List.nil_append, List.length_cons, List.length_nil]
  simp only at hpm hib
  refine Ev.sr fun K hK => ?_
  refine S.nx (kv := (Value.int .i64)) (vv := (Value.int .i64)) [] (h0 := ?_) (h1 := ?_)
  · intro hl1
    refine S.o q.ex (S.end (hK _ ?_))
    clear hK K
    refine Ev.uf ?_
    refine Ev.exit ?_
    refine hR0 _ _ ?_
    show Ev _ _ _ _
    refine Ev.seq ?_
    have hrm : rm = [] := by assumption
    subst hrm
    rw [List.append_nil] at hpm
    obtain rfl : b = bestK m n := hib.eq (hw.best n) (fun k => ⟨fun ⟨p, h1, h2⟩ => ⟨p, hpm.subset h1, h2⟩, fun ⟨p, h1, h2⟩ => ⟨p, hpm.symm.subset h1, h2⟩⟩) (fun p h => hw.pos p (hpm.subset h)) hw.pos
    refine Ev.sr fun K hK => S.o q.mv (S.o q.eql (S.end (hK _ ?_)))
    clear hK K
    refine Ev.cd (fun c2 => ?_) (fun c2 => ?_)
    · first
    | (first | omega | contradiction)
    | refine Ev.sr fun K hK => S.o q.as (S.o q.as (S.o q.as (S.end (hK _ ?_))))
      clear hK K
      refine Ev.weaken (Wk.nshm (d0 := 6) (sz := 3)) ?_
      refine Ev.ret ?_
      refine Ev.ret3 ?_
      refine ⟨?_, rfl⟩
      first
       | (rw [(tk_none (least := least) (m := m) (n := n) (by omega)).e, (tk_none (least := least) (m := m) (n := n) (by omega)).b, (tk_none (least := least) (m := m) (n := n) (by omega)).v] <;> rfl)
       | (rw [(tk_eq (least := least) (m := m) (n := n) h0 (by omega)).e, (tk_eq (least := least) (m := m) (n := n) h0 (by omega)).b, (tk_eq (least := least) (m := m) (n := n) h0 (by omega)).v] <;> rfl)
       | (rw [(tk_ok (least := least) (m := m) (n := n) h0 (by omega) (by omega)).e, (tk_ok (least := least) (m := m) (n := n) h0 (by omega) (by omega)).b, (tk_ok (least := least) (m := m) (n := n) h0 (by omega) (by omega)).v] <;> rfl)
       | (rw [(tk_bad (least := least) (m := m) (n := n) h0 (by omega) (by omega)).e, (tk_bad (least := least) (m := m) (n := n) h0 (by omega) (by omega)).b, (tk_bad (least := least) (m := m) (n := n) h0 (by omega) (by omega)).v] <;> rfl)
    · first
    | (first | omega | contradiction)
    | refine Ev.skip ?_
      show Ev _ _ _ _
      have h0 : ¬ bestK m n = 0 := by omega
      obtain ⟨b4, b5, b6⟩ := b3 h0
      have b4 : 1 ≤ (mget m (bestK m n)).getD 0 := b4
      have hcw := cut_wf hw b4
      refine Ev.sr fun K hK => S.o q.mv ?_
      refine S.clo (mt := 45) (hF := cloneM_fun _) (h0 := ?_) (h1 := ?_)
      · intro hnil
        exfalso
        obtain rfl := List.map_eq_nil_iff.1 hnil
        exact h0 rfl
      · skip
        refine S.o q.as (S.end (hK _ ?_))
        clear hK K
        refine Ev.seq ?_
        refine Ev.sr fun K hK => S.o q.mv (S.o q.mv (S.o (q.lk (vv := (Value.int .i64)) klI am_mt45) (S.o q.sub (S.mu (vv := (Value.int .i64)) [_] klI am_mt45 (fun _ => rfl) (hn := S.end (hK _ ?_))))))
        clear hK K
        refine Ev.sr fun K hK => S.o q.mv (S.o q.mv (S.o (q.lk (vv := (Value.int .i64)) klI am_mt45) (S.o q.eql (S.end (hK _ ?_)))))
        clear hK K
        refine Ev.cd (fun c3 => ?_) (fun c3 => ?_)
        · first
        | (first | omega | contradiction)
        | refine Ev.region_S fun K hK => S.o q.mv (S.o q.mv (S.del (vv := (Value.int .i64)) [_] klI am_mt45 (hn := S.end (hK _ ?_))))
          clear hK K
          show Ev _ _ _ _
          refine Ev.seq ?_
          first | rw [show mdel (mput m (bestK m n) ((mget m (bestK m n)).getD 0 - 1)) (bestK m n) = cutM m (bestK m n) from (if_pos (show (mget m (bestK m n)).getD 0 - 1 = 0 by omega)).symm] | rw [show (mput m (bestK m n) ((mget m (bestK m n)).getD 0 - 1)) = cutM m (bestK m n) from (if_neg (show ¬ (mget m (bestK m n)).getD 0 - 1 = 0 by omega)).symm]
          refine Ev.sr fun K hK => S.o q.mv (S.o q.mv (S.o q.gtr (S.end (hK _ ?_))))
          clear hK K
          refine Ev.cd (fun c4 => ?_) (fun c4 => ?_)
          · first
          | (first | omega | contradiction)
          | refine Ev.sr fun K hK => S.o q.as (S.end (hK _ ?_))
            clear hK K
            refine Ev.sr fun K hK => S.o q.mv (S.o q.mv (S.o q.mv (S.o q.mv (S.o q.sub ?_))))
            refine SeqL.weaken (Wk.frzm [11, 35, 36, 40, 44, 50] [_] (by intro d hd; simp only [List.mem_cons, List.not_mem_nil, or_false] at hd; rcases hd with rfl | rfl | rfl | rfl | rfl | rfl <;> rfl) (hex := ⟨11, rfl⟩)) ?_
            refine S.c0 (hF := oput_fun (cutM m (bestK m n)) least ((bestK m n) - n) 1 hcw ⟨by decide, by decide⟩) (h := S.o q.mv (S.o q.ex (S.o q.ex (S.o q.as (S.o q.as (S.end (hK _ ?_)))))))
            clear hK K
            refine Ev.sr fun K hK => S.o q.mv (S.o q.neq (S.end (hK _ ?_)))
            clear hK K
            refine Ev.cn (fun c5 => ?_) (fun c5 => ?_)
            · first
            | (first | omega | contradiction)
            | refine Ev.sr fun K hK => S.o q.mv (S.o q.as (S.o q.as (S.o q.as (S.end (hK _ ?_)))))
              clear hK K
              refine Ev.weaken (Wk.nshm (d0 := 6) (sz := 3)) ?_
              refine Ev.ret ?_
              refine Ev.ret3 ?_
              refine ⟨?_, rfl⟩
              first
               | (rw [(tk_none (least := least) (m := m) (n := n) (by omega)).e, (tk_none (least := least) (m := m) (n := n) (by omega)).b, (tk_none (least := least) (m := m) (n := n) (by omega)).v] <;> rfl)
               | (rw [(tk_eq (least := least) (m := m) (n := n) h0 (by omega)).e, (tk_eq (least := least) (m := m) (n := n) h0 (by omega)).b, (tk_eq (least := least) (m := m) (n := n) h0 (by omega)).v] <;> rfl)
               | (rw [(tk_ok (least := least) (m := m) (n := n) h0 (by omega) (by omega)).e, (tk_ok (least := least) (m := m) (n := n) h0 (by omega) (by omega)).b, (tk_ok (least := least) (m := m) (n := n) h0 (by omega) (by omega)).v] <;> rfl)
               | (rw [(tk_bad (least := least) (m := m) (n := n) h0 (by omega) (by omega)).e, (tk_bad (least := least) (m := m) (n := n) h0 (by omega) (by omega)).b, (tk_bad (least := least) (m := m) (n := n) h0 (by omega) (by omega)).v] <;> rfl)
            · first
            | (first | omega | contradiction)
            | refine Ev.skip ?_
              show Ev _ _ _ _
              refine Ev.sr fun K hK => S.o q.mv (S.o q.mv (S.o q.as (S.o q.as (S.o q.as (S.end (hK _ ?_))))))
              clear hK K
              refine Ev.ret ?_
              refine Ev.ret3 ?_
              refine ⟨?_, rfl⟩
              first
               | (rw [(tk_none (least := least) (m := m) (n := n) (by omega)).e, (tk_none (least := least) (m := m) (n := n) (by omega)).b, (tk_none (least := least) (m := m) (n := n) (by omega)).v] <;> rfl)
               | (rw [(tk_eq (least := least) (m := m) (n := n) h0 (by omega)).e, (tk_eq (least := least) (m := m) (n := n) h0 (by omega)).b, (tk_eq (least := least) (m := m) (n := n) h0 (by omega)).v] <;> rfl)
               | (rw [(tk_ok (least := least) (m := m) (n := n) h0 (by omega) (by omega)).e, (tk_ok (least := least) (m := m) (n := n) h0 (by omega) (by omega)).b, (tk_ok (least := least) (m := m) (n := n) h0 (by omega) (by omega)).v] <;> rfl)
               | (rw [(tk_bad (least := least) (m := m) (n := n) h0 (by omega) (by omega)).e, (tk_bad (least := least) (m := m) (n := n) h0 (by omega) (by omega)).b, (tk_bad (least := least) (m := m) (n := n) h0 (by omega) (by omega)).v] <;> rfl)
          · first
          | (first | omega | contradiction)
          | refine Ev.skip ?_
            show Ev _ _ _ _
            refine Ev.sr fun K hK => S.o q.mv (S.o q.mv (S.o q.as (S.o q.as (S.o q.as (S.end (hK _ ?_))))))
            clear hK K
            refine Ev.weaken (Wk.frzm [6, 11, 35, 36, 40, 44, 61] [_] (by intro d hd; simp only [List.mem_cons, List.not_mem_nil, or_false] at hd; rcases hd with rfl | rfl | rfl | rfl | rfl | rfl | rfl <;> rfl) (hex := ⟨6, rfl⟩)) ?_
            refine Ev.ret ?_
            refine Ev.ret3 ?_
            refine ⟨?_, rfl⟩
            first
             | (rw [(tk_none (least := least) (m := m) (n := n) (by omega)).e, (tk_none (least := least) (m := m) (n := n) (by omega)).b, (tk_none (least := least) (m := m) (n := n) (by omega)).v] <;> rfl)
             | (rw [(tk_eq (least := least) (m := m) (n := n) h0 (by omega)).e, (tk_eq (least := least) (m := m) (n := n) h0 (by omega)).b, (tk_eq (least := least) (m := m) (n := n) h0 (by omega)).v] <;> rfl)
             | (rw [(tk_ok (least := least) (m := m) (n := n) h0 (by omega) (by omega)).e, (tk_ok (least := least) (m := m) (n := n) h0 (by omega) (by omega)).b, (tk_ok (least := least) (m := m) (n := n) h0 (by omega) (by omega)).v] <;> rfl)
             | (rw [(tk_bad (least := least) (m := m) (n := n) h0 (by omega) (by omega)).e, (tk_bad (least := least) (m := m) (n := n) h0 (by omega) (by omega)).b, (tk_bad (least := least) (m := m) (n := n) h0 (by omega) (by omega)).v] <;> rfl)
        · first
        | (first | omega | contradiction)
        | refine Ev.skip ?_
          show Ev _ _ _ _
          refine Ev.seq ?_
          first | rw [show mdel (mput m (bestK m n) ((mget m (bestK m n)).getD 0 - 1)) (bestK m n) = cutM m (bestK m n) from (if_pos (show (mget m (bestK m n)).getD 0 - 1 = 0 by omega)).symm] | rw [show (mput m (bestK m n) ((mget m (bestK m n)).getD 0 - 1)) = cutM m (bestK m n) from (if_neg (show ¬ (mget m (bestK m n)).getD 0 - 1 = 0 by omega)).symm]
          refine Ev.sr fun K hK => S.o q.mv (S.o q.mv (S.o q.gtr (S.end (hK _ ?_))))
          clear hK K
          refine Ev.cd (fun c6 => ?_) (fun c6 => ?_)
          · first
          | (first | omega | contradiction)
          | refine Ev.sr fun K hK => S.o q.as (S.end (hK _ ?_))
            clear hK K
            refine Ev.sr fun K hK => S.o q.mv (S.o q.mv (S.o q.mv (S.o q.mv (S.o q.sub ?_))))
            refine SeqL.weaken (Wk.frzm [11, 35, 36, 40, 50] [_] (by intro d hd; simp only [List.mem_cons, List.not_mem_nil, or_false] at hd; rcases hd with rfl | rfl | rfl | rfl | rfl <;> rfl) (hex := ⟨11, rfl⟩)) ?_
            refine S.c0 (hF := oput_fun (cutM m (bestK m n)) least ((bestK m n) - n) 1 hcw ⟨by decide, by decide⟩) (h := S.o q.mv (S.o q.ex (S.o q.ex (S.o q.as (S.o q.as (S.end (hK _ ?_)))))))
            clear hK K
            refine Ev.sr fun K hK => S.o q.mv (S.o q.neq (S.end (hK _ ?_)))
            clear hK K
            refine Ev.cn (fun c7 => ?_) (fun c7 => ?_)
            · first
            | (first | omega | contradiction)
            | refine Ev.sr fun K hK => S.o q.mv (S.o q.as (S.o q.as (S.o q.as (S.end (hK _ ?_)))))
              clear hK K
              refine Ev.weaken (Wk.nshm (d0 := 6) (sz := 3)) ?_
              refine Ev.ret ?_
              refine Ev.ret3 ?_
              refine ⟨?_, rfl⟩
              first
               | (rw [(tk_none (least := least) (m := m) (n := n) (by omega)).e, (tk_none (least := least) (m := m) (n := n) (by omega)).b, (tk_none (least := least) (m := m) (n := n) (by omega)).v] <;> rfl)
               | (rw [(tk_eq (least := least) (m := m) (n := n) h0 (by omega)).e, (tk_eq (least := least) (m := m) (n := n) h0 (by omega)).b, (tk_eq (least := least) (m := m) (n := n) h0 (by omega)).v] <;> rfl)
               | (rw [(tk_ok (least := least) (m := m) (n := n) h0 (by omega) (by omega)).e, (tk_ok (least := least) (m := m) (n := n) h0 (by omega) (by omega)).b, (tk_ok (least := least) (m := m) (n := n) h0 (by omega) (by omega)).v] <;> rfl)
               | (rw [(tk_bad (least := least) (m := m) (n := n) h0 (by omega) (by omega)).e, (tk_bad (least := least) (m := m) (n := n) h0 (by omega) (by omega)).b, (tk_bad (least := least) (m := m) (n := n) h0 (by omega) (by omega)).v] <;> rfl)
            · first
            | (first | omega | contradiction)
            | refine Ev.skip ?_
              show Ev _ _ _ _
              refine Ev.sr fun K hK => S.o q.mv (S.o q.mv (S.o q.as (S.o q.as (S.o q.as (S.end (hK _ ?_))))))
              clear hK K
              refine Ev.ret ?_
              refine Ev.ret3 ?_
              refine ⟨?_, rfl⟩
              first
               | (rw [(tk_none (least := least) (m := m) (n := n) (by omega)).e, (tk_none (least := least) (m := m) (n := n) (by omega)).b, (tk_none (least := least) (m := m) (n := n) (by omega)).v] <;> rfl)
               | (rw [(tk_eq (least := least) (m := m) (n := n) h0 (by omega)).e, (tk_eq (least := least) (m := m) (n := n) h0 (by omega)).b, (tk_eq (least := least) (m := m) (n := n) h0 (by omega)).v] <;> rfl)
               | (rw [(tk_ok (least := least) (m := m) (n := n) h0 (by omega) (by omega)).e, (tk_ok (least := least) (m := m) (n := n) h0 (by omega) (by omega)).b, (tk_ok (least := least) (m := m) (n := n) h0 (by omega) (by omega)).v] <;> rfl)
               | (rw [(tk_bad (least := least) (m := m) (n := n) h0 (by omega) (by omega)).e, (tk_bad (least := least) (m := m) (n := n) h0 (by omega) (by omega)).b, (tk_bad (least := least) (m := m) (n := n) h0 (by omega) (by omega)).v] <;> rfl)
          · first
          | (first | omega | contradiction)
          | refine Ev.skip ?_
            show Ev _ _ _ _
            refine Ev.sr fun K hK => S.o q.mv (S.o q.mv (S.o q.as (S.o q.as (S.o q.as (S.end (hK _ ?_))))))
            clear hK K
            refine Ev.weaken (Wk.frzm [6, 11, 35, 36, 40, 61] [_] (by intro d hd; simp only [List.mem_cons, List.not_mem_nil, or_false] at hd; rcases hd with rfl | rfl | rfl | rfl | rfl | rfl <;> rfl) (hex := ⟨6, rfl⟩)) ?_
            refine Ev.ret ?_
            refine Ev.ret3 ?_
            refine ⟨?_, rfl⟩
            first
             | (rw [(tk_none (least := least) (m := m) (n := n) (by omega)).e, (tk_none (least := least) (m := m) (n := n) (by omega)).b, (tk_none (least := least) (m := m) (n := n) (by omega)).v] <;> rfl)
             | (rw [(tk_eq (least := least) (m := m) (n := n) h0 (by omega)).e, (tk_eq (least := least) (m := m) (n := n) h0 (by omega)).b, (tk_eq (least := least) (m := m) (n := n) h0 (by omega)).v] <;> rfl)
             | (rw [(tk_ok (least := least) (m := m) (n := n) h0 (by omega) (by omega)).e, (tk_ok (least := least) (m := m) (n := n) h0 (by omega) (by omega)).b, (tk_ok (least := least) (m := m) (n := n) h0 (by omega) (by omega)).v] <;> rfl)
             | (rw [(tk_bad (least := least) (m := m) (n := n) h0 (by omega) (by omega)).e, (tk_bad (least := least) (m := m) (n := n) h0 (by omega) (by omega)).b, (tk_bad (least := least) (m := m) (n := n) h0 (by omega) (by omega)).v] <;> rfl)
  · intro l1 pq l2 hlq
    have hpn := perm_next hpm hlq
    have hlm : (l1 ++ l2).length < rm.length := by rw [hlq]; simp
    have hpo := hw.ok pq (hpm.subset (by rw [hlq]; simp))
    have hp1 : 1 ≤ pq.1 := hpo.1.1
    have hp2 : pq.1 ≤ 1048576 := hpo.1.2.1
    refine S.o q.ex (S.end (hK _ ?_))
    clear hK K
    refine Ev.ut ?_
    refine Ev.block ?_
    refine Ev.sr fun K hK => S.o (q.en (kv := (Value.int .i64)) (vv := (Value.int .i64)) (l1 := [])) (S.o q.ex (S.o q.as (S.end (hK _ ?_))))
    clear hK K
    refine Ev.sr fun K hK => S.o q.mv (S.o q.mv (S.o q.geq (S.bd q.mv (fun c8 => ?_) (fun c8 => ?_))))
    · first
    | (first | omega | contradiction)
    | refine S.o q.mv (S.o q.eql (S.bd q.mv (fun c9 => ?_) (fun c9 => ?_)))
      · first
      | (first | omega | contradiction)
      | refine S.sk (S.sk (S.sk (S.o q.pt (S.o q.pt (S.end (hK _ ?_))))))
        clear hK K
        refine Ev.ct ?_
        refine Ev.region_S fun K hK => S.o q.mv (S.o q.as (S.end (hK _ ?_)))
        clear hK K
        refine hR0 _ _ ?_
        refine roundW (Wk.rem0 0 []) ?_
        refine roundU [0] [0, 1, 2, 6, 7, 8, 14] ⟨(dn ++ [pq], l1 ++ l2, if pq.1 ≥ n ∧ (b = 0 ∨ pq.1 < b) then pq.1 else b), hpn, isBest_snoc hib hp1⟩ ?_ (keep_c (he := (by first | rfl | (simp; done))) (h := keep_n)) (slots_c (he := (by first | rfl | (rw [if_pos (by omega)]; done) | (rw [if_neg (by omega)]; done))) (h := trivial)) (.c (.c (.c (.c (.c (.c (.c .n)))))))
        skip
        all_goals (dsimp only; omega)
      · first
      | (first | omega | contradiction)
      | refine S.o q.mv (S.o q.mv (S.o q.lss (S.o q.pf (S.o q.pt (S.end (hK _ ?_))))))
        clear hK K
        refine Ev.cd (fun c10 => ?_) (fun c10 => ?_)
        · first
        | (first | omega | contradiction)
        | refine Ev.region_S fun K hK => S.o q.mv (S.o q.as (S.end (hK _ ?_)))
          clear hK K
          refine hR0 _ _ ?_
          refine roundW (Wk.rem0 0 []) ?_
          refine roundU [0] [0, 1, 2, 6, 7, 8, 14] ⟨(dn ++ [pq], l1 ++ l2, if pq.1 ≥ n ∧ (b = 0 ∨ pq.1 < b) then pq.1 else b), hpn, isBest_snoc hib hp1⟩ ?_ (keep_c (he := (by first | rfl | (simp; done))) (h := keep_n)) (slots_c (he := (by first | rfl | (rw [if_pos (by omega)]; done) | (rw [if_neg (by omega)]; done))) (h := trivial)) (.c (.c (.c (.c (.c (.c (.c .n)))))))
          skip
          all_goals (dsimp only; omega)
        · first
        | (first | omega | contradiction)
        | refine Ev.skip ?_
          refine hR0 _ _ ?_
          refine roundW (Wk.rem0 0 []) ?_
          refine roundU [0] [0, 1, 2, 6, 7, 8, 14] ⟨(dn ++ [pq], l1 ++ l2, if pq.1 ≥ n ∧ (b = 0 ∨ pq.1 < b) then pq.1 else b), hpn, isBest_snoc hib hp1⟩ ?_ (keep_c (he := (by first | rfl | (simp; done))) (h := keep_n)) (slots_c (he := (by first | rfl | (rw [if_pos (by omega)]; done) | (rw [if_neg (by omega)]; done))) (h := trivial)) (.c (.c (.c (.c (.c (.c (.c .n)))))))
          skip
          all_goals (dsimp only; omega)
    · first
    | (first | omega | contradiction)
    | refine S.sk (S.sk (S.sk (S.sk (S.sk (S.sk (S.sk (S.o q.pf (S.end (hK _ ?_)))))))))
      clear hK K
      refine Ev.cf ?_
      refine Ev.skip ?_
      refine hR0 _ _ ?_
      refine roundW (Wk.rem0 0 []) ?_
      refine roundU [0] [0, 1, 2, 6, 7, 8, 14] ⟨(dn ++ [pq], l1 ++ l2, if pq.1 ≥ n ∧ (b = 0 ∨ pq.1 < b) then pq.1 else b), hpn, isBest_snoc hib hp1⟩ ?_ (keep_c (he := (by first | rfl | (simp; done))) (h := keep_n)) (slots_c (he := (by first | rfl | (rw [if_pos (by omega)]; done) | (rw [if_neg (by omega)]; done))) (h := trivial)) (.c (.c (.c (.c (.c (.c (.c .n)))))))
      skip
      all_goals (dsimp only; omega)
end Go.Proofs.Ytaggnajjmopobaa

namespace Go.Proofs.Ytaggnajjmopobaa
open Go Go.AM
set_option linter.unusedSimpArgs false
set_option linter.unusedVariables false
set_option maxRecDepth 100000
set_option maxHeartbeats 2000000

theorem dCmp2_fun (x y : Int) : Fun Try.prog 41 [.lit (.int .i64 x), .lit (.int .i64 y)] (Ret (.lit (.int .i64 (dCmp x y))) []) := by
  refine Fun.of (nt := 8) (rs := [.tmp 4]) Try.func41 rfl rfl rfl rfl rfl ?_
  refine Ev.sr fun K hK => S.o q.as (S.end (hK _ ?_))
  clear hK K
  refine Ev.sr fun K hK => S.o q.mv (S.o q.mv (S.c0 (hF := cmpI_fun _ _) (h := S.o q.as (S.end (hK _ ?_)))))
  clear hK K
  refine Ev.ret ?_
  refine Ev.ret1 ?_
  refine ⟨?_, rfl⟩
  rfl
theorem sortInt2_fun (l : List Int) (hl : l.length ≤ 1000000) : FunR Try.prog 57 [.als 0 0 l.length, .fn (.func 41) [] []] [(0, ⟨true, 3, 1, l.map intC, true⟩)] 1
    (fun v objs => ∃ l' : List Int, (l'.Perm l ∧ l'.Pairwise fun x y => y ≤ x) ∧ v = .tup [] ∧ objs = [(0, ⟨true, 3, 1, l'.map intC, true⟩)]) := by
  have h := sortFunc1_R sortIntLay (el := 3) (enc := Value.int .i64) (fun _ => rfl) ⟨_, Try.func57, rfl, rfl⟩ dCmp dCmp_swo (fun x y => dCmp2_fun x y) l (by omega)
  simp only [dCmp_lt, decide_eq_false_iff_not, Int.not_lt] at h
  exact h
theorem sortedF2_fun (m : List (Int × Int)) (hn : m.length ≤ 1000000) (hk : ∀ a ∈ m.map Prod.fst, (Go.Lit.int .i64 a).wf = true) : FunR Try.prog 39 [.fn (.func 58) [] [.adr 0 0 0], .fn (.func 41) [] []] [(0, ⟨false, 45, 1, [[.shm 3 ((m).map (rowK (Value.int .i64) (Value.int .i64)))]], true⟩)] 1
    (Ret (.als 1 0 (dkeys m).length) [(0, ⟨false, 45, 1, [[.shm 3 ((m).map (rowK (Value.int .i64) (Value.int .i64)))]], true⟩), (1, ⟨true, 3, 1, (dkeys m).map intC, true⟩)]) := by
  refine FunR.of (nt := 12) (rs := [.tmp 4]) Try.func39 rfl rfl rfl rfl rfl ?_
  refine Ev.sr fun K hK => S.o q.as (S.end (hK _ ?_))
  clear hK K
  refine Ev.sr fun K hK => S.o q.mv (S.cRdv (ι := List Int) (Φ := fun ks => ks.Perm (m.map Prod.fst)) (vf := fun ks => .als 1 0 ks.length) (lf := fun ks => [(0, ⟨false, 45, 1, [[.shm 3 ((m).map (rowK (Value.int .i64) (Value.int .i64)))]], true⟩), (1, ⟨true, 3, 1, ks.map intC, true⟩)]) [0] 2 (hob := (keep_c (he := rfl) (h := keep_n))) (hF := collectK_fun m hn hk) (hn' := fun _ => belowL rfl rfl) (h := fun ks hks => (S.o q.as (S.end (hK _ ?_)))))
  clear hK K
  refine Ev.sr fun K hK => S.o q.mv (S.o q.mv (S.cRdx (ι := List Int) (Φ := fun l' => l'.Perm ks ∧ l'.Pairwise fun x y => y ≤ x) (lf := fun l' => [(0, ⟨true, 3, 1, l'.map intC, true⟩)]) [1] 2 (hob := (keep_c (he := rfl) (h := keep_n))) (hF := sortInt2_fun ks (by rw [hks.length_eq, List.length_map]; exact hn)) (hn' := fun _ => below1 (by decide)) (h := fun l' hl' => ?_)))
  obtain ⟨hl1, hl2⟩ := hl'
  have hfin : l' = dkeys m := dkeys_eq (hl1.trans hks) hl2
  rw [show ks.length = (dkeys m).length by rw [← hfin]; exact hl1.length_eq.symm, hfin]
  refine S.end (hK _ ?_)
  clear hK K
  refine Ev.sr fun K hK => S.o q.mv (S.o q.as (S.end (hK _ ?_)))
  clear hK K
  refine Ev.ret ?_
  refine Ev.rr1 [0, 1] (keepR_c (h := (keepR_c (h := keepR_n)))) (leadsB rfl) ?_
  refine ⟨?_, ?_⟩
  all_goals first | rfl | (simp; done)

def inL (n : Int) : Prop := 1 ≤ n ∧ n ≤ 1048576
instance (n) : Decidable (inL n) := by unfold inL; infer_instance
def inC (n k : Int) : Prop := inL n ∧ 0 ≤ k ∧ k ≤ 1000000
instance (n k) : Decidable (inC n k) := by unfold inC; infer_instance
def sPutE (least : Int) (m : Mp) (n k : Int) : Int := if inC n k then putE least m n k else 2
def sPutV (least : Int) (m : Mp) (n k : Int) : Mp := if sPutE least m n k = 0 then putV least m n k else m
theorem sPut_no {least n k : Int} {m : Mp} (h : ¬ inC n k) : sPutE least m n k = 2 ∧ sPutV least m n k = m := by
  have e : sPutE least m n k = 2 := if_neg h
  exact ⟨e, if_neg (by rw [e]; decide)⟩
theorem sPut_ok {least n k : Int} {m : Mp} (h : inC n k) (h2 : putE least m n k = 0) : sPutE least m n k = 0 ∧ sPutV least m n k = putV least m n k := by
  have e : sPutE least m n k = 0 := (if_pos h).trans h2
  exact ⟨e, if_pos e⟩
theorem sPut_bad {least n k : Int} {m : Mp} (h : inC n k) (h2 : ¬ putE least m n k = 0) : sPutE least m n k = putE least m n k ∧ sPutV least m n k = m := by
  have e : sPutE least m n k = putE least m n k := if_pos h
  exact ⟨e, if_neg (by rw [e]; exact h2)⟩
def sTkE (least : Int) (m : Mp) (n : Int) : Int := if inL n then tkE least m n else 2
def sTkB (least : Int) (m : Mp) (n : Int) : Int := if sTkE least m n = 0 then tkB least m n else 0
def sTkV (least : Int) (m : Mp) (n : Int) : Mp := if sTkE least m n = 0 then tkV least m n else m
theorem sTk_no {least n : Int} {m : Mp} (h : ¬ inL n) : sTkE least m n = 2 ∧ sTkB least m n = 0 ∧ sTkV least m n = m := by
  have e : sTkE least m n = 2 := if_neg h
  exact ⟨e, if_neg (by rw [e]; decide), if_neg (by rw [e]; decide)⟩
theorem sTk_ok {least n : Int} {m : Mp} (h : inL n) (h2 : tkE least m n = 0) : sTkE least m n = 0 ∧ sTkB least m n = tkB least m n ∧ sTkV least m n = tkV least m n := by
  have e : sTkE least m n = 0 := (if_pos h).trans h2
  exact ⟨e, if_pos e, if_pos e⟩
theorem sTk_bad {least n : Int} {m : Mp} (h : inL n) (h2 : ¬ tkE least m n = 0) : sTkE least m n = tkE least m n ∧ sTkB least m n = 0 ∧ sTkV least m n = m := by
  have e : sTkE least m n = tkE least m n := if_pos h
  exact ⟨e, if_neg (by rw [e]; exact h2), if_neg (by rw [e]; exact h2)⟩
theorem sPut_wf {least n k : Int} {m : Mp} (h : WfM least m) : WfM least (sPutV least m n k) := by
  by_cases hc : inC n k
  · by_cases h2 : putE least m n k = 0
    · rw [(sPut_ok hc h2).2]; exact put_wf h hc.1 hc.2.1
    · rw [(sPut_bad hc h2).2]; exact h
  · rw [(sPut_no hc).2]; exact h
theorem sTk_wf {least n : Int} {m : Mp} (h : WfM least m) : WfM least (sTkV least m n) := by
  by_cases hc : inL n
  · by_cases h2 : tkE least m n = 0
    · rw [(sTk_ok hc h2).2.2]; exact tk_wf h hc
    · rw [(sTk_bad hc h2).2.2]; exact h
  · rw [(sTk_no hc).2.2]; exact h

theorem am_in45 : (Try.prog.info? 45).isSome = true := by kernel_rfl
theorem newY_fun (least : Int) (h : inL least) : Fun Try.prog 10 [.lit (.int .i64 least)] (Ret (.adr 0 0 0) [(0, ⟨false, 47, 2, [[.lit (.int .i64 least), .shm 3 (([]).map (rowK (Value.int .i64) (Value.int .i64)))]], true⟩)]) := by
  obtain ⟨h1, h2⟩ := h
  refine Fun.of (nt := 12) (rs := [.tmp 2]) Try.func10 rfl rfl rfl rfl rfl ?_
  refine Ev.sr fun K hK => S.o q.as (S.end (hK _ ?_))
  clear hK K
  refine Ev.seq ?_
  refine Ev.sr fun K hK => S.o q.mv (S.o q.lss (S.bd q.mv (fun c1 => ?_) (fun c1 => ?_)))
  · first
  | (first | omega | contradiction)
  | refine S.sk (S.sk (S.o q.pt (S.end (hK _ ?_))))
    clear hK K
    refine Ev.ct ?_
    exfalso; omega
  · first
  | (first | omega | contradiction)
  | refine S.o q.mv (S.o q.gtr (S.o q.pf (S.end (hK _ ?_))))
    clear hK K
    refine Ev.cd (fun c2 => ?_) (fun c2 => ?_)
    · first
    | (first | omega | contradiction)
    | exfalso; omega
    · first
    | (first | omega | contradiction)
    | refine Ev.skip ?_
      show Ev _ _ _ _
      refine Ev.sr fun K hK => S.o q.mv (S.o (q.bd [_, _] am_ze47 am_pl47) (S.nn (q.bx [_, _] true) ?_))
      refine SeqL.weaken (Wk.nmv (sz' := 3) 0 1 []) ?_
      refine S.o q.as (S.end (hK _ ?_))
      clear hK K
      refine Ev.ret ?_
      refine Ev.retg [0] (res_t res_n) ?_
      refine ⟨?_, ?_⟩
      all_goals first | rfl | (simp; done)
theorem newN_fun (least : Int) (h : ¬ inL least) : Fun Try.prog 10 [.lit (.int .i64 least)] (Ret (.lit (.pointer none)) []) := by
  have h1 : ¬ (1 ≤ least ∧ least ≤ 1048576) := h
  refine Fun.of (nt := 12) (rs := [.tmp 2]) Try.func10 rfl rfl rfl rfl rfl ?_
  refine Ev.sr fun K hK => S.o q.as (S.end (hK _ ?_))
  clear hK K
  refine Ev.seq ?_
  refine Ev.sr fun K hK => S.o q.mv (S.o q.lss (S.bd q.mv (fun c1 => ?_) (fun c1 => ?_)))
  · first
  | (first | omega | contradiction)
  | refine S.sk (S.sk (S.o q.pt (S.end (hK _ ?_))))
    clear hK K
    refine Ev.ct ?_
    refine Ev.sr fun K hK => S.o q.as (S.end (hK _ ?_))
    clear hK K
    refine Ev.ret ?_
    refine Ev.ret1 ?_
    refine ⟨?_, rfl⟩
    rfl
  · first
  | (first | omega | contradiction)
  | refine S.o q.mv (S.o q.gtr (S.o q.pf (S.end (hK _ ?_))))
    clear hK K
    refine Ev.cd (fun c2 => ?_) (fun c2 => ?_)
    · first
    | (first | omega | contradiction)
    | refine Ev.sr fun K hK => S.o q.as (S.end (hK _ ?_))
      clear hK K
      refine Ev.ret ?_
      refine Ev.ret1 ?_
      refine ⟨?_, rfl⟩
      rfl
    · first
    | (first | omega | contradiction)
    | refine Ev.skip ?_
      show Ev _ _ _ _
      exfalso; omega
theorem sPutR (least n k : Int) (m : Mp) (hw : WfM least m) : FunR Try.prog 16 [.adr 0 0 0, .lit (.int .i64 n), .lit (.int .i64 k)] [(0, ⟨false, 47, 2, [[.lit (.int .i64 least), .shm 3 ((m).map (rowK (Value.int .i64) (Value.int .i64)))]], true⟩)] 1 (Ret (.lit (.int .i64 (sPutE least m n k))) [(0, ⟨false, 47, 2, [[.lit (.int .i64 least), .shm 3 ((sPutV least m n k).map (rowK (Value.int .i64) (Value.int .i64)))]], true⟩)]) := by
  refine FunR.of (nt := 45) (rs := [.tmp 6]) Try.func16 rfl rfl rfl rfl rfl ?_
  refine Ev.sr fun K hK => S.o q.as (S.end (hK _ ?_))
  clear hK K
  refine Ev.seq ?_
  refine Ev.block ?_
  refine Ev.sr fun K hK => S.o q.mv (S.peqa (by kernel_rfl : Try.prog.underlying 25 = some (.pointer 47)) (h := S.o q.as (S.end (hK _ ?_))))
  clear hK K
  refine Ev.cf ?_
  refine Ev.sr fun K hK => S.o q.mv (S.c0 (hF := olen_fun _) (h := S.o q.not (S.bn q.mv (fun c1 => ?_) (fun c1 => ?_))))
  · first
  | (first | omega | contradiction)
  | refine S.sk (S.sk (S.o q.pt (S.o q.mv (S.sk (S.sk (S.o q.pt (S.o q.as (S.end (hK _ ?_)))))))))
    clear hK K
    refine Ev.ct ?_
    rw [(sPut_no (show ¬ inC n k by unfold inC inL; omega)).1, (sPut_no (show ¬ inC n k by unfold inC inL; omega)).2]
    refine Ev.sr fun K hK => S.o q.as (S.end (hK _ ?_))
    clear hK K
    refine Ev.ret ?_
    refine Ev.rr1 [0] (keepR_c (h := keepR_n)) leads1 ?_
    refine ⟨?_, ?_⟩
    all_goals first | rfl | (congr 2 <;> omega)
  · first
  | (first | omega | contradiction)
  | refine S.o q.mv (S.o q.lss (S.o q.pf (S.bd q.mv (fun c2 => ?_) (fun c2 => ?_))))
    · first
    | (first | omega | contradiction)
    | refine S.sk (S.sk (S.o q.pt (S.o q.as (S.end (hK _ ?_)))))
      clear hK K
      refine Ev.ct ?_
      rw [(sPut_no (show ¬ inC n k by unfold inC inL; omega)).1, (sPut_no (show ¬ inC n k by unfold inC inL; omega)).2]
      refine Ev.sr fun K hK => S.o q.as (S.end (hK _ ?_))
      clear hK K
      refine Ev.ret ?_
      refine Ev.rr1 [0] (keepR_c (h := keepR_n)) leads1 ?_
      refine ⟨?_, ?_⟩
      all_goals first | rfl | (congr 2 <;> omega)
    · first
    | (first | omega | contradiction)
    | refine S.o q.mv (S.o q.gtr (S.o q.pf (S.o q.as (S.end (hK _ ?_)))))
      clear hK K
      refine Ev.cd (fun c3 => ?_) (fun c3 => ?_)
      · first
      | (first | omega | contradiction)
      | rw [(sPut_no (show ¬ inC n k by unfold inC inL; omega)).1, (sPut_no (show ¬ inC n k by unfold inC inL; omega)).2]
        refine Ev.sr fun K hK => S.o q.as (S.end (hK _ ?_))
        clear hK K
        refine Ev.ret ?_
        refine Ev.rr1 [0] (keepR_c (h := keepR_n)) leads1 ?_
        refine ⟨?_, ?_⟩
        all_goals first | rfl | (congr 2 <;> omega)
      · first
      | (first | omega | contradiction)
      | refine Ev.skip ?_
        show Ev _ _ _ _
        refine Ev.sm (tbs [(0, 0), (1, 1), (2, 3), (3, 7), (0, 0), (5, 16), (6, 48), (7, 112), (0, 0), (0, 0), (10, 1023), (11, 2047), (12, 4095), (12, 4095), (13, 8191), (15, 32767)]) 15 fun K hK => M.o q.mv (M.o q.nc (M.o (q.fa 1 am_fi47_1 am_cl45) (M.o (q.lv am_ag45) (M.o q.mv (M.o q.nc (M.o (q.fa 0 am_fi47_0 am_cl3) (M.o (q.lv am_ag3) (M.o q.mv (M.o q.mv (M.c0 (hF := oput_fun m least n k hw (by omega)) (h := M.o q.mv (M.o q.ex (M.o q.ex (M.o q.as (M.end [_] (h := S.o q.as (S.end (hK _ ?_))))))))))))))))))
        clear hK K
        refine Ev.seq ?_
        refine Ev.sr fun K hK => S.o q.mv (S.o q.eql (S.end (hK _ ?_)))
        clear hK K
        refine Ev.cd (fun c4 => ?_) (fun c4 => ?_)
        · first
        | (first | omega | contradiction)
        | rw [(sPut_ok (show inC n k by unfold inC inL; omega) (by omega)).1, (sPut_ok (show inC n k by unfold inC inL; omega) (by omega)).2]
          refine Ev.region_S fun K hK => S.o q.mv (S.o q.mv (S.o q.nc (S.o (q.fa 1 am_fi47_1 am_cl45) (S.sv [_, _] true [] am_in45 am_cl45 (h := S.end (hK _ ?_))))))
          clear hK K
          show Ev _ _ _ _
          first | rw [(sPut_bad (show inC n k by unfold inC inL; omega) (by omega)).1, (sPut_bad (show inC n k by unfold inC inL; omega) (by omega)).2] | skip
          refine Ev.sr fun K hK => S.o q.mv (S.o q.as (S.end (hK _ ?_)))
          clear hK K
          refine Ev.ret ?_
          refine Ev.rr1 [0] (keepR_c (h := keepR_n)) leads1 ?_
          refine ⟨?_, ?_⟩
          all_goals first | rfl | (congr 2 <;> omega)
        · first
        | (first | omega | contradiction)
        | refine Ev.skip ?_
          show Ev _ _ _ _
          first | rw [(sPut_bad (show inC n k by unfold inC inL; omega) (by omega)).1, (sPut_bad (show inC n k by unfold inC inL; omega) (by omega)).2] | skip
          refine Ev.sr fun K hK => S.o q.mv (S.o q.as (S.end (hK _ ?_)))
          clear hK K
          refine Ev.ret ?_
          refine Ev.rr1 [0] (keepR_c (h := keepR_n)) leads1 ?_
          refine ⟨?_, ?_⟩
          all_goals first | rfl | (congr 2 <;> omega)
theorem sTakeR (least n : Int) (m : Mp) (hw : WfM least m) : FunR Try.prog 14 [.adr 0 0 0, .lit (.int .i64 n)] [(0, ⟨false, 47, 2, [[.lit (.int .i64 least), .shm 3 ((m).map (rowK (Value.int .i64) (Value.int .i64)))]], true⟩)] 1 (Ret (.tup [.lit (.int .i64 (sTkB least m n)), .lit (.int .i64 (sTkE least m n))]) [(0, ⟨false, 47, 2, [[.lit (.int .i64 least), .shm 3 ((sTkV least m n).map (rowK (Value.int .i64) (Value.int .i64)))]], true⟩)]) := by
  refine FunR.of (nt := 38) (rs := [.tmp 4, .tmp 5]) Try.func14 rfl rfl rfl rfl rfl ?_
  refine Ev.sr fun K hK => S.o q.as (S.o q.as (S.end (hK _ ?_)))
  clear hK K
  refine Ev.seq ?_
  refine Ev.block ?_
  refine Ev.sr fun K hK => S.o q.mv (S.peqa (by kernel_rfl : Try.prog.underlying 25 = some (.pointer 47)) (h := S.o q.as (S.end (hK _ ?_))))
  clear hK K
  refine Ev.cf ?_
  refine Ev.sr fun K hK => S.o q.mv (S.c0 (hF := olen_fun _) (h := S.o q.not (S.o q.as (S.end (hK _ ?_)))))
  clear hK K
  refine Ev.cn (fun c1 => ?_) (fun c1 => ?_)
  · first
  | (first | omega | contradiction)
  | rw [(sTk_no (show ¬ inL n by unfold inL; omega)).1, (sTk_no (show ¬ inL n by unfold inL; omega)).2.1, (sTk_no (show ¬ inL n by unfold inL; omega)).2.2]
    refine Ev.sr fun K hK => S.o q.as (S.o q.as (S.end (hK _ ?_)))
    clear hK K
    refine Ev.ret ?_
    refine Ev.rr2 [0] (keepR_c (h := keepR_n)) leads1 ?_
    refine ⟨?_, ?_⟩
    all_goals first | rfl | (congr 2 <;> omega)
  · first
  | (first | omega | contradiction)
  | refine Ev.skip ?_
    show Ev _ _ _ _
    refine Ev.sm (tbs [(0, 0), (1, 1), (2, 3), (3, 7), (0, 0), (5, 16), (6, 48), (7, 112), (0, 0), (9, 511), (10, 1023), (11, 2047), (11, 2047), (11, 2047), (12, 4095), (15, 24575), (16, 65535)]) 16 fun K hK => M.o q.mv (M.o q.nc (M.o (q.fa 1 am_fi47_1 am_cl45) (M.o (q.lv am_ag45) (M.o q.mv (M.o q.nc (M.o (q.fa 0 am_fi47_0 am_cl3) (M.o (q.lv am_ag3) (M.o q.mv (M.c0 (hF := otake_fun m least n hw (by omega)) (h := M.o q.mv (M.o q.ex (M.o q.ex (M.o q.ex (M.o q.as (M.o q.as (M.end [_] (h := S.o q.as (S.end (hK _ ?_)))))))))))))))))))
    clear hK K
    refine Ev.seq ?_
    refine Ev.sr fun K hK => S.o q.mv (S.o q.neq (S.end (hK _ ?_)))
    clear hK K
    refine Ev.cn (fun c2 => ?_) (fun c2 => ?_)
    · first
    | (first | omega | contradiction)
    | rw [(sTk_bad (show inL n by unfold inL; omega) (by omega)).1, (sTk_bad (show inL n by unfold inL; omega) (by omega)).2.1, (sTk_bad (show inL n by unfold inL; omega) (by omega)).2.2]
      refine Ev.sr fun K hK => S.o q.mv (S.o q.as (S.o q.as (S.end (hK _ ?_))))
      clear hK K
      refine Ev.ret ?_
      refine Ev.rr2 [0] (keepR_c (h := keepR_n)) leads1 ?_
      refine ⟨?_, ?_⟩
      all_goals first | rfl | (congr 2 <;> omega)
    · first
    | (first | omega | contradiction)
    | refine Ev.skip ?_
      show Ev _ _ _ _
      rw [(sTk_ok (show inL n by unfold inL; omega) (by omega)).1, (sTk_ok (show inL n by unfold inL; omega) (by omega)).2.1, (sTk_ok (show inL n by unfold inL; omega) (by omega)).2.2]
      refine Ev.sr fun K hK => S.o q.mv (S.o q.mv (S.o q.nc (S.o (q.fa 1 am_fi47_1 am_cl45) (S.sv [_, _] true [] am_in45 am_cl45 (h := S.end (hK _ ?_))))))
      clear hK K
      refine Ev.sr fun K hK => S.o q.mv (S.o q.as (S.o q.as (S.end (hK _ ?_))))
      clear hK K
      refine Ev.ret ?_
      refine Ev.rr2 [0] (keepR_c (h := keepR_n)) leads1 ?_
      refine ⟨?_, ?_⟩
      all_goals first | rfl | (congr 2 <;> omega)
theorem sListR (least : Int) (m : Mp) (hw : WfM least m) : FunR Try.prog 17 [.adr 0 0 0] [(0, ⟨false, 47, 2, [[.lit (.int .i64 least), .shm 3 ((m).map (rowK (Value.int .i64) (Value.int .i64)))]], true⟩)] 1 (Ret (.sh 2 ((lstV m).map pairC)) [(0, ⟨false, 47, 2, [[.lit (.int .i64 least), .shm 3 ((m).map (rowK (Value.int .i64) (Value.int .i64)))]], true⟩)]) := by
  have hml := hw.len
  have hdl : (dkeys m).length = m.length := by rw [(dkeys_perm m).length_eq, List.length_map]
  obtain ⟨V, hV⟩ : ∃ V : Mp → List Int → Mp, V = fun m l => l.map fun n => (n, cntM m n) := ⟨_, rfl⟩
  have hV0 : V m [] = [] := by rw [hV]; rfl
  have hVs : ∀ l x, V m (l ++ [x]) = V m l ++ [(x, cntM m x)] := fun l x => by rw [hV]; simp
  have hVl : ∀ l, (V m l).length = l.length := fun l => by rw [hV]; simp
  have hVe : V m (dkeys m) = lstV m := by rw [hV]; rfl
  refine FunR.of (nt := 32) (rs := [.tmp 2]) Try.func17 rfl rfl rfl rfl rfl ?_
  refine Ev.sr fun K hK => S.o q.as (S.end (hK _ ?_))
  clear hK K
  refine Ev.seq ?_
  refine Ev.sr fun K hK => S.o q.mv (S.peqa (by kernel_rfl : Try.prog.underlying 25 = some (.pointer 47)) (h := S.end (hK _ ?_)))
  clear hK K
  refine Ev.cf ?_
  refine Ev.skip ?_
  show Ev _ _ _ _
  refine Ev.sr fun K hK => S.o q.as (S.end (hK _ ?_))
  clear hK K
  refine Ev.seq ?_
  refine Ev.sr fun K hK => S.o q.mv (S.o q.nc (S.o (q.fa 1 am_fi47_1 am_cl45) (S.o (q.lv am_ag45) (S.c1f (hF := keysM_fun m) (h := S.cR [1] 3 [_, _, _] (hob := (keep_c (he := rfl) (h := keep_n))) (hF := sortedF2_fun m (by omega) hw.wf) (hn' := belowL rfl rfl) (h := ?_))))))
  refine SeqL.weaken (Wk.frz 13 [_, _]) ?_
  refine S.o (q.lens am_el70) (S.o q.mv (S.end (hK _ ?_)))
  clear hK K
  refine Ev.block ?_
  refine Ev.weaken (Wk.nown pairC 3 52 2) ?_
  refine Ev.loopU (ι := {p : List (Int) × List (Int) // p.1 ++ p.2 = (dkeys m) ∧ True}) [0, 3] [0, 2, 13, 14] (fun ⟨(pre, suf), _⟩ => [(15, .lit (.int .i64 ((pre.length : Int)))), (3, .als 1 0 (V m pre).length)]) (fun ⟨(pre, suf), _⟩ => [(0, ⟨false, 47, 2, [[.lit (.int .i64 least), .shm 3 ((m).map (rowK (Value.int .i64) (Value.int .i64)))]], true⟩), (1, ⟨true, 52, 2, (V m pre).map pairC, true⟩)]) (fun ⟨(pre, suf), _⟩ => suf.length) ⟨([], (dkeys m)), rfl, trivial⟩ (.c (.c (.c (.c .n)))) (keep_c (he := rfl) (h := (keep_c (he := (by first | rfl | (rw [hVs]; done) | (rw [hV0]; done) | (rw [hVs] <;> rfl) | (rw [hV0] <;> rfl))) (h := keep_n)))) (slots_c (he := (by first | rfl | (congr 2; simp; done))) (h := (slots_c (he := (by first | rfl | (rw [hVs]; done) | (rw [hV0]; done) | (rw [hVs] <;> rfl) | (rw [hV0] <;> rfl))) (h := trivial)))) ?_
  rintro ⟨⟨pre, suf⟩, hp, hinv⟩ R0 hR0
  dsimp only [List.cons_append, List.nil_append, List.length_cons, List.length_nil]
  simp only at hp hinv
  have hpl : pre.length + suf.length = ((dkeys m)).length := by rw [← hp, List.length_append]
  rcases suf with _ | ⟨s, suf⟩
  · rw [List.append_nil] at hp; simp only [List.length_nil] at hpl
    subst hp
    refine Ev.sr fun K hK => S.o q.lss (S.end (hK _ ?_))
    clear hK K
    refine Ev.ud (fun c1 => ?_) (fun c1 => ?_)
    · first | omega | contradiction | (exfalso; simp at *; done)
    · first
    | (first | omega | contradiction)
    | refine Ev.exit ?_
      refine hR0 _ _ ?_
      show Ev _ _ _ _
      refine Ev.sr fun K hK => S.o q.mv (S.o q.as (S.end (hK _ ?_)))
      clear hK K
      refine Ev.weaken (Wk.frz 2 [_]) ?_
      refine Ev.ret ?_
      refine Ev.rr1 [0] (keepR_c (h := keepR_n)) leads1 ?_
      refine ⟨?_, ?_⟩
      all_goals first | rfl | (rw [hVe]; done) | (rw [hVe]; rfl)
  · simp only [List.length_cons] at hpl
    have hidx : (dkeys m)[pre.length]? = some s := by rw [← hp]; simp
    have hvl := hVl pre
    refine Ev.sr fun K hK => S.o q.lss (S.end (hK _ ?_))
    clear hK K
    refine Ev.ud (fun c2 => ?_) (fun c2 => ?_)
    · first
    | (first | omega | contradiction)
    | refine Ev.seq ?_
      refine Ev.block ?_
      refine Ev.sr fun K hK => S.o (q.ix am_el70 am_cl3 (hl := (by first | exact ati hidx (by omega) | exact atig (by omega)))) (S.o (q.ls am_ag3) (S.o q.as (S.end (hK _ ?_))))
      clear hK K
      refine Ev.region_S fun K hK => S.o q.mv (S.o q.mv (S.o q.mv (S.o q.nc (S.o (q.fa 1 am_fi47_1 am_cl45) (S.o (q.lv am_ag45) (S.o q.mv (S.o (q.lks (vv := (Value.int .i64)) klI am_mt45) (S.o (q.bd [_, _] am_ze52 am_pl52) (S.nn (q.bs [[_, _]] true am_el28 am_ze52 am_cl52) (S.ap' [_, _] am_el28 am_ze52 am_cl52 am_by52 (hh := head_own') (hr := (rows_lit [(s, cntM m s)])) (h := S.o q.as (S.end (hK _ ?_)))))))))))))
      clear hK K
      show Ev _ _ _ _
      refine Ev.region_S fun K hK => S.o q.add (S.o q.mv (S.end (hK _ ?_)))
      clear hK K
      refine hR0 _ _ ?_
      refine roundU [0, 3] [0, 2, 13, 14] ⟨(pre ++ [s], suf), by rw [← hp]; simp, ?_⟩ ?_ (keep_c (he := rfl) (h := (keep_c (he := (by first | rfl | (rw [hVs]; done) | (rw [hV0]; done) | (rw [hVs] <;> rfl) | (rw [hV0] <;> rfl))) (h := keep_n)))) (slots_c (he := (by first | rfl | (congr 2; simp; done))) (h := (slots_c (he := (by first | rfl | (rw [hVs]; done) | (rw [hV0]; done) | (rw [hVs] <;> rfl) | (rw [hV0] <;> rfl))) (h := trivial)))) (.c (.c (.c (.c .n))))
      trivial
      all_goals (dsimp only; simp only [List.length_cons]; omega)
    · first | omega | contradiction | (exfalso; simp at *; done)
theorem sTotalR (least : Int) (m : Mp) (hw : WfM least m) : FunR Try.prog 18 [.adr 0 0 0] [(0, ⟨false, 47, 2, [[.lit (.int .i64 least), .shm 3 ((m).map (rowK (Value.int .i64) (Value.int .i64)))]], true⟩)] 1 (Ret (.lit (.int .i64 (totP m))) [(0, ⟨false, 47, 2, [[.lit (.int .i64 least), .shm 3 ((m).map (rowK (Value.int .i64) (Value.int .i64)))]], true⟩)]) := by
  have hml := hw.len
  refine FunR.of (nt := 24) (rs := [.tmp 2]) Try.func18 rfl rfl rfl rfl rfl ?_
  refine Ev.sr fun K hK => S.o q.as (S.end (hK _ ?_))
  clear hK K
  refine Ev.seq ?_
  refine Ev.sr fun K hK => S.o q.mv (S.peqa (by kernel_rfl : Try.prog.underlying 25 = some (.pointer 47)) (h := S.end (hK _ ?_)))
  clear hK K
  refine Ev.cf ?_
  refine Ev.skip ?_
  show Ev _ _ _ _
  refine Ev.sr fun K hK => S.o q.as (S.end (hK _ ?_))
  clear hK K
  refine Ev.seq ?_
  refine Ev.sr fun K hK => S.o q.mv (S.o q.nc (S.o (q.fa 1 am_fi47_1 am_cl45) (S.o (q.lv am_ag45) (S.nn (q.rg am_mt45) (S.end (hK _ ?_))))))
  clear hK K
  refine Ev.block ?_
  refine Ev.weaken (Wk.rem0 1 [_]) ?_
  refine Ev.loopU (ι := {q : Mp × Mp // (q.1 ++ q.2).Perm m}) [0, 1] [2, 12] (fun ⟨(dn, rm), _⟩ => [(3, .lit (.int .i64 (totP dn)))]) (fun ⟨(dn, rm), _⟩ => [(0, ⟨false, 47, 2, [[.lit (.int .i64 least), .shm 3 ((m).map (rowK (Value.int .i64) (Value.int .i64)))]], true⟩), (1, ⟨false, 0, 1, [[.rem 3 [] ((rm).map (rowK (Value.int .i64) (Value.int .i64)))]], true⟩)]) (fun ⟨(dn, rm), _⟩ => rm.length) ⟨([], m), List.Perm.refl _⟩ (.c (.c .n)) (keep_c (he := rfl) (h := (keep_c (he := (by first | rfl | (simp; done))) (h := keep_n)))) (slots_c (he := (by first | rfl | (rw [totP_snoc]; done))) (h := trivial)) ?_
  rintro ⟨⟨dn, rm⟩, hpm⟩ R0 hR0
  dsimp only [List.cons_append, List.nil_append, List.length_cons, List.length_nil]
  simp only at hpm
  have hdl := hpm.length_eq
  rw [List.length_append] at hdl
  obtain ⟨t1, t2⟩ := totP_bd dn (fun p hp => (hw.ok p (hpm.subset (by simp [hp]))).1)
  refine Ev.sr fun K hK => ?_
  refine S.nx (kv := (Value.int .i64)) (vv := (Value.int .i64)) [_] (h0 := ?_) (h1 := ?_)
  · intro hl1
    refine S.o q.ex (S.end (hK _ ?_))
    clear hK K
    refine Ev.uf ?_
    refine Ev.exit ?_
    refine hR0 _ _ ?_
    show Ev _ _ _ _
    have hrm : rm = [] := by assumption
    subst hrm
    rw [List.append_nil] at hpm
    rw [totP_perm hpm]
    refine Ev.sr fun K hK => S.o q.mv (S.o q.as (S.end (hK _ ?_)))
    clear hK K
    refine Ev.ret ?_
    refine Ev.rr1 [0] (keepR_c (h := keepR_n)) leads1 ?_
    refine ⟨?_, ?_⟩
    all_goals rfl
  · intro l1 pq l2 hlq
    have hpn := perm_next hpm hlq
    have hlm : (l1 ++ l2).length < rm.length := by rw [hlq]; simp
    have hpo := (hw.ok pq (hpm.subset (by rw [hlq]; simp))).1
    obtain ⟨k1, k2, k3, k4⟩ := hpo
    have hmul1 := Int.mul_nonneg (show 0 ≤ pq.1 by omega) (show 0 ≤ pq.2 by omega)
    have hmul2 : pq.1 * pq.2 ≤ 1048576 * 1000000 := Int.mul_le_mul k2 k4 (by omega) (by decide)
    refine S.o q.ex (S.end (hK _ ?_))
    clear hK K
    refine Ev.ut ?_
    refine Ev.block ?_
    refine Ev.sr fun K hK => S.o (q.en (kv := (Value.int .i64)) (vv := (Value.int .i64)) (l1 := [])) (S.o q.ex (S.o q.ex (S.o q.as (S.o q.as (S.end (hK _ ?_))))))
    clear hK K
    refine Ev.region_S fun K hK => S.o q.mv (S.o q.mv (S.o q.mv (S.o q.mul (S.o q.add (S.o q.as (S.end (hK _ ?_)))))))
    clear hK K
    refine hR0 _ _ ?_
    refine roundW (Wk.rem0 1 [_]) ?_
    refine roundU [0, 1] [2, 12] ⟨(dn ++ [pq], l1 ++ l2), hpn⟩ ?_ (keep_c (he := rfl) (h := (keep_c (he := (by first | rfl | (simp; done))) (h := keep_n)))) (slots_c (he := (by first | rfl | (rw [totP_snoc]; done))) (h := trivial)) (.c (.c .n))
    skip
    all_goals (dsimp only; omega)
end Go.Proofs.Ytaggnajjmopobaa

namespace Go.Proofs.Ytaggnajjmopobaa
open Go Go.AM
set_option linter.unusedSimpArgs false
set_option linter.unusedVariables false
set_option maxRecDepth 100000
set_option maxHeartbeats 2000000

/-! ## Serving an order, plain -/
structure Sv where
  m : Mp
  left : Int
  e : Int
def stS (least n : Int) (s : Sv) : Sv := if s.e = 0 then (if tkE least s.m n = 0 then ⟨tkV least s.m n, s.left, 0⟩ else if tkE least s.m n = 12 then ⟨s.m, s.left + 1, 0⟩ else ⟨s.m, s.left, tkE least s.m n⟩) else s
def itS (least n : Int) (s : Sv) : Nat → Sv
  | 0 => s
  | i + 1 => stS least n (itS least n s i)
theorem itS_stay {least n : Int} {s : Sv} {i : Nat} (h : ¬ (itS least n s i).e = 0) : ∀ j, itS least n s (i + j) = itS least n s i
  | 0 => rfl
  | j + 1 => by
    show stS least n (itS least n s (i + j)) = _
    rw [itS_stay h j]
    exact if_neg h
theorem it_ok {least n : Int} {s : Sv} {i : Nat} (h0 : (itS least n s i).e = 0) (h : tkE least (itS least n s i).m n = 0) : itS least n s (i + 1) = ⟨tkV least (itS least n s i).m n, (itS least n s i).left, 0⟩ := (if_pos h0).trans (if_pos h)
theorem it_no {least n : Int} {s : Sv} {i : Nat} (h0 : (itS least n s i).e = 0) (h : tkE least (itS least n s i).m n = 12) : itS least n s (i + 1) = ⟨(itS least n s i).m, (itS least n s i).left + 1, 0⟩ := (if_pos h0).trans ((if_neg (by rw [h]; decide)).trans (if_pos h))
theorem it_bad {least n : Int} {s : Sv} {i : Nat} (h0 : (itS least n s i).e = 0) (h : ¬ tkE least (itS least n s i).m n = 0) (h2 : ¬ tkE least (itS least n s i).m n = 12) : (itS least n s (i + 1)).e = tkE least (itS least n s i).m n := by
  have e : itS least n s (i + 1) = ⟨(itS least n s i).m, (itS least n s i).left, tkE least (itS least n s i).m n⟩ := (if_pos h0).trans ((if_neg h).trans (if_neg h2))
  rw [e]
theorem itS_good {least n : Int} {m : Mp} (hw : WfM least m) (hn : inL n) : ∀ i : Nat, WfM least (itS least n ⟨m, 0, 0⟩ i).m ∧ 0 ≤ (itS least n ⟨m, 0, 0⟩ i).left ∧ (itS least n ⟨m, 0, 0⟩ i).left ≤ i
  | 0 => ⟨hw, Int.le_refl _, Int.le_refl _⟩
  | i + 1 => by
    obtain ⟨h1, h2, h3⟩ := itS_good hw hn i
    by_cases h0 : (itS least n ⟨m, 0, 0⟩ i).e = 0
    · by_cases g1 : tkE least (itS least n ⟨m, 0, 0⟩ i).m n = 0
      · rw [it_ok h0 g1]
        exact ⟨tk_wf h1 hn, h2, by simp only; omega⟩
      · by_cases g2 : tkE least (itS least n ⟨m, 0, 0⟩ i).m n = 12
        · rw [it_no h0 g2]
          exact ⟨h1, by simp only; omega, by simp only; omega⟩
        · have e : itS least n ⟨m, 0, 0⟩ (i + 1) = ⟨(itS least n ⟨m, 0, 0⟩ i).m, (itS least n ⟨m, 0, 0⟩ i).left, tkE least (itS least n ⟨m, 0, 0⟩ i).m n⟩ := (if_pos h0).trans ((if_neg g1).trans (if_neg g2))
          rw [e]
          exact ⟨h1, h2, by simp only; omega⟩
    · have e : itS least n ⟨m, 0, 0⟩ (i + 1) = itS least n ⟨m, 0, 0⟩ i := itS_stay h0 1
      rw [e]
      exact ⟨h1, h2, by omega⟩
structure So where
  m : Mp
  out : Mp
  e : Int
def grp (least : Int) (m : Mp) (p : Int × Int) : Sv := itS least p.1 ⟨m, 0, 0⟩ p.2.toNat
def addO (o : Mp) (n k : Int) : Mp := if k > 0 then o ++ [(n, k)] else o
def svO (least : Int) (s : So) (p : Int × Int) : So := if s.e = 0 then (if (grp least s.m p).e = 0 then ⟨(grp least s.m p).m, addO s.out p.1 (grp least s.m p).left, 0⟩ else ⟨s.m, [], (grp least s.m p).e⟩) else s
def svA (least : Int) (m : Mp) (l : Mp) : So := l.foldl (svO least) ⟨m, [], 0⟩
theorem svA_snoc (least : Int) (m l : Mp) (p : Int × Int) : svA least m (l ++ [p]) = svO least (svA least m l) p := by rw [svA, List.foldl_append]; rfl
theorem sv_ok {least : Int} {m l : Mp} {p : Int × Int} (h0 : (svA least m l).e = 0) (h : (grp least (svA least m l).m p).e = 0) : svA least m (l ++ [p]) = ⟨(grp least (svA least m l).m p).m, addO (svA least m l).out p.1 (grp least (svA least m l).m p).left, 0⟩ := by
  rw [svA_snoc]; exact (if_pos h0).trans (if_pos h)
theorem sv_bad {least : Int} {m l : Mp} {p : Int × Int} (h0 : (svA least m l).e = 0) (h : ¬ (grp least (svA least m l).m p).e = 0) : (svA least m (l ++ [p])).e = (grp least (svA least m l).m p).e := by
  have e : svA least m (l ++ [p]) = ⟨(svA least m l).m, [], (grp least (svA least m l).m p).e⟩ := by rw [svA_snoc]; exact (if_pos h0).trans (if_neg h)
  rw [e]
theorem svO_stay {least : Int} {s : So} (h : ¬ s.e = 0) : ∀ l : Mp, l.foldl (svO least) s = s
  | [] => rfl
  | p :: l => by
    have e : svO least s p = s := if_neg h
    rw [List.foldl_cons, e, svO_stay h l]
theorem svA_stay {least : Int} {m pre : Mp} (h : ¬ (svA least m pre).e = 0) (suf : Mp) : svA least m (pre ++ suf) = svA least m pre := by
  rw [svA, List.foldl_append]; exact svO_stay h suf
theorem svA_good {least : Int} {m : Mp} (hw : WfM least m) : ∀ l : Mp, (∀ p ∈ l, okPc p) → WfM least (svA least m l).m ∧ (svA least m l).out.length ≤ l.length := by
  refine snoc_ind (fun _ => ⟨hw, Nat.le_refl _⟩) (fun l s ih h => ?_)
  obtain ⟨h1, h2⟩ := ih fun p hp => h p (by simp [hp])
  have hs := h s (by simp)
  have hg := itS_good h1 (show inL s.1 from ⟨hs.1, hs.2.1⟩) s.2.toNat
  rw [svA_snoc, svO]
  split
  · split
    · refine ⟨hg.1, ?_⟩
      show (addO _ _ _).length ≤ _
      unfold addO
      split <;> simp <;> omega
    · exact ⟨h1, Nat.zero_le _⟩
  · exact ⟨h1, by simp; omega⟩
def sSvE (least : Int) (m l : Mp) : Int := if okOrd l then (if numP l ≤ 1000 then (if shG l then (svA least m (skP l)).e else 5) else 4) else 1
def sSvV (least : Int) (m l : Mp) : Mp := if sSvE least m l = 0 then (svA least m (skP l)).m else m
def sSvO (least : Int) (m l : Mp) : Mp := if sSvE least m l = 0 then (svA least m (skP l)).out else []
structure SvR (least : Int) (m l : Mp) (e : Int) (v o : Mp) : Prop where
  e : sSvE least m l = e
  v : sSvV least m l = v
  o : sSvO least m l = o
theorem svR_bad {least e : Int} {m l : Mp} (h : sSvE least m l = e) (h0 : ¬ e = 0) : SvR least m l e m [] := ⟨h, if_neg (by rw [h]; exact h0), if_neg (by rw [h]; exact h0)⟩
theorem svR_arg {least : Int} {m l : Mp} (h : ¬ okOrd l) : SvR least m l 1 m [] := svR_bad (if_neg h) (by decide)
theorem svR_list {least : Int} {m l : Mp} (h : okOrd l) (h2 : ¬ numP l ≤ 1000) : SvR least m l 4 m [] := svR_bad ((if_pos h).trans (if_neg h2)) (by decide)
theorem svR_short {least : Int} {m l : Mp} (h : okOrd l) (h2 : numP l ≤ 1000) (h3 : ¬ shG l) : SvR least m l 5 m [] := svR_bad ((if_pos h).trans ((if_pos h2).trans (if_neg h3))) (by decide)
theorem svR_err {least e : Int} {m l : Mp} (h : okOrd l) (h2 : numP l ≤ 1000) (h3 : shG l) (h4 : (svA least m (skP l)).e = e) (h0 : ¬ e = 0) : SvR least m l e m [] := svR_bad (((if_pos h).trans ((if_pos h2).trans (if_pos h3))).trans h4) h0
theorem svR_ok {least : Int} {m l : Mp} (h : okOrd l) (h2 : numP l ≤ 1000) (h3 : shG l) (h4 : (svA least m (skP l)).e = 0) : SvR least m l 0 (svA least m (skP l)).m (svA least m (skP l)).out := by
  have e : sSvE least m l = 0 := ((if_pos h).trans ((if_pos h2).trans (if_pos h3))).trans h4
  exact ⟨e, if_pos e, if_pos e⟩
theorem ls_cases {l : Mp} (h : okOrd l) : lsE l = if numP l ≤ 1000 then 0 else 4 := if_pos h
theorem skP_ok {l : Mp} (h : okOrd l) (h3 : shG l) : ∀ p ∈ skP l, okPc p := by
  intro p hp
  obtain ⟨h4, h5⟩ := (skP_mem h.2 p).1 hp
  obtain ⟨b, hb, e⟩ := h4
  obtain ⟨k1, k2, k3, k4⟩ := h.2 b hb
  have h7 := skCnt_pos h.2 ⟨b, hb, e⟩
  exact ⟨by omega, by omega, by omega, h3 p hp⟩
theorem sSv_wf {least : Int} {m l : Mp} (hw : WfM least m) : WfM least (sSvV least m l) := by
  by_cases h : sSvE least m l = 0
  · rw [sSvV, if_pos h]
    by_cases h1 : okOrd l
    · by_cases h2 : numP l ≤ 1000
      · by_cases h3 : shG l
        · exact (svA_good hw (skP l) (skP_ok h1 h3)).1
        · rw [(svR_short h1 h2 h3).e] at h; cases h
      · rw [(svR_list h1 h2).e] at h; cases h
    · rw [(svR_arg h1).e] at h; cases h
  · rw [sSvV, if_neg h]; exact hw

theorem sServeR (least : Int) (m l : Mp) (hw : WfM least m) (hlen : l.length ≤ 140737488355328) : FunR Try.prog 15 [.adr 0 0 0, .sh 2 (l.map pairC)] [(0, ⟨false, 47, 2, [[.lit (.int .i64 least), .shm 3 ((m).map (rowK (Value.int .i64) (Value.int .i64)))]], true⟩)] 1 (Ret (.tup [.sh 2 ((sSvO least m l).map pairC), .lit (.int .i64 (sSvE least m l))]) [(0, ⟨false, 47, 2, [[.lit (.int .i64 least), .shm 3 ((sSvV least m l).map (rowK (Value.int .i64) (Value.int .i64)))]], true⟩)]) := by
  refine FunR.of (nt := 92) (rs := [.tmp 4, .tmp 5]) Try.func15 rfl rfl rfl rfl rfl ?_
  refine Ev.sr fun K hK => S.o q.as (S.o q.as (S.end (hK _ ?_)))
  clear hK K
  refine Ev.seq ?_
  refine Ev.sr fun K hK => S.o q.mv (S.peqa (by kernel_rfl : Try.prog.underlying 25 = some (.pointer 47)) (h := S.o q.mv (S.o q.mv (S.c0 (hF := order_fun l (by omega)) (h := S.o q.not (S.o q.pf (S.end (hK _ ?_))))))))
  clear hK K
  refine Ev.cn (fun c1 => ?_) (fun c1 => ?_)
  · first
  | (first | omega | contradiction)
  | have hR := svR_arg (least := least) (m := m) ‹¬ okOrd l›
    rw [hR.e, hR.v, hR.o]
    refine Ev.sr fun K hK => S.o q.as (S.o q.as (S.end (hK _ ?_)))
    clear hK K
    refine Ev.weaken (Wk.nsh pairC 4 2) ?_
    refine Ev.ret ?_
    refine Ev.rr2 [0] (keepR_c (h := keepR_n)) leads1 ?_
    refine ⟨?_, ?_⟩
    all_goals first | rfl | (rw [hR.e, hR.o] <;> rfl) | (rw [hR.v] <;> rfl) | (simp; done)
  · first
  | (first | omega | contradiction)
  | refine Ev.skip ?_
    show Ev _ _ _ _
    refine Ev.seq ?_
    have hok : okOrd l := ‹_›
    have hll := hok.1
    have hle := ls_cases hok
    refine Ev.sr fun K hK => S.o q.mv (S.c0 (hF := stList_fun l (by omega)) (h := S.o q.mv (S.o q.ex (S.o q.ex (S.o q.as (S.o q.as (S.end (hK _ ?_))))))))
    clear hK K
    refine Ev.sr fun K hK => S.o q.mv (S.o q.neq (S.end (hK _ ?_)))
    clear hK K
    refine Ev.cn (fun c2 => ?_) (fun c2 => ?_)
    · first
    | (first | omega | contradiction)
    | have hnm : ¬ numP l ≤ 1000 := fun h => by rw [if_pos h] at hle; omega
      have hR := svR_list (least := least) (m := m) hok hnm
      rw [hR.e, hR.v, hR.o]
      have hle4 : lsE l = 4 := by rw [hle, if_neg hnm]
      rw [hle4]
      refine Ev.sr fun K hK => S.o q.mv (S.o q.as (S.o q.as (S.end (hK _ ?_))))
      clear hK K
      refine Ev.weaken (Wk.nsh pairC 4 2) ?_
      refine Ev.ret ?_
      refine Ev.rr2 [0] (keepR_c (h := keepR_n)) leads1 ?_
      refine ⟨?_, ?_⟩
      all_goals first | rfl | (rw [hR.e, hR.o] <;> rfl) | (rw [hR.v] <;> rfl) | (simp; done)
    · first
    | (first | omega | contradiction)
    | refine Ev.skip ?_
      show Ev _ _ _ _
      have hnm : numP l ≤ 1000 := Classical.byContradiction fun h => by rw [if_neg h] at hle; omega
      have hshe : shE l = if shG l then 0 else 5 := rfl
      refine Ev.sr fun K hK => S.o q.mv (S.c0 (hF := stShort_fun l (by omega)) (h := ?_))
      rw [if_pos hok, if_pos hok]
      refine S.o q.mv (S.o q.ex (S.o q.ex (S.o q.as (S.o q.as (S.end (hK _ ?_))))))
      clear hK K
      refine Ev.seq ?_
      refine Ev.sr fun K hK => S.o q.mv (S.o q.neq (S.end (hK _ ?_)))
      clear hK K
      refine Ev.cn (fun c3 => ?_) (fun c3 => ?_)
      · first
      | (first | omega | contradiction)
      | have hng : ¬ shG l := fun h => by rw [if_pos h] at hshe; omega
        have hR := svR_short (least := least) (m := m) hok hnm hng
        rw [hR.e, hR.v, hR.o]
        rw [show shE l = 5 from if_neg hng]
        refine Ev.sr fun K hK => S.o q.mv (S.o q.as (S.o q.as (S.end (hK _ ?_))))
        clear hK K
        refine Ev.weaken (Wk.nsh pairC 4 2) ?_
        refine Ev.ret ?_
        refine Ev.rr2 [0] (keepR_c (h := keepR_n)) leads1 ?_
        refine ⟨?_, ?_⟩
        all_goals first | rfl | (rw [hR.e, hR.o] <;> rfl) | (rw [hR.v] <;> rfl) | (simp; done)
      · first
      | (first | omega | contradiction)
      | refine Ev.skip ?_
        show Ev _ _ _ _
        have hgd : shG l := Classical.byContradiction fun h => by rw [if_neg h] at hshe; omega
        have hskl := skP_len hok.2
        have hsko := skP_ok hok hgd
        rw [show shV l = skP l from if_pos hgd]
        refine Ev.sr fun K hK => S.o q.mv (S.o q.nc (S.o (q.fa 1 am_fi47_1 am_cl45) (S.o (q.lv am_ag45) (S.o q.as (S.end (hK _ ?_))))))
        clear hK K
        refine Ev.sr fun K hK => S.o q.as (S.end (hK _ ?_))
        clear hK K
        refine Ev.seq ?_
        refine Ev.sr fun K hK => S.o q.mv (S.o (q.lens am_el28) (S.o q.mv (S.end (hK _ ?_))))
        clear hK K
        refine Ev.block ?_
        refine Ev.weaken (Wk.nown pairC 11 52 2) ?_
        refine Ev.loopU (ι := {q : Mp × Mp // q.1 ++ q.2 = skP l ∧ (svA least m q.1).e = 0}) [0, 1] [0, 45, 46] (fun ⟨(pre, suf), _⟩ => [(47, .lit (.int .i64 ((pre.length : Int)))), (10, .shm 3 (((svA least m pre).m).map (rowK (Value.int .i64) (Value.int .i64)))), (11, .als 1 0 ((svA least m pre).out).length)]) (fun ⟨(pre, suf), _⟩ => [(0, ⟨false, 47, 2, [[.lit (.int .i64 least), .shm 3 ((m).map (rowK (Value.int .i64) (Value.int .i64)))]], true⟩), (1, ⟨true, 52, 2, ((svA least m pre).out).map pairC, true⟩)]) (fun ⟨(pre, suf), _⟩ => suf.length) ⟨([], (skP l)), rfl, rfl⟩ (.c (.c (.c .n))) (keep_c (he := rfl) (h := (keep_c (he := (by first | rfl | (rw [hsv, hadd, if_pos (by omega)]; done) | (rw [hsv, hadd, if_neg (by omega)]; done))) (h := keep_n)))) (slots_c (he := (by first | rfl | (congr 2; simp; done))) (h := (slots_c (he := (by first | rfl | (rw [hsv]; rfl))) (h := (slots_c (he := (by first | rfl | (rw [hsv, hadd, if_pos (by omega)]; done) | (rw [hsv, hadd, if_neg (by omega)]; done))) (h := trivial)))))) ?_
        rintro ⟨⟨pre, suf⟩, hp, hinv⟩ R0 hR0
        dsimp only [List.cons_append, List.nil_append, List.length_cons, List.length_nil]
        simp only at hp hinv
        have hpl : pre.length + suf.length = ((skP l)).length := by rw [← hp, List.length_append]
        rcases suf with _ | ⟨s, suf⟩
        · rw [List.append_nil] at hp; simp only [List.length_nil] at hpl
          subst hp
          refine Ev.sr fun K hK => S.o q.lss (S.end (hK _ ?_))
          clear hK K
          refine Ev.ud (fun c4 => ?_) (fun c4 => ?_)
          · first | omega | contradiction | (exfalso; simp at *; done)
          · first
          | (first | omega | contradiction)
          | refine Ev.exit ?_
            refine hR0 _ _ ?_
            show Ev _ _ _ _
            have hR := svR_ok (least := least) (m := m) hok hnm hgd (by first | assumption | (rw [← hp]; exact hpe))
            rw [hR.e, hR.v, hR.o]
            refine Ev.sr fun K hK => S.o q.mv (S.o q.mv (S.o q.nc (S.o (q.fa 1 am_fi47_1 am_cl45) (S.sv [_, _] true [_] am_in45 am_cl45 (h := S.end (hK _ ?_))))))
            clear hK K
            refine Ev.sr fun K hK => S.o q.mv (S.o q.as (S.o q.as (S.end (hK _ ?_))))
            clear hK K
            refine Ev.weaken (Wk.frz 4 [_]) ?_
            refine Ev.ret ?_
            refine Ev.rr2 [0] (keepR_c (h := keepR_n)) leads1 ?_
            refine ⟨?_, ?_⟩
            all_goals first | rfl | (rw [hR.e, hR.o] <;> rfl) | (rw [hR.v] <;> rfl) | (simp; done)
        · simp only [List.length_cons] at hpl
          have hidx : (skP l)[pre.length]? = some s := by rw [← hp]; simp
          obtain ⟨sx, sy⟩ := s
          have hpe : (svA least m pre).e = 0 := hinv
          obtain ⟨hwp, hol⟩ := svA_good hw pre (fun p h => hsko p (by rw [← hp]; simp [h]))
          obtain ⟨g1, g2, g3, g4⟩ := hsko (sx, sy) (by rw [← hp]; simp)
          simp only at g1 g2 g3 g4
          refine Ev.sr fun K hK => S.o q.lss (S.end (hK _ ?_))
          clear hK K
          refine Ev.ud (fun c5 => ?_) (fun c5 => ?_)
          · first
          | (first | omega | contradiction)
          | refine Ev.seq ?_
            refine Ev.block ?_
            refine Ev.sr fun K hK => S.o (q.ix am_el28 am_cl52 (hl := (by first | exact ati hidx (by omega) | exact atig (by omega)))) (S.o (q.lsA [_, _] am_ag52 am_cl52) (S.nn (q.al am_ze52) (S.sv [_, _] true [_, _] am_in52 am_cl52 (h := S.end (hK _ ?_)))))
            clear hK K
            refine Ev.sr fun K hK => S.o q.as (S.end (hK _ ?_))
            clear hK K
            refine Ev.seq ?_
            refine Ev.sr fun K hK => S.o (q.fa 1 am_fi52_1 am_cl3) (S.o (q.lv am_ag3) (S.o q.mv (S.end (hK _ ?_))))
            clear hK K
            refine Ev.block ?_
            refine Ev.loopU (ι := {i : Nat // i ≤ sy.toNat ∧ (itS least sx ⟨(svA least m pre).m, 0, 0⟩ i).e = 0}) [0, 1, 2] [0, 13, 45, 46, 47, 48, 49, 50, 51, 52] (fun ⟨i, _⟩ => [(53, .lit (.int .i64 ((i : Int)))), (14, .lit (.int .i64 ((itS least sx ⟨(svA least m pre).m, 0, 0⟩ i).left))), (10, .shm 3 (((itS least sx ⟨(svA least m pre).m, 0, 0⟩ i).m).map (rowK (Value.int .i64) (Value.int .i64)))), (11, .als 1 0 ((svA least m pre).out).length)]) (fun ⟨i, _⟩ => [(0, ⟨false, 47, 2, [[.lit (.int .i64 least), .shm 3 ((m).map (rowK (Value.int .i64) (Value.int .i64)))]], true⟩), (1, ⟨true, 52, 2, ((svA least m pre).out).map pairC, true⟩), (2, ⟨false, 52, 2, [[.lit (.int .i64 (sx)), .lit (.int .i64 (sy))]], true⟩)]) (fun ⟨i, _⟩ => sy.toNat - i) ⟨0, Nat.zero_le _, rfl⟩ (.c (.c (.c (.c (.c (.c (.c (.c (.c (.c .n)))))))))) (keep_c (he := rfl) (h := (keep_c (he := (by first | rfl | (simp; done))) (h := (keep_c (he := (by first | rfl | (simp; done))) (h := keep_n)))))) (slots_c (he := (by first | rfl | (congr 2; simp; done))) (h := (slots_c (he := (by first | rfl | (rw [hst]; done))) (h := (slots_c (he := (by first | rfl | (rw [hst]; done))) (h := (slots_c (he := (by first | rfl | (simp; done) | (congr 2; omega))) (h := trivial)))))))) ?_
            rintro ⟨i, hil, hie⟩ R2 hR2
            dsimp only [List.cons_append, List.nil_append, List.length_cons, List.length_nil]
            obtain ⟨hwi, hli0, hli1⟩ := itS_good hwp (show inL sx from ⟨g1, g2⟩) i
            refine Ev.sr fun K hK => S.o q.lss (S.end (hK _ ?_))
            clear hK K
            refine Ev.ud (fun c6 => ?_) (fun c6 => ?_)
            · first
            | (first | omega | contradiction)
            | refine Ev.seq ?_
              refine Ev.block ?_
              refine Ev.sm (tbs [(0, 0), (0, 0), (2, 2), (3, 6), (4, 14), (0, 0), (6, 32), (7, 127), (8, 255), (9, 511), (9, 511), (9, 511), (10, 1023), (13, 6143), (14, 16383)]) 14 fun K hK => M.o q.mv (M.o q.mv (M.o q.nc (M.o (q.fa 0 am_fi47_0 am_cl3) (M.o (q.lv am_ag3) (M.o (q.fa 0 am_fi52_0 am_cl3) (M.o (q.lv am_ag3) (M.c0 (hF := otake_fun (itS least sx ⟨(svA least m pre).m, 0, 0⟩ i).m least sx hwi ⟨by omega, by omega⟩) (h := M.o q.mv (M.o q.ex (M.o q.ex (M.o q.ex (M.o q.as (M.o q.as (M.end [_, _, _] (h := S.o q.as (S.end (hK _ ?_)))))))))))))))))
              clear hK K
              refine Ev.sr fun K hK => S.o q.mv (S.end (hK _ ?_))
              clear hK K
              refine Ev.block ?_
              refine Ev.sr fun K hK => S.o q.eql (S.o q.as (S.end (hK _ ?_)))
              clear hK K
              refine Ev.cd (fun c7 => ?_) (fun c7 => ?_)
              · first
              | (first | omega | contradiction)
              | have hst := it_ok (least := least) (n := sx) hie (by omega)
                refine Ev.region_S fun K hK => S.o q.mv (S.o q.as (S.end (hK _ ?_)))
                clear hK K
                show Ev _ _ _ _
                refine Ev.region_S fun K hK => S.o q.add (S.o q.mv (S.end (hK _ ?_)))
                clear hK K
                refine hR2 _ _ ?_
                refine roundU [0, 1, 2] [0, 13, 45, 46, 47, 48, 49, 50, 51, 52] ⟨i + 1, by omega, by rw [hst]⟩ ?_ (keep_c (he := rfl) (h := (keep_c (he := (by first | rfl | (simp; done))) (h := (keep_c (he := (by first | rfl | (simp; done))) (h := keep_n)))))) (slots_c (he := (by first | rfl | (congr 2; simp; done))) (h := (slots_c (he := (by first | rfl | (rw [hst]; done))) (h := (slots_c (he := (by first | rfl | (rw [hst]; done))) (h := (slots_c (he := (by first | rfl | (simp; done) | (congr 2; omega))) (h := trivial)))))))) (.c (.c (.c (.c (.c (.c (.c (.c (.c (.c .n))))))))))
                skip
                all_goals (dsimp only; omega)
              · first
              | (first | omega | contradiction)
              | refine Ev.sr fun K hK => S.o q.eql (S.o q.as (S.end (hK _ ?_)))
                clear hK K
                refine Ev.cd (fun c8 => ?_) (fun c8 => ?_)
                · first
                | (first | omega | contradiction)
                | have hst := it_no (least := least) (n := sx) hie (by omega)
                  refine Ev.region_S fun K hK => S.o q.mv (S.o q.add (S.o q.as (S.end (hK _ ?_))))
                  clear hK K
                  show Ev _ _ _ _
                  refine Ev.region_S fun K hK => S.o q.add (S.o q.mv (S.end (hK _ ?_)))
                  clear hK K
                  refine hR2 _ _ ?_
                  refine roundU [0, 1, 2] [0, 13, 45, 46, 47, 48, 49, 50, 51, 52] ⟨i + 1, by omega, by rw [hst]⟩ ?_ (keep_c (he := rfl) (h := (keep_c (he := (by first | rfl | (simp; done))) (h := (keep_c (he := (by first | rfl | (simp; done))) (h := keep_n)))))) (slots_c (he := (by first | rfl | (congr 2; simp; done))) (h := (slots_c (he := (by first | rfl | (rw [hst]; done))) (h := (slots_c (he := (by first | rfl | (rw [hst]; done))) (h := (slots_c (he := (by first | rfl | (simp; done) | (congr 2; omega))) (h := trivial)))))))) (.c (.c (.c (.c (.c (.c (.c (.c (.c (.c .n))))))))))
                  skip
                  all_goals (dsimp only; omega)
                · first
                | (first | omega | contradiction)
                | have hb1 := it_bad (least := least) (n := sx) hie (by omega) (by omega)
                  have hgr : (grp least (svA least m pre).m (sx, sy)).e = tkE least (itS least sx ⟨(svA least m pre).m, 0, 0⟩ i).m sx := by
                    have h1 : (sx, sy).2.toNat = (i + 1) + (sy.toNat - (i + 1)) := by simp only; omega
                    unfold grp
                    rw [h1, itS_stay (by rw [hb1]; omega), hb1]
                  have hse := sv_bad (least := least) (m := m) (l := pre) (p := (sx, sy)) hpe (by rw [hgr]; omega)
                  have hfin : (svA least m (skP l)).e = tkE least (itS least sx ⟨(svA least m pre).m, 0, 0⟩ i).m sx := by
                    rw [← hp, show pre ++ (sx, sy) :: suf = (pre ++ [(sx, sy)]) ++ suf by simp, svA_stay (by rw [hse, hgr]; omega), hse, hgr]
                  have hR := svR_err (least := least) (m := m) hok hnm hgd hfin (by omega)
                  refine Ev.sr fun K hK => S.o q.mv (S.o q.as (S.o q.as (S.end (hK _ ?_))))
                  clear hK K
                  refine Ev.weaken (Wk.nsh pairC 4 2) ?_
                  refine Ev.ret ?_
                  refine hR2 _ _ ?_
                  refine hR0 _ _ ?_
                  refine Ev.rr2 [0] (keepR_c (h := keepR_n)) leads1 ?_
                  refine ⟨?_, ?_⟩
                  all_goals first | rfl | (rw [hR.e, hR.o] <;> rfl) | (rw [hR.v] <;> rfl) | (simp; done)
            · first
            | (first | omega | contradiction)
            | refine Ev.exit ?_
              refine hR2 _ _ ?_
              show Ev _ _ _ _
              obtain rfl : i = sy.toNat := by omega
              have hsv := sv_ok (least := least) (m := m) (l := pre) (p := (sx, sy)) hpe hie
              have hadd : addO (svA least m pre).out sx (grp least (svA least m pre).m (sx, sy)).left = if (itS least sx ⟨(svA least m pre).m, 0, 0⟩ sy.toNat).left > 0 then (svA least m pre).out ++ [(sx, (itS least sx ⟨(svA least m pre).m, 0, 0⟩ sy.toNat).left)] else (svA least m pre).out := rfl
              refine Ev.sr fun K hK => S.o q.mv (S.o q.gtr (S.end (hK _ ?_)))
              clear hK K
              refine Ev.cd (fun c9 => ?_) (fun c9 => ?_)
              · first
              | (first | omega | contradiction)
              | refine Ev.region_S fun K hK => S.o q.mv (S.o (q.fa 0 am_fi52_0 am_cl3) (S.o (q.lv am_ag3) (S.o q.mv (S.o (q.bd [_, _] am_ze52 am_pl52) (S.nn (q.bs [[_, _]] true am_el28 am_ze52 am_cl52) (S.ap' [_, _, _] am_el28 am_ze52 am_cl52 am_by52 (hh := head_own') (hr := (rows_lit [(sx, (itS least sx ⟨(svA least m pre).m, 0, 0⟩ sy.toNat).left)])) (h := S.o q.as (S.end (hK _ ?_)))))))))
                clear hK K
                show Ev _ _ _ _
                refine Ev.region_S fun K hK => S.o q.add (S.o q.mv (S.end (hK _ ?_)))
                clear hK K
                refine hR0 _ _ ?_
                refine roundU [0, 4] [0, 45, 46] ⟨(pre ++ [(sx, sy)], suf), by rw [← hp]; simp, by rw [hsv]⟩ ?_ (keep_c (he := rfl) (h := (keep_c (he := (by first | rfl | (rw [hsv, hadd, if_pos (by omega)]; done) | (rw [hsv, hadd, if_neg (by omega)]; done))) (h := keep_n)))) (slots_c (he := (by first | rfl | (congr 2; simp; done))) (h := (slots_c (he := (by first | rfl | (rw [hsv]; rfl))) (h := (slots_c (he := (by first | rfl | (rw [hsv, hadd, if_pos (by omega)]; done) | (rw [hsv, hadd, if_neg (by omega)]; done))) (h := trivial)))))) (.c (.c (.c .n)))
                skip
                all_goals (dsimp only; simp only [List.length_cons]; omega)
              · first
              | (first | omega | contradiction)
              | refine Ev.skip ?_
                show Ev _ _ _ _
                refine Ev.region_S fun K hK => S.o q.add (S.o q.mv (S.end (hK _ ?_)))
                clear hK K
                refine hR0 _ _ ?_
                refine roundU [0, 1] [0, 45, 46] ⟨(pre ++ [(sx, sy)], suf), by rw [← hp]; simp, by rw [hsv]⟩ ?_ (keep_c (he := rfl) (h := (keep_c (he := (by first | rfl | (rw [hsv, hadd, if_pos (by omega)]; done) | (rw [hsv, hadd, if_neg (by omega)]; done))) (h := keep_n)))) (slots_c (he := (by first | rfl | (congr 2; simp; done))) (h := (slots_c (he := (by first | rfl | (rw [hsv]; rfl))) (h := (slots_c (he := (by first | rfl | (rw [hsv, hadd, if_pos (by omega)]; done) | (rw [hsv, hadd, if_neg (by omega)]; done))) (h := trivial)))))) (.c (.c (.c .n)))
                skip
                all_goals (dsimp only; simp only [List.length_cons]; omega)
          · first | omega | contradiction | (exfalso; simp at *; done)
end Go.Proofs.Ytaggnajjmopobaa

namespace Go.Proofs.Ytaggnajjmopobaa
open Go Go.AM
set_option linter.unusedSimpArgs false
set_option linter.unusedVariables false
set_option maxRecDepth 100000
set_option maxHeartbeats 2000000

structure Act where
  kind : Int
  len : Int
  cnt : Int
  ord : Mp
def Act.c : Act → List AV
  | ⟨k, n, c, o⟩ => [.lit (.int .i64 k), .lit (.int .i64 n), .lit (.int .i64 c), .sh 2 (o.map pairC)]
def Act.w (x : Act) : Prop := x.ord.length ≤ 140737488355328
def fewX (x : Act) : Prop := x.ord.length ≤ 220
instance (x) : Decidable (fewX x) := by unfold fewX; infer_instance
def fewP (l : List Act) : Prop := l.length ≤ 12 ∧ ∀ x ∈ l, fewX x
instance (l) : Decidable (fewP l) := by unfold fewP; infer_instance
theorem fewC (x : Act) : AV.lit (.bool (decide (((x.ord.length : Nat) : Int) > 220))) = .lit (.bool (!decide (fewX x))) := by
  by_cases hq : x.ord.length ≤ 220
  · rw [decide_eq_false (by omega), decide_eq_true (show fewX x from hq)]
    rfl
  · rw [decide_eq_true (by omega), decide_eq_false (show ¬ fewX x from hq)]
    rfl
theorem few1_fun (x : Act) (hx : x.w) : Fun Try.prog 29 [.agg x.c] (Ret (.lit (.bool (!decide (fewX x)))) []) := by
  have hx1 : x.ord.length ≤ 140737488355328 := hx
  refine Fun.of (nt := 7) (rs := [.tmp 2]) Try.func29 rfl rfl rfl rfl rfl ?_
  refine Ev.sr fun K hK => S.nn (q.bx [_, _, _, _] true) (S.o q.as (S.end (hK _ ?_)))
  clear hK K
  refine Ev.sr fun K hK => S.o (q.fa 3 am_fi33_3 am_cl28) (S.o (q.lv am_ag28) (S.o (q.lens am_el28) (S.o q.gtr (S.o q.as (S.end (hK _ ?_))))))
  clear hK K
  refine Ev.ret ?_
  refine Ev.ret1 ?_
  refine ⟨?_, rfl⟩
  first | rfl | exact fewC x
theorem indexFuncInAct (g : FuncId) (p : Act → Bool) (l : List Act) (hg : ∀ s ∈ l, Fun Try.prog g [.agg s.c] (Ret (.lit (.bool (p s))) [])) (hlen : l.length ≤ 140737488355328) :
    Fun Try.prog 45 [.sh 4 (l.map Act.c), .fn (.func g) [] []] (Ret (.lit (.int .i64 (idxP p l 0))) []) := by
  refine Fun.of (nt := 19) (rs := [.tmp 4]) Try.func45 rfl rfl rfl rfl rfl ?_
  refine Ev.sr fun K hK => S.o q.as (S.end (hK _ ?_))
  clear hK K
  refine Ev.seq ?_
  refine Ev.sr fun K hK => S.o q.mv (S.o (q.lens am_el22) (S.o q.mv (S.end (hK _ ?_))))
  clear hK K
  refine Ev.block ?_
  refine Ev.loopU (ι := {q : List Act × List Act // q.1 ++ q.2 = l ∧ ∀ x ∈ q.1, p x = false}) [] [0, 1, 7] (fun ⟨(pre, suf), _⟩ => [(8, .lit (.int .i64 ((pre.length : Int))))]) (fun ⟨(pre, suf), _⟩ => []) (fun ⟨(pre, suf), _⟩ => suf.length) ⟨([], l), rfl, fun x hx => by simp at hx⟩ (.c (.c (.c .n))) keep_n (slots_c (he := (by first | rfl | (simp; done) | (congr 2; omega))) (h := trivial)) ?_
  rintro ⟨⟨pre, suf⟩, hp, hinv⟩ R0 hR0
  dsimp only [List.cons_append, List.nil_append, List.length_cons, List.length_nil]
  simp only at hp hinv
  have hpl : pre.length + suf.length = (l).length := by rw [← hp, List.length_append]
  rcases suf with _ | ⟨s, suf⟩
  · rw [List.append_nil] at hp; subst hp; simp only [List.length_nil] at hpl
    refine Ev.sr fun K hK => S.o q.lss (S.end (hK _ ?_))
    clear hK K
    refine Ev.ud (fun c1 => ?_) (fun c1 => ?_)
    · first | omega | contradiction | (exfalso; simp at *; done)
    · first
    | (first | omega | contradiction)
    | refine Ev.exit ?_
      refine hR0 _ _ ?_
      show Ev _ _ _ _
      refine Ev.sr fun K hK => S.o q.as (S.end (hK _ ?_))
      clear hK K
      refine Ev.ret ?_
      refine Ev.ret1 ?_
      refine ⟨?_, rfl⟩
      first | (congr 2; rw [← hp, idxP_append p pre _ 0 hinv, idxP, if_pos ‹_›]; omega) | (congr 2; rw [idxP_none p pre 0 hinv])
  · simp only [List.length_cons] at hpl
    have hidx : (l)[pre.length]? = some s := by rw [← hp]; simp
    refine Ev.sr fun K hK => S.o q.lss (S.end (hK _ ?_))
    clear hK K
    refine Ev.ud (fun c2 => ?_) (fun c2 => ?_)
    · first
    | (first | omega | contradiction)
    | refine Ev.seq ?_
      refine Ev.block ?_
      refine Ev.sr fun K hK => S.o q.mv (S.o q.as (S.end (hK _ ?_)))
      clear hK K
      refine Ev.sr fun K hK => S.o q.mv (S.o q.mv (S.o q.mv (S.o (q.ix am_el22 am_cl33 (hl := (by first | exact ati hidx (by omega) | exact atig (by omega)))) (S.o (q.lsA [_, _, _, _] am_ag33 am_cl33) (S.c0 (hF := hg s (by rw [← hp]; simp)) (h := S.end (hK _ ?_)))))))
      clear hK K
      refine Ev.c (fun c3 => ?_) (fun c3 => ?_)
      · first
      | (first | omega | contradiction)
      | refine Ev.sr fun K hK => S.o q.mv (S.o q.as (S.end (hK _ ?_)))
        clear hK K
        refine Ev.ret ?_
        refine hR0 _ _ ?_
        refine Ev.ret1 ?_
        refine ⟨?_, rfl⟩
        first | (congr 2; rw [← hp, idxP_append p pre _ 0 hinv, idxP, if_pos ‹_›]; omega) | (congr 2; rw [idxP_none p pre 0 hinv])
      · first
      | (first | omega | contradiction)
      | refine Ev.skip ?_
        show Ev _ _ _ _
        refine Ev.region_S fun K hK => S.o q.add (S.o q.mv (S.end (hK _ ?_)))
        clear hK K
        refine hR0 _ _ ?_
        refine roundU [] [0, 1, 7] ⟨(pre ++ [s], suf), by rw [← hp]; simp, ?_⟩ ?_ keep_n (slots_c (he := (by first | rfl | (simp; done) | (congr 2; omega))) (h := trivial)) (.c (.c (.c .n)))
        intro x hx; simp only [List.mem_append, List.mem_singleton] at hx; rcases hx with hx | rfl
        · exact hinv x hx
        · assumption
        all_goals (dsimp only; simp only [List.length_cons]; omega)
    · first | omega | contradiction | (exfalso; simp at *; done)
theorem containsFuncInAct (g : FuncId) (p : Act → Bool) (l : List Act) (hg : ∀ s ∈ l, Fun Try.prog g [.agg s.c] (Ret (.lit (.bool (p s))) [])) (hlen : l.length ≤ 140737488355328) :
    Fun Try.prog 28 [.sh 4 (l.map Act.c), .fn (.func g) [] []] (Ret (.lit (.bool (decide (∃ x ∈ l, p x = true)))) []) := by
  have hd : (decide (∃ x ∈ l, p x = true)) = decide (0 ≤ idxP p l 0) := by simp only [idxP_nonneg p l 0 (Int.le_refl _)]
  rw [hd]
  refine Fun.of (nt := 9) (rs := [.tmp 4]) Try.func28 rfl rfl rfl rfl rfl ?_
  refine Ev.sr fun K hK => S.o q.as (S.end (hK _ ?_))
  clear hK K
  refine Ev.sr fun K hK => S.o q.mv (S.o q.mv (S.c0 (hF := indexFuncInAct g p l hg hlen) (h := S.o q.geq (S.o q.as (S.end (hK _ ?_))))))
  clear hK K
  refine Ev.ret ?_
  refine Ev.ret1 ?_
  refine ⟨?_, rfl⟩
  rfl
theorem few_eq (l : List Act) : (!decide (∃ x ∈ l, (!decide (fewX x)) = true)) = decide (∀ x ∈ l, fewX x) := by
  by_cases h : ∀ x ∈ l, fewX x
  · rw [decide_eq_true h, decide_eq_false]
    · rfl
    · rintro ⟨x, hx, e⟩
      simp [h x hx] at e
  · rw [decide_eq_false h, decide_eq_true]
    · rfl
    · exact Classical.byContradiction fun h' => h fun x hx => Classical.byContradiction fun h2 => h' ⟨x, hx, by simp [h2]⟩
theorem fewG {l : List Act} (h : l.length ≤ 12) : AV.lit (.bool (!decide (∃ x ∈ l, (!decide (fewX x)) = true))) = .lit (.bool (decide (fewP l))) := by
  rw [few_eq]
  have : (∀ x ∈ l, fewX x) ↔ fewP l := ⟨fun h2 => ⟨h, h2⟩, fun h2 => h2.2⟩
  rw [decide_eq_decide.2 this]
theorem few_fun (l : List Act) (hlen : l.length ≤ 140737488355328) (hw : ∀ x ∈ l, x.w) : Fun Try.prog 9 [.sh 4 (l.map Act.c)] (Ret (.lit (.bool (decide (fewP l)))) []) := by
  refine Fun.of (nt := 11) (rs := [.tmp 2]) Try.func9 rfl rfl rfl rfl rfl ?_
  refine Ev.sr fun K hK => S.o q.as (S.end (hK _ ?_))
  clear hK K
  refine Ev.sr fun K hK => S.o q.mv (S.o (q.lens am_el22) (S.o q.leq (S.bd q.mv (fun c1 => ?_) (fun c1 => ?_))))
  · first
  | (first | omega | contradiction)
  | refine S.o q.mv (S.c0 (hF := containsFuncInAct _ (fun x => !decide (fewX x)) l (fun s hs => few1_fun s (hw s hs)) (by omega)) (h := S.o q.not (S.o q.pt (S.o q.as (S.end (hK _ ?_))))))
    clear hK K
    refine Ev.ret ?_
    refine Ev.ret1 ?_
    refine ⟨?_, rfl⟩
    first | rfl | exact bF (fun h => by have := h.1; omega) | exact fewG (by omega)
  · first
  | (first | omega | contradiction)
  | refine S.sk (S.sk (S.sk (S.o q.pf (S.o q.as (S.end (hK _ ?_))))))
    clear hK K
    refine Ev.ret ?_
    refine Ev.ret1 ?_
    refine ⟨?_, rfl⟩
    first | rfl | exact bF (fun h => by have := h.1; omega) | exact fewG (by omega)

def actM (least : Int) (m : Mp) (x : Act) : Mp := if x.kind = 0 then sPutV least m x.len x.cnt else if x.kind = 1 then sTkV least m x.len else sSvV least m x.ord
def madeM (least : Int) (l : List Act) : Mp := l.foldl (actM least) []
theorem madeM_snoc (least : Int) (l : List Act) (x : Act) : madeM least (l ++ [x]) = actM least (madeM least l) x := by simp [madeM, List.foldl_append]
theorem made_wf (least : Int) (l : List Act) : WfM least (madeM least l) := by
  refine snoc_ind (P := fun l => WfM least (madeM least l)) (wf_nil _) (fun l x ih => ?_) l
  rw [madeM_snoc, actM]
  split
  · exact sPut_wf ih
  · split
    · exact sTk_wf ih
    · exact sSv_wf ih
theorem ex_store : (sPutE 100 [] 300 1 = 0 ∧ sPutV 100 [] 300 1 = [(300, 1)]) ∧ (sPutE 100 [(300, 1)] 500 1 = 0 ∧ sPutV 100 [(300, 1)] 500 1 = [(300, 1), (500, 1)]) ∧
    (sTkE 100 [(300, 1), (500, 1)] 250 = 0 ∧ sTkB 100 [(300, 1), (500, 1)] 250 = 300 ∧ sTkV 100 [(300, 1), (500, 1)] 250 = [(500, 1)]) ∧
    (sTkE 100 [(500, 1)] 250 = 0 ∧ sTkB 100 [(500, 1)] 250 = 500 ∧ sTkV 100 [(500, 1)] 250 = [(250, 1)]) := by decide +kernel
theorem ex_wf : WfM 100 ([(300, 1)] : Mp) ∧ WfM 100 ([(300, 1), (500, 1)] : Mp) ∧ WfM 100 ([(500, 1)] : Mp) ∧ WfM 100 ([(250, 1)] : Mp) := by
  obtain ⟨⟨_, a⟩, ⟨_, b⟩, ⟨_, _, c⟩, ⟨_, _, d⟩⟩ := ex_store
  have h1 : WfM 100 ([(300, 1)] : Mp) := a ▸ sPut_wf (wf_nil 100)
  have h2 : WfM 100 ([(300, 1), (500, 1)] : Mp) := b ▸ sPut_wf h1
  have h3 : WfM 100 ([(500, 1)] : Mp) := c ▸ sTk_wf h2
  exact ⟨h1, h2, h3, d ▸ sTk_wf h3⟩
theorem ex_list : lstV [(250, 1)] = [(250, 1)] := List.perm_singleton.1 (lst_perm (by decide))

theorem rLen_fun (n : Int) : Fun Try.prog 11 [.lit (.int .i64 n)] (Ret (.lit (.bool (decide (inL n)))) []) := by
  have hd : (inL n) ↔ 1 ≤ n ∧ n ≤ 1048576 := Iff.rfl
  refine Fun.of (nt := 9) (rs := [.tmp 2]) Try.func11 rfl rfl rfl rfl rfl ?_
  refine Ev.sr fun K hK => S.o q.as (S.end (hK _ ?_))
  clear hK K
  refine Ev.sr fun K hK => S.o q.mv (S.o q.geq (S.bd q.mv (fun c1 => ?_) (fun c1 => ?_)))
  · first
  | (first | omega | contradiction)
  | refine S.o q.mv (S.o q.leq (S.o q.pt (S.o q.as (S.end (hK _ ?_)))))
    clear hK K
    refine Ev.ret ?_
    refine Ev.ret1 ?_
    refine ⟨?_, rfl⟩
    first | exact bF (fun h : inL n => by unfold inL at h; omega) | exact bT (show inL n by unfold inL; omega) | exact dI (by unfold inL; omega)
  · first
  | (first | omega | contradiction)
  | refine S.sk (S.sk (S.o q.pf (S.o q.as (S.end (hK _ ?_)))))
    clear hK K
    refine Ev.ret ?_
    refine Ev.ret1 ?_
    refine ⟨?_, rfl⟩
    first | exact bF (fun h : inL n => by unfold inL at h; omega) | exact bT (show inL n by unfold inL; omega) | exact dI (by unfold inL; omega)
theorem eqPc_fun (a b : List (Int × Int)) (ha : a.length ≤ 140737488355328) (hb : b.length ≤ 140737488355328) : Fun Try.prog 22 [.sh 2 (a.map pairC), .sh 2 (b.map pairC)] (Ret (.lit (.bool (decide (a = b)))) []) := by
  refine Fun.of (nt := 26) (rs := [.tmp 4]) Try.func22 rfl rfl rfl rfl rfl ?_
  refine Ev.sr fun K hK => S.o q.as (S.end (hK _ ?_))
  clear hK K
  refine Ev.seq ?_
  refine Ev.sr fun K hK => S.o q.mv (S.o (q.lens am_el28) (S.o q.mv (S.o (q.lens am_el28) (S.o q.neq (S.end (hK _ ?_))))))
  clear hK K
  refine Ev.cn (fun c1 => ?_) (fun c1 => ?_)
  · first
  | (first | omega | contradiction)
  | refine Ev.sr fun K hK => S.o q.as (S.end (hK _ ?_))
    clear hK K
    refine Ev.ret ?_
    refine Ev.ret1 ?_
    refine ⟨?_, rfl⟩
    first
     | exact bF (fun h => by subst h; omega)
     | exact bF (fun h => by subst h; rw [hidx] at hidx2; cases hidx2; simp at *)
     | exact bT (hinv.symm.trans (List.take_of_length_le (by omega)))
  · first
  | (first | omega | contradiction)
  | refine Ev.skip ?_
    show Ev _ _ _ _
    refine Ev.seq ?_
    refine Ev.sr fun K hK => S.o q.mv (S.o (q.lens am_el28) (S.o q.mv (S.end (hK _ ?_))))
    clear hK K
    refine Ev.block ?_
    refine Ev.loopU (ι := {q : List (Int × Int) × List (Int × Int) // q.1 ++ q.2 = a ∧ b.take q.1.length = q.1}) [] [0, 1, 12] (fun ⟨(pre, suf), _⟩ => [(13, .lit (.int .i64 ((pre.length : Int))))]) (fun ⟨(pre, suf), _⟩ => []) (fun ⟨(pre, suf), _⟩ => suf.length) ⟨([], a), rfl, rfl⟩ (.c (.c (.c .n))) keep_n (slots_c (he := (by first | rfl | (simp; done) | (congr 2; omega))) (h := trivial)) ?_
    rintro ⟨⟨pre, suf⟩, hp, hinv⟩ R0 hR0
    dsimp only [List.cons_append, List.nil_append, List.length_cons, List.length_nil]
    simp only at hp hinv
    have hpl : pre.length + suf.length = (a).length := by rw [← hp, List.length_append]
    rcases suf with _ | ⟨s, suf⟩
    · rw [List.append_nil] at hp; subst hp; simp only [List.length_nil] at hpl
      refine Ev.sr fun K hK => S.o q.lss (S.end (hK _ ?_))
      clear hK K
      refine Ev.ud (fun c2 => ?_) (fun c2 => ?_)
      · first
      | (first | omega | contradiction)
      | refine Ev.seq ?_
        refine Ev.block ?_
        refine Ev.sr fun K hK => S.o q.mv (S.o q.as (S.end (hK _ ?_)))
        clear hK K
        refine Ev.sm (tbs [(0, 0), (0, 0), (2, 3), (3, 7), (0, 0), (0, 0), (6, 48), (7, 112), (8, 255)]) 9 fun K hK => M.o q.mv (M.o q.mv (M.o (q.ix am_el28 am_cl52 (hl := (by first | exact atig (by omega)))) (M.o (q.lsA [_, _] am_ag52 am_cl52) (M.o q.mv (M.o q.mv (M.o (q.ix am_el28 am_cl52 (hl := (by first | exact atig (by omega)))) (M.o (q.lsA [_, _] am_ag52 am_cl52) (M.o (q.sneq am_eq52 (am_sq52 _ _ _ _)) (M.end [] (h := S.end (hK _ ?_)))))))))))
        clear hK K
        refine Ev.c (fun c3 => ?_) (fun c3 => ?_)
        · first
        | (first | omega | contradiction)
        | refine Ev.sr fun K hK => S.o q.as (S.end (hK _ ?_))
          clear hK K
          refine Ev.ret ?_
          refine hR0 _ _ ?_
          refine Ev.ret1 ?_
          refine ⟨?_, rfl⟩
          first
           | exact bF (fun h => by subst h; omega)
           | exact bF (fun h => by subst h; rw [hidx] at hidx2; cases hidx2; simp at *)
           | exact bT (hinv.symm.trans (List.take_of_length_le (by omega)))
        · first
        | (first | omega | contradiction)
        | refine Ev.skip ?_
          show Ev _ _ _ _
          refine Ev.region_S fun K hK => S.o q.add (S.o q.mv (S.end (hK _ ?_)))
          clear hK K
          refine hR0 _ _ ?_
          refine roundU [] [0, 1, 12] ⟨(pre ++ [s], suf), by rw [← hp]; simp, ?_⟩ ?_ keep_n (slots_c (he := (by first | rfl | (simp; done) | (congr 2; omega))) (h := trivial)) (.c (.c (.c .n)))
          simp only [List.length_append, List.length_cons, List.length_nil, Nat.zero_add]
          rw [List.take_add_one, hinv, hidx2]
          simp at *
          obtain ⟨x1, x2⟩ := s
          obtain ⟨y1, y2⟩ := s2
          simp_all
          all_goals (dsimp only; simp only [List.length_cons]; omega)
      · first
      | (first | omega | contradiction)
      | refine Ev.exit ?_
        refine hR0 _ _ ?_
        show Ev _ _ _ _
        refine Ev.sr fun K hK => S.o q.as (S.end (hK _ ?_))
        clear hK K
        refine Ev.ret ?_
        refine Ev.ret1 ?_
        refine ⟨?_, rfl⟩
        first
         | exact bF (fun h => by subst h; omega)
         | exact bF (fun h => by subst h; rw [hidx] at hidx2; cases hidx2; simp at *)
         | exact bT (hinv.symm.trans (List.take_of_length_le (by omega)))
    · simp only [List.length_cons] at hpl
      have hidx : (a)[pre.length]? = some s := by rw [← hp]; simp
      obtain ⟨s2, hidx2⟩ : ∃ s2, b[pre.length]? = some s2 := ⟨_, List.getElem?_eq_getElem (by omega)⟩
      refine Ev.sr fun K hK => S.o q.lss (S.end (hK _ ?_))
      clear hK K
      refine Ev.ud (fun c4 => ?_) (fun c4 => ?_)
      · first
      | (first | omega | contradiction)
      | refine Ev.seq ?_
        refine Ev.block ?_
        refine Ev.sr fun K hK => S.o q.mv (S.o q.as (S.end (hK _ ?_)))
        clear hK K
        refine Ev.sm (tbs [(0, 0), (0, 0), (2, 3), (3, 7), (0, 0), (0, 0), (6, 48), (7, 112), (8, 255)]) 9 fun K hK => M.o q.mv (M.o q.mv (M.o (q.ix am_el28 am_cl52 (hl := (by first | exact ati hidx (by omega) | exact ati hidx2 (by omega) | exact atig (by omega)))) (M.o (q.lsA [_, _] am_ag52 am_cl52) (M.o q.mv (M.o q.mv (M.o (q.ix am_el28 am_cl52 (hl := (by first | exact ati hidx (by omega) | exact ati hidx2 (by omega) | exact atig (by omega)))) (M.o (q.lsA [_, _] am_ag52 am_cl52) (M.o (q.sneq am_eq52 (am_sq52 _ _ _ _)) (M.end [] (h := S.end (hK _ ?_)))))))))))
        clear hK K
        refine Ev.c (fun c5 => ?_) (fun c5 => ?_)
        · first
        | (first | omega | contradiction)
        | refine Ev.sr fun K hK => S.o q.as (S.end (hK _ ?_))
          clear hK K
          refine Ev.ret ?_
          refine hR0 _ _ ?_
          refine Ev.ret1 ?_
          refine ⟨?_, rfl⟩
          first
           | exact bF (fun h => by subst h; omega)
           | exact bF (fun h => by subst h; rw [hidx] at hidx2; cases hidx2; simp at *)
           | exact bT (hinv.symm.trans (List.take_of_length_le (by omega)))
        · first
        | (first | omega | contradiction)
        | refine Ev.skip ?_
          show Ev _ _ _ _
          refine Ev.region_S fun K hK => S.o q.add (S.o q.mv (S.end (hK _ ?_)))
          clear hK K
          refine hR0 _ _ ?_
          refine roundU [] [0, 1, 12] ⟨(pre ++ [s], suf), by rw [← hp]; simp, ?_⟩ ?_ keep_n (slots_c (he := (by first | rfl | (simp; done) | (congr 2; omega))) (h := trivial)) (.c (.c (.c .n)))
          simp only [List.length_append, List.length_cons, List.length_nil, Nat.zero_add]
          rw [List.take_add_one, hinv, hidx2]
          simp at *
          obtain ⟨x1, x2⟩ := s
          obtain ⟨y1, y2⟩ := s2
          simp_all
          all_goals (dsimp only; simp only [List.length_cons]; omega)
      · first
      | (first | omega | contradiction)
      | refine Ev.exit ?_
        refine hR0 _ _ ?_
        show Ev _ _ _ _
        refine Ev.sr fun K hK => S.o q.as (S.end (hK _ ?_))
        clear hK K
        refine Ev.ret ?_
        refine Ev.ret1 ?_
        refine ⟨?_, rfl⟩
        first
         | exact bF (fun h => by subst h; omega)
         | exact bF (fun h => by subst h; rw [hidx] at hidx2; cases hidx2; simp at *)
         | exact bT (hinv.symm.trans (List.take_of_length_le (by omega)))
theorem awake_fun : Fun Try.prog 8 [] (Ret (.lit (.bool true)) []) := by
  obtain ⟨⟨a1, a2⟩, ⟨b1, b2⟩, ⟨c1', c2', c3'⟩, ⟨d1, d2, d3⟩⟩ := ex_store
  obtain ⟨w1, w2, w3, w4⟩ := ex_wf
  refine Fun.of (nt := 55) (rs := [.tmp 0]) Try.func8 rfl rfl rfl rfl rfl ?_
  refine Ev.sr fun K hK => S.o q.as (S.end (hK _ ?_))
  clear hK K
  refine Ev.sr fun K hK => S.cg 1 [_] (hF := newY_fun 100 (by decide)) (hn' := belowL rfl rfl) (h := S.o q.as (S.end (hK _ ?_)))
  clear hK K
  refine Ev.seq ?_
  refine Ev.sr fun K hK => S.o q.mv (S.peqa (by kernel_rfl : Try.prog.underlying 25 = some (.pointer 47)) (h := S.o q.mv (S.o q.mv (S.cR [0] 1 [_] (hob := (keep_c (he := rfl) (h := keep_n))) (hF := sPutR 100 300 1 [] (wf_nil 100)) (hn' := belowL rfl rfl) (h := ?_)))))
  rw [a1, a2]
  refine S.o q.neq (S.o q.pf (S.bn q.mv (fun c1 => ?_) (fun c1 => ?_)))
  · first
  | (first | omega | contradiction)
  | refine S.sk (S.sk (S.sk (S.o q.pt (S.end (hK _ ?_)))))
    clear hK K
    refine Ev.ct ?_
    refine Ev.sr fun K hK => S.o q.as (S.end (hK _ ?_))
    clear hK K
    refine Ev.ret ?_
    refine Ev.ret1 ?_
    refine ⟨?_, rfl⟩
    first | rfl | exact lawT rfl | exact lawT (by decide) | (exfalso; omega) | contradiction | (exfalso; simp at *; done)
  · first
  | (first | omega | contradiction)
  | refine S.o q.mv (S.cR [0] 1 [_] (hob := (keep_c (he := rfl) (h := keep_n))) (hF := sPutR 100 500 1 [(300, 1)] w1) (hn' := belowL rfl rfl) (h := ?_))
    rw [b1, b2]
    refine S.o q.neq (S.o q.pf (S.end (hK _ ?_)))
    clear hK K
    refine Ev.cn (fun c2 => ?_) (fun c2 => ?_)
    · first
    | (first | omega | contradiction)
    | refine Ev.sr fun K hK => S.o q.as (S.end (hK _ ?_))
      clear hK K
      refine Ev.ret ?_
      refine Ev.ret1 ?_
      refine ⟨?_, rfl⟩
      first | rfl | exact lawT rfl | exact lawT (by decide) | (exfalso; omega) | contradiction | (exfalso; simp at *; done)
    · first
    | (first | omega | contradiction)
    | refine Ev.skip ?_
      show Ev _ _ _ _
      refine Ev.sr fun K hK => S.o q.mv (S.cR [0] 1 [_] (hob := (keep_c (he := rfl) (h := keep_n))) (hF := sTakeR 100 250 [(300, 1), (500, 1)] w2) (hn' := belowL rfl rfl) (h := ?_))
      rw [c1', c2', c3']
      refine S.o q.mv (S.o q.ex (S.o q.ex (S.o q.as (S.o q.as (S.end (hK _ ?_))))))
      clear hK K
      refine Ev.sr fun K hK => S.o q.mv (S.cR [0] 1 [_] (hob := (keep_c (he := rfl) (h := keep_n))) (hF := sTakeR 100 250 [(500, 1)] w3) (hn' := belowL rfl rfl) (h := ?_))
      rw [d1, d2, d3]
      refine S.o q.mv (S.o q.ex (S.o q.ex (S.o q.as (S.o q.as (S.end (hK _ ?_))))))
      clear hK K
      refine Ev.sr fun K hK => S.o q.mv (S.o q.eql (S.bd q.mv (fun c3 => ?_) (fun c3 => ?_)))
      · first
      | (first | omega | contradiction)
      | refine S.o q.mv (S.o q.eql (S.o q.pt (S.bd q.mv (fun c4 => ?_) (fun c4 => ?_))))
        · first
        | (first | omega | contradiction)
        | refine S.o q.mv (S.o q.eql (S.o q.pt (S.bd q.mv (fun c5 => ?_) (fun c5 => ?_))))
          · first
          | (first | omega | contradiction)
          | refine S.o q.mv (S.o q.eql (S.o q.pt (S.bd q.mv (fun c6 => ?_) (fun c6 => ?_))))
            · first
            | (first | omega | contradiction)
            | refine S.o q.mv (S.cR [0] 1 [_] (hob := (keep_c (he := rfl) (h := keep_n))) (hF := sListR 100 [(250, 1)] w4) (hn' := belowL rfl rfl) (h := ?_))
              rw [ex_list]
              refine S.o (q.bd [_, _] am_ze52 am_pl52) (S.nn (q.bs [[_, _]] true am_el28 am_ze52 am_cl52) ?_)
              refine SeqL.weaken (Wk.frzl (f := pairC) [(250, 1)] 47 [_]) ?_
              refine S.c0 (hF := eqPc_fun [(250, 1)] [(250, 1)] (by decide) (by decide)) (h := S.o q.pt (S.bd q.mv (fun c7 => ?_) (fun c7 => ?_)))
              · first
              | (first | omega | contradiction)
              | refine S.o q.mv (S.cR [0] 2 [_] (hob := (keep_c (he := rfl) (h := keep_n))) (hF := sTotalR 100 [(250, 1)] w4) (hn' := belowL rfl rfl) (h := ?_))
                rw [show totP [(250, 1)] = 250 by decide]
                refine S.o q.eql (S.o q.pt (S.o q.as (S.end (hK _ ?_))))
                clear hK K
                refine Ev.ret ?_
                refine Ev.ret1 ?_
                refine ⟨?_, rfl⟩
                first | rfl | exact lawT rfl | exact lawT (by decide) | (exfalso; omega) | contradiction | (exfalso; simp at *; done)
              · first
              | (first | omega | contradiction)
              | refine S.sk (S.sk (S.sk (S.o q.pf (S.o q.as (S.end (hK _ ?_))))))
                clear hK K
                refine Ev.ret ?_
                refine Ev.ret1 ?_
                refine ⟨?_, rfl⟩
                first | rfl | exact lawT rfl | exact lawT (by decide) | (exfalso; omega) | contradiction | (exfalso; simp at *; done)
            · first
            | (first | omega | contradiction)
            | refine S.sk (S.sk (S.sk (S.sk (S.sk (S.o q.pf (S.o q.mv (S.sk (S.sk (S.sk (S.o q.pf (S.o q.as (S.end (hK _ ?_)))))))))))))
              clear hK K
              refine Ev.ret ?_
              refine Ev.ret1 ?_
              refine ⟨?_, rfl⟩
              first | rfl | exact lawT rfl | exact lawT (by decide) | (exfalso; omega) | contradiction | (exfalso; simp at *; done)
          · first
          | (first | omega | contradiction)
          | refine S.sk (S.sk (S.o q.pf (S.o q.mv (S.sk (S.sk (S.sk (S.sk (S.sk (S.o q.pf (S.o q.mv (S.sk (S.sk (S.sk (S.o q.pf (S.o q.as (S.end (hK _ ?_)))))))))))))))))
            clear hK K
            refine Ev.ret ?_
            refine Ev.ret1 ?_
            refine ⟨?_, rfl⟩
            first | rfl | exact lawT rfl | exact lawT (by decide) | (exfalso; omega) | contradiction | (exfalso; simp at *; done)
        · first
        | (first | omega | contradiction)
        | refine S.sk (S.sk (S.o q.pf (S.o q.mv (S.sk (S.sk (S.o q.pf (S.o q.mv (S.sk (S.sk (S.sk (S.sk (S.sk (S.o q.pf (S.o q.mv (S.sk (S.sk (S.sk (S.o q.pf (S.o q.as (S.end (hK _ ?_)))))))))))))))))))))
          clear hK K
          refine Ev.ret ?_
          refine Ev.ret1 ?_
          refine ⟨?_, rfl⟩
          first | rfl | exact lawT rfl | exact lawT (by decide) | (exfalso; omega) | contradiction | (exfalso; simp at *; done)
      · first
      | (first | omega | contradiction)
      | refine S.sk (S.sk (S.o q.pf (S.o q.mv (S.sk (S.sk (S.o q.pf (S.o q.mv (S.sk (S.sk (S.o q.pf (S.o q.mv (S.sk (S.sk (S.sk (S.sk (S.sk (S.o q.pf (S.o q.mv (S.sk (S.sk (S.sk (S.o q.pf (S.o q.as (S.end (hK _ ?_)))))))))))))))))))))))))
        clear hK K
        refine Ev.ret ?_
        refine Ev.ret1 ?_
        refine ⟨?_, rfl⟩
        first | rfl | exact lawT rfl | exact lawT (by decide) | (exfalso; omega) | contradiction | (exfalso; simp at *; done)
end Go.Proofs.Ytaggnajjmopobaa

namespace Go.Proofs.Ytaggnajjmopobaa
open Go Go.AM
set_option linter.unusedSimpArgs false
set_option linter.unusedVariables false
set_option maxRecDepth 100000
set_option maxHeartbeats 2000000

theorem cnt_cons (p : Int × Int) (m : Mp) (n : Int) : cntM (p :: m) n = if n = p.1 then p.2 else cntM m n := by
  unfold cntM
  rw [mget_cons]
  split <;> rfl
structure TkF (least n : Int) (m : Mp) : Prop where
  ok : inL n
  b : sTkB least m n = bestK m n
  v : sTkV least m n = tkV least m n
  le : n ≤ bestK m n ∧ bestK m n ≤ 1048576
  mem : ∃ x ∈ lstV m, (fun p : Int × Int => decide (p.1 = bestK m n)) x = true
  no : ¬ ∃ x ∈ lstV m, (fun p : Int × Int => decide (p.1 ≥ n ∧ p.1 < bestK m n)) x = true
  tot : totP (tkV least m n) = totP m - bestK m n + (if bestK m n = n ∨ bestK m n - n < least then 0 else bestK m n - n)
end Go.Proofs.Ytaggnajjmopobaa
