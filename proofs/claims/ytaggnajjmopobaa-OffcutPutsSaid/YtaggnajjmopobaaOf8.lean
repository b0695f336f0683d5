/-
  Offcut: what is put, plain.
  Conditions: none.
-/
import Derived.Test.YtaggnajjmopobaaOf6
namespace Go.Proofs.Ytaggnajjmopobaa
open Go Go.AM
set_option linter.unusedSimpArgs false
set_option linter.unusedVariables false
set_option maxRecDepth 100000
set_option maxHeartbeats 2000000

theorem skCnt_nd {m : Mp} (h : (m.map (·.1)).Nodup) (n : Int) : skCnt m n = cntM m n := by
  induction m with
  | nil => rfl
  | cons p m ih =>
    simp only [List.map_cons, List.nodup_cons] at h
    have e : skCnt (p :: m) n = (if p.1 = n then p.2 else 0) + skCnt m n := by simp [skCnt]
    rw [e, cnt_cons]
    by_cases hn : n = p.1
    · rw [if_pos hn.symm, if_pos hn, skCnt_no]
      · omega
      · rintro ⟨b, hb, e2⟩
        exact h.1 (List.mem_map.2 ⟨b, hb, e2.trans hn⟩)
    · rw [if_neg (fun e2 => hn e2.symm), if_neg hn, ih h.2]
      omega
theorem skCnt_permI {a b : Mp} (h : a.Perm b) (n : Int) : skCnt a n = skCnt b n := sumI_perm (h.map fun b : Int × Int => if b.1 = n then b.2 else 0)
theorem mem_cnt {m : Mp} (h : (m.map (·.1)).Nodup) {p : Int × Int} (hp : p ∈ m) : p.2 = cntM m p.1 := by
  unfold cntM
  rw [mget_of_mem h hp]
  rfl
theorem dkeys_nodup {m : Mp} (h : (m.map (·.1)).Nodup) : (dkeys m).Nodup := (dkeys_perm m).nodup_iff.2 h
theorem lst_sorted {m : Mp} (h : (m.map (·.1)).Nodup) : (lstV m).Pairwise fun x y => y.1 < x.1 := by
  unfold lstV
  rw [List.pairwise_map]
  exact ((dkeys_sorted m).and (dkeys_nodup h)).imp fun {a b} h => by
    have h1 := h.1
    have h2 : a ≠ b := h.2
    show b < a
    omega
theorem lst_ok {least : Int} {m : Mp} (hw : WfM least m) : ∀ p ∈ lstV m, okPc p := fun p hp => (hw.ok p ((lst_perm hw.nd).subset hp)).1
theorem lst_short {least : Int} {m : Mp} (hw : WfM least m) : okOrd (lstV m) ∧ shG (lstV m) ∧ skP (lstV m) = lstV m := by
  have h1 : okOrd (lstV m) := ⟨by rw [lstV_len]; exact hw.len, lst_ok hw⟩
  have h3 : skP (lstV m) = lstV m := desc_ext (skP_sorted _) (lst_sorted hw.nd) fun x => by
    rw [skP_mem h1.2, skCnt_permI (lst_perm hw.nd), skCnt_nd hw.nd]
    constructor
    · rintro ⟨⟨b, hb, e⟩, h2⟩
      have h4 := mem_cnt hw.nd ((lst_perm hw.nd).subset hb)
      rw [e, ← h2] at h4
      have : x = b := Prod.ext e.symm h4.symm
      rw [this]; exact hb
    · intro hx
      exact ⟨⟨x, hx, rfl⟩, mem_cnt hw.nd ((lst_perm hw.nd).subset hx)⟩
  exact ⟨h1, fun p hp => by rw [h3] at hp; exact (lst_ok hw p hp).2.2.2, h3⟩
theorem mem_get {m : Mp} (h : (m.map (·.1)).Nodup) (p : Int × Int) : p ∈ m ↔ mget m p.1 = some p.2 := ⟨fun hp => mget_of_mem h hp, fun hg => mget_mem hg⟩
theorem mp_ext {a b : Mp} (ha : (a.map (·.1)).Nodup) (hb : (b.map (·.1)).Nodup) (h : ∀ n, mget a n = mget b n) : a.length = b.length ∧ lstV a = lstV b ∧ totP a = totP b := by
  have hk : ∀ {l : Mp}, (l.map (·.1)).Nodup → l.Nodup := fun {l} hl => by
    have : l.Pairwise fun x y => x.1 ≠ y.1 := List.pairwise_map.1 hl
    exact this.imp fun hne e => hne (by rw [e])
  have hp : a.Perm b := (List.perm_ext_iff_of_nodup (hk ha) (hk hb)).2 fun p => by rw [mem_get ha, mem_get hb, h]
  refine ⟨hp.length_eq, desc_ext (lst_sorted ha) (lst_sorted hb) fun x => ?_, totP_perm hp⟩
  exact ⟨fun hx => (lst_perm hb).symm.subset (hp.subset ((lst_perm ha).subset hx)), fun hx => (lst_perm ha).symm.subset (hp.symm.subset ((lst_perm hb).subset hx))⟩
theorem sPut_same {least n k : Int} {m : Mp} (h : ¬ sPutE least m n k = 0 ∨ n < least ∨ k = 0) : sPutV least m n k = m := by
  by_cases h0 : sPutE least m n k = 0
  · have h1 : pNo least n k := h.resolve_left fun h1 => h1 h0
    rw [sPutV, if_pos h0]
    exact (put_no h1).v
  · exact if_neg h0
theorem get_cut_ne {m : Mp} (h : (m.map (·.1)).Nodup) {b x : Int} (hx : ¬ x = b) : mget (cutM m b) x = mget m x := by
  unfold cutM
  split
  · rw [mget_mdel (mput_nodup h _ _), if_neg hx, mget_mput, if_neg hx]
  · rw [mget_mput, if_neg hx]
theorem cnt_cut {m : Mp} (h : (m.map (·.1)).Nodup) (b : Int) : cntM (cutM m b) b = cntM m b - 1 := by
  unfold cutM
  split
  · rename_i h0
    rw [h0]
    unfold cntM
    rw [mget_mdel (mput_nodup h _ _), if_pos rfl]
    rfl
  · rw [cnt_put, if_pos rfl]
structure PuF (least n k : Int) (m : Mp) : Prop where
  ok : inC n k
  tot : totP (sPutV least m n k) = totP m + n * k
  te : sTkE least (sPutV least m n k) n = 0
  tb : sTkB least (sPutV least m n k) n = n
  tv : sTkV least (sPutV least m n k) n = cutM (sPutV least m n k) n
  wf : WfM least (cutM (sPutV least m n k) n)
  tot2 : totP (cutM (sPutV least m n k) n) = totP m + n * k - n
  ae : sPutE least (cutM (sPutV least m n k) n) n 1 = 0
  av : lstV (sPutV least (cutM (sPutV least m n k) n) n 1) = lstV (sPutV least m n k)
theorem put_facts {least n k : Int} {m : Mp} (hw : WfM least m) (h : sPutE least m n k = 0) (hn : ¬ n < least) (hk : ¬ k = 0) : PuF least n k m := by
  have hok : inC n k := Classical.byContradiction fun hc => by rw [(sPut_no (least := least) (m := m) hc).1] at h; cases h
  have hpe : putE least m n k = 0 := by rw [sPutE, if_pos hok] at h; exact h
  have hno : ¬ pNo least n k := fun h1 => h1.elim hn hk
  have hv : sPutV least m n k = pMp m n k := by rw [(sPut_ok hok hpe).2, putV, if_pos hpe, if_neg hno]
  have hw2 : WfM least (pMp m n k) := hv ▸ sPut_wf hw
  have hg : mget (pMp m n k) n = some (cntM m n + k) := by rw [pMp, mget_mput, if_pos rfl]
  have hc : cntM (pMp m n k) n = cntM m n + k := by unfold cntM; rw [hg]; rfl
  have hcm := hw.cnt n
  obtain ⟨o1, o2, o3⟩ := hok
  have hb : bestK (pMp m n k) n = n := by
    have h1 := (hw2.best n).le _ (mget_mem hg) (Int.le_refl n)
    have h2 := ((hw2.best n).mem h1.1).1
    have h3 := h1.2
    simp only at h3
    omega
  have hT := tk_eq (least := least) (m := pMp m n k) (n := n) (by rw [hb]; have := o1.1; omega) (by rw [hb]; omega)
  rw [hb] at hT
  obtain ⟨e1, e2, e3⟩ := sTk_ok o1 hT.e
  have hwc : WfM least (cutM (pMp m n k) n) := cut_wf hw2 (by rw [hc]; omega)
  have hcc := cnt_cut hw2.nd n
  have hget : ∀ x, mget (pMp (cutM (pMp m n k) n) n 1) x = mget (pMp m n k) x := by
    intro x
    show mget (mput _ _ _) x = _
    rw [mget_mput]
    split
    · rename_i hx
      rw [hx, hcc, hg, hc]
      congr 1
      omega
    · rename_i hx
      exact get_cut_ne hw2.nd hx
  obtain ⟨x1, x2, _⟩ := mp_ext (mput_nodup hwc.nd n (cntM (cutM (pMp m n k) n) n + 1)) hw2.nd hget
  have hP := put_ok (least := least) (m := cutM (pMp m n k) n) (n := n) (k := 1) (by unfold pNo; omega) (by rw [hcc, hc]; have := (hw2.cnt n).2; rw [hc] at this; omega) (by have := hw2.len; show ¬ (mput _ _ _).length > 200; omega)
  obtain ⟨y1, y2⟩ := sPut_ok (show inC n 1 from ⟨o1, by decide, by decide⟩) hP.e
  exact ⟨⟨o1, o2, o3⟩, by rw [hv]; exact tot_pMp m n k, by rw [hv]; exact e1, by rw [hv, e2, hT.b], by rw [hv, e3, hT.v], by rw [hv]; exact hwc, by rw [hv, tot_cut, tot_pMp], by rw [hv]; exact y1, by rw [hv, y2, hP.v]; exact x2⟩

end Go.Proofs.Ytaggnajjmopobaa
