/-
  Tags: the book and its methods, what they answer.
  Conditions: none.
-/
import Derived.Test.YtaggnajjmopobaaOf6
import Derived.Test.YtaggnajjmopobaaRp2
import Derived.Test.YtaggnajjmopobaaAmTree
import Derived.Test.YtaggnajjmopobaaAmSet
import Derived.Test.YtaggnajjmopobaaAmTwo

namespace Go.Proofs.Ytaggnajjmopobaa
open Go Go.AM
set_option linter.unusedSimpArgs false
set_option linter.unusedVariables false
set_option maxRecDepth 100000
set_option maxHeartbeats 2000000

theorem skCnt_nd {m : Mp} (h : (m.map (·.1)).Nodup) (n : Int) : skCnt m n = cntM m n := by
  induction m with
  | nil => rfl
  | cons p m ih =>
    simp only [List.map_cons, List.nodup_cons] at h
    have e : skCnt (p :: m) n = (if p.1 = n then p.2 else 0) + skCnt m n := by simp [skCnt]
    rw [e, cnt_cons]
    by_cases hn : n = p.1
    · rw [if_pos hn.symm, if_pos hn, skCnt_no]
      · omega
      · rintro ⟨b, hb, e2⟩
        exact h.1 (List.mem_map.2 ⟨b, hb, e2.trans hn⟩)
    · rw [if_neg (fun e2 => hn e2.symm), if_neg hn, ih h.2]
      omega
theorem skCnt_permI {a b : Mp} (h : a.Perm b) (n : Int) : skCnt a n = skCnt b n := sumI_perm (h.map fun b : Int × Int => if b.1 = n then b.2 else 0)
theorem mem_cnt {m : Mp} (h : (m.map (·.1)).Nodup) {p : Int × Int} (hp : p ∈ m) : p.2 = cntM m p.1 := by
  unfold cntM
  rw [mget_of_mem h hp]
  rfl
theorem dkeys_nodup {m : Mp} (h : (m.map (·.1)).Nodup) : (dkeys m).Nodup := (dkeys_perm m).nodup_iff.2 h
theorem lst_sorted {m : Mp} (h : (m.map (·.1)).Nodup) : (lstV m).Pairwise fun x y => y.1 < x.1 := by
  unfold lstV
  rw [List.pairwise_map]
  exact ((dkeys_sorted m).and (dkeys_nodup h)).imp fun {a b} h => by
    have h1 := h.1
    have h2 : a ≠ b := h.2
    show b < a
    omega
theorem lst_ok {least : Int} {m : Mp} (hw : WfM least m) : ∀ p ∈ lstV m, okPc p := fun p hp => (hw.ok p ((lst_perm hw.nd).subset hp)).1
theorem lst_short {least : Int} {m : Mp} (hw : WfM least m) : okOrd (lstV m) ∧ shG (lstV m) ∧ skP (lstV m) = lstV m := by
  have h1 : okOrd (lstV m) := ⟨by rw [lstV_len]; exact hw.len, lst_ok hw⟩
  have h3 : skP (lstV m) = lstV m := desc_ext (skP_sorted _) (lst_sorted hw.nd) fun x => by
    rw [skP_mem h1.2, skCnt_permI (lst_perm hw.nd), skCnt_nd hw.nd]
    constructor
    · rintro ⟨⟨b, hb, e⟩, h2⟩
      have h4 := mem_cnt hw.nd ((lst_perm hw.nd).subset hb)
      rw [e, ← h2] at h4
      have : x = b := Prod.ext e.symm h4.symm
      rw [this]; exact hb
    · intro hx
      exact ⟨⟨x, hx, rfl⟩, mem_cnt hw.nd ((lst_perm hw.nd).subset hx)⟩
  exact ⟨h1, fun p hp => by rw [h3] at hp; exact (lst_ok hw p hp).2.2.2, h3⟩
theorem mem_get {m : Mp} (h : (m.map (·.1)).Nodup) (p : Int × Int) : p ∈ m ↔ mget m p.1 = some p.2 := ⟨fun hp => mget_of_mem h hp, fun hg => mget_mem hg⟩
theorem get_cut_ne {m : Mp} (h : (m.map (·.1)).Nodup) {b x : Int} (hx : ¬ x = b) : mget (cutM m b) x = mget m x := by
  unfold cutM
  split
  · rw [mget_mdel (mput_nodup h _ _), if_neg hx, mget_mput, if_neg hx]
  · rw [mget_mput, if_neg hx]
structure PuF (least n k : Int) (m : Mp) : Prop where
  ok : inC n k
  tot : totP (sPutV least m n k) = totP m + n * k
  te : sTkE least (sPutV least m n k) n = 0
  tb : sTkB least (sPutV least m n k) n = n
  tv : sTkV least (sPutV least m n k) n = cutM (sPutV least m n k) n
  wf : WfM least (cutM (sPutV least m n k) n)
  tot2 : totP (cutM (sPutV least m n k) n) = totP m + n * k - n
  ae : sPutE least (cutM (sPutV least m n k) n) n 1 = 0
  av : lstV (sPutV least (cutM (sPutV least m n k) n) n 1) = lstV (sPutV least m n k)
end Go.Proofs.Ytaggnajjmopobaa

namespace Go.Proofs.Ytaggnajjmopobaa
open Go Go.AM
set_option linter.unusedSimpArgs false
set_option linter.unusedVariables false
set_option maxRecDepth 100000
set_option maxHeartbeats 2000000
theorem sum_nn0 {T : Type} (f : T → Int) : ∀ l : List T, (∀ x ∈ l, f x = 0) → (l.map f).sum = 0
  | [], _ => rfl
  | x :: l, h => by rw [List.map_cons, List.sum_cons, h x (by simp), sum_nn0 f l (fun y hy => h y (by simp [hy]))]; rfl
theorem sum_add {T : Type} (f g : T → Int) : ∀ l : List T, (l.map fun x => f x + g x).sum = (l.map f).sum + (l.map g).sum
  | [] => rfl
  | x :: l => by simp only [List.map_cons, List.sum_cons, sum_add f g l]; omega
theorem sum_swap {T U : Type} (g : T → U → Int) (l : List U) : ∀ q : List T, (q.map fun p => (l.map (g p)).sum).sum = (l.map fun b => (q.map fun p => g p b).sum).sum
  | [] => by simp only [List.map_nil, List.sum_nil]; exact (sum_nn0 _ l fun _ _ => rfl).symm
  | p :: q => by
    simp only [List.map_cons, List.sum_cons, sum_swap g l q]
    exact (sum_add (g p) (fun b => (q.map fun p => g p b).sum) l).symm
theorem sum_one {T K : Type} [DecidableEq K] (key : T → K) (k : K) (v : Int) : ∀ q : List T, (q.map key).Nodup → k ∈ q.map key → (q.map fun p => if key p = k then v else 0).sum = v
  | [], _, h => by simp at h
  | p :: q, hn, h => by
    rw [List.map_cons, List.nodup_cons] at hn
    rw [List.map_cons, List.sum_cons]
    by_cases e : key p = k
    · rw [if_pos e, sum_nn0 _ q (fun x hx => if_neg (fun e' => hn.1 (by rw [e, ← e']; exact List.mem_map_of_mem hx)))]
      omega
    · rw [if_neg e, sum_one key k v q hn.2 (by
        rcases List.mem_cons.1 h with h | h
        · exact absurd h.symm e
        · exact h)]
      omega
theorem skP_nodup (l : List (Int × Int)) : ((skP l).map (·.1)).Nodup := by
  rw [List.Nodup, List.pairwise_map]
  exact (skP_sorted l).imp fun h e => by omega
theorem skP_num {l : List (Int × Int)} (hok : ∀ b ∈ l, okPc b) : numP (skP l) = numP l := by
  have e1 : (skP l).map (fun p => p.2) = (skP l).map fun p => (l.map fun b => if p.1 = b.1 then b.2 else 0).sum := by
    refine List.map_congr_left fun p hp => ?_
    rw [((skP_mem hok p).1 hp).2, skCnt]
    congr 1
    refine List.map_congr_left fun b _ => ?_
    by_cases e : b.1 = p.1
    · rw [if_pos e, if_pos e.symm]
    · rw [if_neg e, if_neg (fun h => e h.symm)]
  rw [numP, e1, sum_swap (fun (p b : Int × Int) => if p.1 = b.1 then b.2 else 0) l (skP l), numP]
  congr 1
  refine List.map_congr_left fun b hb => ?_
  refine sum_one (fun p : Int × Int => p.1) b.1 b.2 (skP l) (skP_nodup l) ?_
  exact List.mem_map.2 ⟨(b.1, skCnt l b.1), (skP_mem hok _).2 ⟨⟨b, hb, rfl⟩, rfl⟩, rfl⟩

/-! What is left when an order is served -/
def Noge (m : Mp) (n : Int) : Prop := ∀ p ∈ m, p.1 < n
structure SvF (least : Int) (m l : Mp) : Prop where
  tot : totP (svA least m l).m ≤ totP m - (totP l - totP (svA least m l).out)
  le : totP (svA least m l).out ≤ totP l
  out : ∀ q ∈ (svA least m l).out, okPc q ∧ Noge (svA least m l).m q.1 ∧ ∃ p ∈ l, p.1 = q.1
theorem sSv_ok {least : Int} {m l : Mp} (h : sSvE least m l = 0) : okOrd l ∧ numP l ≤ 1000 ∧ shG l ∧ (svA least m (skP l)).e = 0 ∧ sSvV least m l = (svA least m (skP l)).m ∧ sSvO least m l = (svA least m (skP l)).out := by
  by_cases h1 : okOrd l
  · by_cases h2 : numP l ≤ 1000
    · by_cases h3 : shG l
      · refine ⟨h1, h2, h3, ?_, if_pos h, if_pos h⟩
        rw [sSvE, if_pos h1, if_pos h2, if_pos h3] at h; exact h
      · rw [(svR_short h1 h2 h3).e] at h; cases h
    · rw [(svR_list h1 h2).e] at h; cases h
  · rw [(svR_arg h1).e] at h; cases h
theorem sSv_no {least : Int} {m l : Mp} (h : ¬ sSvE least m l = 0) : sSvV least m l = m ∧ sSvO least m l = [] := ⟨if_neg h, if_neg h⟩

end Go.Proofs.Ytaggnajjmopobaa

namespace Go.Proofs.Ytaggnajjmopobaa
open Go Go.AM
set_option linter.unusedSimpArgs false
set_option linter.unusedVariables false
set_option maxRecDepth 100000
set_option maxHeartbeats 1000000

theorem rPieces_fun (l : List (Int × Int)) (hok : okOrd l) : Fun Try.prog 50 [.sh 2 (l.map pairC)] (Ret (.lit (.int .i64 (numP l))) []) := by
  have hll := hok.1
  refine Fun.of (nt := 19) (rs := [.tmp 2]) Try.func50 rfl rfl rfl rfl rfl ?_
  refine Ev.sr fun K hK => S.o q.as (S.end (hK _ ?_))
  clear hK K
  refine Ev.sr fun K hK => S.o q.as (S.end (hK _ ?_))
  clear hK K
  refine Ev.seq ?_
  refine Ev.sr fun K hK => S.o q.as (S.end (hK _ ?_))
  clear hK K
  refine Ev.block ?_
  refine Ev.loopU (ι := {p : List (Int × Int) × List (Int × Int) // p.1 ++ p.2 = l ∧ True}) [] [0, 2] (fun ⟨(pre, suf), _⟩ => [(4, .lit (.int .i64 ((pre.length : Int)))), (3, .lit (.int .i64 (numP pre)))]) (fun ⟨(pre, suf), _⟩ => []) (fun ⟨(pre, suf), _⟩ => suf.length) ⟨([], l), rfl, trivial⟩ (.c (.c .n)) keep_n (slots_c (he := (by first | rfl | (congr 2; simp; done))) (h := (slots_c (he := (by first | rfl | exact iE (by rw [numP_snoc]))) (h := trivial)))) ?_
  rintro ⟨⟨pre, suf⟩, hp, hinv⟩ R0 hR0
  dsimp only [List.cons_append, List.nil_append, List.length_cons, List.length_nil]
  simp only at hp hinv
  have hpl : pre.length + suf.length = (l).length := by rw [← hp, List.length_append]
  rcases suf with _ | ⟨s, suf⟩
  · rw [List.append_nil] at hp; simp only [List.length_nil] at hpl
    refine Ev.seq ?_
    refine Ev.sr fun K hK => S.o q.mv (S.o q.mv (S.o (q.lens am_el28) (S.o q.lss (S.end (hK _ ?_)))))
    clear hK K
    refine Ev.cd (fun c1 => ?_) (fun c1 => ?_)
    · first
    | (first | omega | contradiction)
    | refine Ev.skip ?_
      show Ev _ _ _ _
      refine Ev.seq ?_
      refine Ev.block ?_
      refine Ev.region_S fun K hK => S.o q.mv (S.o q.mv (S.o q.mv (S.o (q.ix am_el28 am_cl52 (hl := (by first | exact atig (by omega)))) (S.o (q.fs 1 am_fi52_1 am_cl3) (S.o (q.ls am_ag3) (S.o q.add (S.o q.as (S.end (hK _ ?_)))))))))
      clear hK K
      show Ev _ _ _ _
      refine Ev.region_S fun K hK => S.o q.mv (S.o q.add (S.o q.as (S.end (hK _ ?_))))
      clear hK K
      refine hR0 _ _ ?_
      refine roundU [] [0, 2] ⟨(pre ++ [(sx, sy)], suf), by rw [← hp]; simp, ?_⟩ ?_ keep_n (slots_c (he := (by first | rfl | (congr 2; simp; done))) (h := (slots_c (he := (by first | rfl | exact iE (by rw [numP_snoc]))) (h := trivial)))) (.c (.c .n))
      trivial
      all_goals (dsimp only; simp only [List.length_cons]; omega)
    · first
    | (first | omega | contradiction)
    | refine Ev.exit ?_
      refine hR0 _ _ ?_
      show Ev _ _ _ _
      refine Ev.sr fun K hK => S.o q.mv (S.o q.as (S.end (hK _ ?_)))
      clear hK K
      refine Ev.ret ?_
      refine Ev.ret1 ?_
      refine ⟨?_, rfl⟩
      (rw [← hp]; done)
  · simp only [List.length_cons] at hpl
    have hidx : l[pre.length]? = some s := by rw [← hp]; simp
    obtain ⟨sx, sy⟩ := s
    obtain ⟨g1, g2, g3, g4⟩ := hok.2 (sx, sy) (by rw [← hp]; simp)
    simp only at g1 g2 g3 g4
    obtain ⟨t1, t2⟩ := numP_bd pre (fun x hx => hok.2 x (by rw [← hp]; simp [hx]))
    refine Ev.seq ?_
    refine Ev.sr fun K hK => S.o q.mv (S.o q.mv (S.o (q.lens am_el28) (S.o q.lss (S.end (hK _ ?_)))))
    clear hK K
    refine Ev.cd (fun c2 => ?_) (fun c2 => ?_)
    · first
    | (first | omega | contradiction)
    | refine Ev.skip ?_
      show Ev _ _ _ _
      refine Ev.seq ?_
      refine Ev.block ?_
      refine Ev.region_S fun K hK => S.o q.mv (S.o q.mv (S.o q.mv (S.o (q.ix am_el28 am_cl52 (hl := (by first | exact ati hidx (by omega) | exact atig (by omega)))) (S.o (q.fs 1 am_fi52_1 am_cl3) (S.o (q.ls am_ag3) (S.o q.add (S.o q.as (S.end (hK _ ?_)))))))))
      clear hK K
      show Ev _ _ _ _
      refine Ev.region_S fun K hK => S.o q.mv (S.o q.add (S.o q.as (S.end (hK _ ?_))))
      clear hK K
      refine hR0 _ _ ?_
      refine roundU [] [0, 2] ⟨(pre ++ [(sx, sy)], suf), by rw [← hp]; simp, ?_⟩ ?_ keep_n (slots_c (he := (by first | rfl | (congr 2; simp; done))) (h := (slots_c (he := (by first | rfl | exact iE (by rw [numP_snoc]))) (h := trivial)))) (.c (.c .n))
      trivial
      all_goals (dsimp only; simp only [List.length_cons]; omega)
    · first
    | (first | omega | contradiction)
    | refine Ev.exit ?_
      refine hR0 _ _ ?_
      show Ev _ _ _ _
      refine Ev.sr fun K hK => S.o q.mv (S.o q.as (S.end (hK _ ?_)))
      clear hK K
      refine Ev.ret ?_
      refine Ev.ret1 ?_
      refine ⟨?_, rfl⟩
      (rw [← hp]; done)

theorem rList_fun (l : List (Int × Int)) (hok : okOrd l) (hnm : numP l ≤ 1000) : Fun Try.prog 51 [.sh 2 (l.map pairC)] (Ret (.sh 1 ((listP l).map intC)) []) := by
  have hll := hok.1
  refine Fun.of (nt := 30) (rs := [.tmp 2]) Try.func51 rfl rfl rfl rfl rfl ?_
  refine Ev.sr fun K hK => S.o q.as (S.end (hK _ ?_))
  clear hK K
  refine Ev.sr fun K hK => S.o q.as (S.end (hK _ ?_))
  clear hK K
  refine Ev.seq ?_
  refine Ev.sr fun K hK => S.o q.as (S.end (hK _ ?_))
  clear hK K
  refine Ev.block ?_
  refine Ev.weaken (Wk.nown intC 3 3 1) ?_
  refine Ev.loopU (ι := {p : List (Int × Int) × List (Int × Int) // p.1 ++ p.2 = l ∧ True}) [0] [0, 2] (fun ⟨(pre, suf), _⟩ => [(4, .lit (.int .i64 ((pre.length : Int)))), (3, .als 0 0 (listP pre).length)]) (fun ⟨(pre, suf), _⟩ => [(0, ⟨true, 3, 1, (listP pre).map intC, true⟩)]) (fun ⟨(pre, suf), _⟩ => suf.length) ⟨([], l), rfl, trivial⟩ (.c (.c .n)) (keep_c (he := (by first | rfl | (rw [listP_snoc, show k = sy.toNat by omega]; done))) (h := keep_n)) (slots_c (he := (by first | rfl | (congr 2; simp; done))) (h := (slots_c (he := (by first | rfl | (rw [listP_snoc, show k = sy.toNat by omega]; done))) (h := trivial)))) ?_
  rintro ⟨⟨pre, suf⟩, hp, hinv⟩ R0 hR0
  dsimp only [List.cons_append, List.nil_append, List.length_cons, List.length_nil]
  simp only at hp hinv
  have hpl : pre.length + suf.length = (l).length := by rw [← hp, List.length_append]
  rcases suf with _ | ⟨s, suf⟩
  · rw [List.append_nil] at hp; simp only [List.length_nil] at hpl
    refine Ev.seq ?_
    refine Ev.sr fun K hK => S.o q.mv (S.o q.mv (S.o (q.lens am_el28) (S.o q.lss (S.end (hK _ ?_)))))
    clear hK K
    refine Ev.cd (fun c1 => ?_) (fun c1 => ?_)
    · first
    | (first | omega | contradiction)
    | refine Ev.skip ?_
      show Ev _ _ _ _
      refine Ev.seq ?_
      refine Ev.block ?_
      refine Ev.sr fun K hK => S.o q.as (S.end (hK _ ?_))
      clear hK K
      refine Ev.block ?_
      refine Ev.loopU (ι := {k : Nat // k ≤ sy.toNat}) [0] [0, 2, 4, 6, 7, 8, 9] (fun ⟨k, _⟩ => [(5, .lit (.int .i64 ((k : Int)))), (3, .als 0 0 ((listP pre ++ List.replicate k sx)).length)]) (fun ⟨k, _⟩ => [(0, ⟨true, 3, 1, ((listP pre ++ List.replicate k sx)).map intC, true⟩)]) (fun ⟨k, _⟩ => sy.toNat - k) ⟨0, Nat.zero_le _⟩ (.c (.c (.c (.c (.c (.c (.c .n))))))) (keep_c (he := (by first | rfl | (simp; done) | (simp [List.replicate_succ', intC]; done))) (h := keep_n)) (slots_c (he := (by first | rfl | (simp; done))) (h := (slots_c (he := (by first | rfl | (simp; done) | (congr 1; simp; omega))) (h := trivial)))) ?_
      rintro ⟨k, hk⟩ R2 hR2
      dsimp only [List.cons_append, List.nil_append, List.length_cons, List.length_nil]
      have hrl : (listP pre ++ List.replicate k sx).length = (listP pre).length + k := by rw [List.length_append, List.length_replicate]
      have hb7 : (List.replicate k sx).length = k := List.length_replicate
      have hb8 : (listP pre).length ≤ 1000 := by omega
      have hb9 : (listP pre ++ List.replicate k sx).length ≤ 2001 := by rw [hrl]; omega
      refine Ev.seq ?_
      refine Ev.sr fun K hK => S.o q.mv (S.o q.mv (S.o q.mv (S.o (q.ix am_el28 am_cl52 (hl := (by first | exact ati hidx (by omega) | exact atig (by omega)))) (S.o (q.fs 1 am_fi52_1 am_cl3) (S.o (q.ls am_ag3) (S.o q.lss (S.end (hK _ ?_))))))))
      clear hK K
      refine Ev.cd (fun c2 => ?_) (fun c2 => ?_)
      · first
      | (first | omega | contradiction)
      | refine Ev.skip ?_
        show Ev _ _ _ _
        refine Ev.seq ?_
        refine Ev.block ?_
        refine Ev.region_S fun K hK => S.o q.mv (S.o q.mv (S.o q.mv (S.o (q.ix am_el28 am_cl52 (hl := (by first | exact ati hidx (by omega) | exact atig (by omega)))) (S.o (q.fs 0 am_fi52_0 am_cl3) (S.o (q.ls am_ag3) (S.nn (q.bs [[_]] true am_el70 am_ze3 am_cl3) (S.ap' [_] am_el70 am_ze3 am_cl3 am_by3 (hh := head_own') (hr := (rows_lit [sx])) (h := S.o q.as (S.end (hK _ ?_))))))))))
        clear hK K
        show Ev _ _ _ _
        refine Ev.region_S fun K hK => S.o q.mv (S.o q.add (S.o q.as (S.end (hK _ ?_))))
        clear hK K
        refine hR2 _ _ ?_
        refine roundU [2] [0, 2, 4, 6, 7, 8, 9] ⟨k + 1, by omega⟩ ?_ (keep_c (he := (by first | rfl | (simp; done) | (simp [List.replicate_succ', intC]; done))) (h := keep_n)) (slots_c (he := (by first | rfl | (simp; done))) (h := (slots_c (he := (by first | rfl | (simp; done) | (congr 1; simp; omega))) (h := trivial)))) (.c (.c (.c (.c (.c (.c (.c .n)))))))
        skip
        all_goals (dsimp only; omega)
      · first
      | (first | omega | contradiction)
      | refine Ev.exit ?_
        refine hR2 _ _ ?_
        show Ev _ _ _ _
        refine Ev.region_S fun K hK => S.o q.mv (S.o q.add (S.o q.as (S.end (hK _ ?_))))
        clear hK K
        refine hR0 _ _ ?_
        refine roundU [0] [0, 2] ⟨(pre ++ [(sx, sy)], suf), by rw [← hp]; simp, ?_⟩ ?_ (keep_c (he := (by first | rfl | (rw [listP_snoc, show k = sy.toNat by omega]; done))) (h := keep_n)) (slots_c (he := (by first | rfl | (congr 2; simp; done))) (h := (slots_c (he := (by first | rfl | (rw [listP_snoc, show k = sy.toNat by omega]; done))) (h := trivial)))) (.c (.c .n))
        trivial
        all_goals (dsimp only; simp only [List.length_cons]; omega)
    · first
    | (first | omega | contradiction)
    | refine Ev.exit ?_
      refine hR0 _ _ ?_
      show Ev _ _ _ _
      refine Ev.sr fun K hK => S.o q.mv (S.o q.as (S.end (hK _ ?_)))
      clear hK K
      refine Ev.weaken (Wk.frz 2 []) ?_
      refine Ev.ret ?_
      refine Ev.ret1 ?_
      refine ⟨?_, rfl⟩
      (rw [← hp]; done)
  · simp only [List.length_cons] at hpl
    have hidx : l[pre.length]? = some s := by rw [← hp]; simp
    obtain ⟨sx, sy⟩ := s
    obtain ⟨g1, g2, g3, g4⟩ := hok.2 (sx, sy) (by rw [← hp]; simp)
    simp only at g1 g2 g3 g4
    obtain ⟨t1, t2⟩ := numP_bd pre (fun x hx => hok.2 x (by rw [← hp]; simp [hx]))
    obtain ⟨t3, t4⟩ := numP_cut hok.2 hp
    simp only at t4
    have t5 := listP_len pre (fun x hx => hok.2 x (by rw [← hp]; simp [hx]))
    refine Ev.seq ?_
    refine Ev.sr fun K hK => S.o q.mv (S.o q.mv (S.o (q.lens am_el28) (S.o q.lss (S.end (hK _ ?_)))))
    clear hK K
    refine Ev.cd (fun c3 => ?_) (fun c3 => ?_)
    · first
    | (first | omega | contradiction)
    | refine Ev.skip ?_
      show Ev _ _ _ _
      refine Ev.seq ?_
      refine Ev.block ?_
      refine Ev.sr fun K hK => S.o q.as (S.end (hK _ ?_))
      clear hK K
      refine Ev.block ?_
      refine Ev.loopU (ι := {k : Nat // k ≤ sy.toNat}) [0] [0, 2, 4, 6, 7, 8, 9] (fun ⟨k, _⟩ => [(5, .lit (.int .i64 ((k : Int)))), (3, .als 0 0 ((listP pre ++ List.replicate k sx)).length)]) (fun ⟨k, _⟩ => [(0, ⟨true, 3, 1, ((listP pre ++ List.replicate k sx)).map intC, true⟩)]) (fun ⟨k, _⟩ => sy.toNat - k) ⟨0, Nat.zero_le _⟩ (.c (.c (.c (.c (.c (.c (.c .n))))))) (keep_c (he := (by first | rfl | (simp; done) | (simp [List.replicate_succ', intC]; done))) (h := keep_n)) (slots_c (he := (by first | rfl | (simp; done))) (h := (slots_c (he := (by first | rfl | (simp; done) | (congr 1; simp; omega))) (h := trivial)))) ?_
      rintro ⟨k, hk⟩ R2 hR2
      dsimp only [List.cons_append, List.nil_append, List.length_cons, List.length_nil]
      have hrl : (listP pre ++ List.replicate k sx).length = (listP pre).length + k := by rw [List.length_append, List.length_replicate]
      have hb7 : (List.replicate k sx).length = k := List.length_replicate
      have hb8 : (listP pre).length ≤ 1000 := by omega
      have hb9 : (listP pre ++ List.replicate k sx).length ≤ 2001 := by rw [hrl]; omega
      refine Ev.seq ?_
      refine Ev.sr fun K hK => S.o q.mv (S.o q.mv (S.o q.mv (S.o (q.ix am_el28 am_cl52 (hl := (by first | exact ati hidx (by omega) | exact ati hidx (by omega) | exact atig (by omega)))) (S.o (q.fs 1 am_fi52_1 am_cl3) (S.o (q.ls am_ag3) (S.o q.lss (S.end (hK _ ?_))))))))
      clear hK K
      refine Ev.cd (fun c4 => ?_) (fun c4 => ?_)
      · first
      | (first | omega | contradiction)
      | refine Ev.skip ?_
        show Ev _ _ _ _
        refine Ev.seq ?_
        refine Ev.block ?_
        refine Ev.region_S fun K hK => S.o q.mv (S.o q.mv (S.o q.mv (S.o (q.ix am_el28 am_cl52 (hl := (by first | exact ati hidx (by omega) | exact ati hidx (by omega) | exact atig (by omega)))) (S.o (q.fs 0 am_fi52_0 am_cl3) (S.o (q.ls am_ag3) (S.nn (q.bs [[_]] true am_el70 am_ze3 am_cl3) (S.ap' [_] am_el70 am_ze3 am_cl3 am_by3 (hh := head_own') (hr := (rows_lit [sx])) (h := S.o q.as (S.end (hK _ ?_))))))))))
        clear hK K
        show Ev _ _ _ _
        refine Ev.region_S fun K hK => S.o q.mv (S.o q.add (S.o q.as (S.end (hK _ ?_))))
        clear hK K
        refine hR2 _ _ ?_
        refine roundU [2] [0, 2, 4, 6, 7, 8, 9] ⟨k + 1, by omega⟩ ?_ (keep_c (he := (by first | rfl | (simp; done) | (simp [List.replicate_succ', intC]; done))) (h := keep_n)) (slots_c (he := (by first | rfl | (simp; done))) (h := (slots_c (he := (by first | rfl | (simp; done) | (congr 1; simp; omega))) (h := trivial)))) (.c (.c (.c (.c (.c (.c (.c .n)))))))
        skip
        all_goals (dsimp only; omega)
      · first
      | (first | omega | contradiction)
      | refine Ev.exit ?_
        refine hR2 _ _ ?_
        show Ev _ _ _ _
        refine Ev.region_S fun K hK => S.o q.mv (S.o q.add (S.o q.as (S.end (hK _ ?_))))
        clear hK K
        refine hR0 _ _ ?_
        refine roundU [0] [0, 2] ⟨(pre ++ [(sx, sy)], suf), by rw [← hp]; simp, ?_⟩ ?_ (keep_c (he := (by first | rfl | (rw [listP_snoc, show k = sy.toNat by omega]; done))) (h := keep_n)) (slots_c (he := (by first | rfl | (congr 2; simp; done))) (h := (slots_c (he := (by first | rfl | (rw [listP_snoc, show k = sy.toNat by omega]; done))) (h := trivial)))) (.c (.c .n))
        trivial
        all_goals (dsimp only; simp only [List.length_cons]; omega)
    · first
    | (first | omega | contradiction)
    | refine Ev.exit ?_
      refine hR0 _ _ ?_
      show Ev _ _ _ _
      refine Ev.sr fun K hK => S.o q.mv (S.o q.as (S.end (hK _ ?_)))
      clear hK K
      refine Ev.weaken (Wk.frz 2 []) ?_
      refine Ev.ret ?_
      refine Ev.ret1 ?_
      refine ⟨?_, rfl⟩
      (rw [← hp]; done)


end Go.Proofs.Ytaggnajjmopobaa

namespace Go.Proofs.Ytaggnajjmopobaa
open Go Go.AM
set_option linter.unusedSimpArgs false
set_option linter.unusedVariables false
set_option maxRecDepth 100000
set_option maxHeartbeats 2000000

/-! ## What the reference has -/
theorem mem_lst {m : Mp} (h : (m.map (·.1)).Nodup) (x : Int × Int) : x ∈ lstV m ↔ mget m x.1 = some x.2 :=
  ⟨fun hx => (mem_get h x).1 ((lst_perm h).subset hx), fun hx => (lst_perm h).symm.subset ((mem_get h x).2 hx)⟩
theorem skCnt_lst {m : Mp} (h : (m.map (·.1)).Nodup) (n : Int) : skCnt (lstV m) n = cntM m n := by rw [skCnt_permI (lst_perm h), skCnt_nd h]
theorem put_short {least n k : Int} {m : Mp} (hw : WfM least m) (hn : inC n k) (hk : ¬ k = 0) : skP (lstV m ++ [(n, k)]) = lstV (pMp m n k) := by
  have hok : ∀ p ∈ lstV m ++ [(n, k)], okPc p := fun p hp => by
    rcases List.mem_append.1 hp with hp | hp
    · exact lst_ok hw p hp
    · obtain rfl := List.mem_singleton.1 hp
      obtain ⟨⟨h1, h2⟩, h3, h4⟩ := hn
      exact ⟨h1, h2, by show 1 ≤ k; omega, h4⟩
  have hnd : ((pMp m n k).map (·.1)).Nodup := mput_nodup hw.nd _ _
  refine desc_ext (skP_sorted _) (lst_sorted hnd) fun x => ?_
  rw [skP_mem hok, mem_lst hnd, pMp, mget_mput, skCnt_snoc, skCnt_lst hw.nd, skHas_snoc]
  by_cases hx : x.1 = n
  · rw [if_pos hx, if_pos hx.symm]
    show (_ ∨ n = x.1) ∧ x.2 = cntM m x.1 + k ↔ _
    rw [hx]
    exact ⟨fun h => by rw [h.2], fun h => ⟨.inr rfl, (Option.some.inj h).symm⟩⟩
  · rw [if_neg hx, if_neg fun e => hx e.symm, Int.add_zero]
    constructor
    · rintro ⟨⟨b, hb, e⟩ | h1, h2⟩
      · have h3 := (mem_lst hw.nd b).1 hb
        have h4 : cntM m x.1 = b.2 := by unfold cntM; rw [← e, h3]; rfl
        rw [h2, h4, ← e]; exact h3
      · exact absurd h1.symm hx
    · intro h1
      refine ⟨.inl ⟨x, (mem_lst hw.nd x).2 h1, rfl⟩, ?_⟩
      unfold cntM; rw [h1]; rfl
/-- The lines without a piece of a length. -/
def cut1 (b : Int) (p : Int × Int) : Int × Int := (p.1, if p.1 = b then p.2 - 1 else p.2)
def woL (b : Int) (l : Mp) : Mp := (l.map (cut1 b)).filter fun p => decide (0 < p.2)
theorem woL_snoc (b : Int) (l : Mp) (s : Int × Int) : woL b (l ++ [s]) = woL b l ++ if 0 < (cut1 b s).2 then [cut1 b s] else [] := by
  unfold woL
  rw [List.map_append, List.filter_append]
  congr 1
  by_cases h : 0 < (cut1 b s).2
  · rw [if_pos h]; simp [h]
  · rw [if_neg h]; simp [h]
theorem woL_len (b : Int) (l : Mp) : (woL b l).length ≤ l.length := by
  unfold woL
  have := List.length_filter_le (fun p : Int × Int => decide (0 < p.2)) (l.map (cut1 b))
  rw [List.length_map] at this
  exact this
theorem wo_lst {least : Int} {m : Mp} (hw : WfM least m) {b : Int} (hb : 1 ≤ cntM m b) : woL b (lstV m) = lstV (cutM m b) := by
  have hnd : ((cutM m b).map (·.1)).Nodup := (cut_wf hw hb).nd
  refine desc_ext ?_ (lst_sorted hnd) fun x => ?_
  · refine List.Pairwise.filter _ ?_
    rw [List.pairwise_map]
    exact lst_sorted hw.nd
  · rw [mem_lst hnd]
    unfold woL
    rw [List.mem_filter, List.mem_map]
    constructor
    · rintro ⟨⟨p, hp, rfl⟩, h2⟩
      have h2 : 0 < (cut1 b p).2 := of_decide_eq_true h2
      have h3 := (mem_lst hw.nd p).1 hp
      have h4 : cntM m p.1 = p.2 := by unfold cntM; rw [h3]; rfl
      unfold cut1 at h2 ⊢
      by_cases hx : p.1 = b
      · simp only [if_pos hx] at h2 ⊢
        rw [hx] at h4 ⊢
        unfold cutM
        rw [if_neg (by omega), mget_mput, if_pos rfl, h4]
      · simp only [if_neg hx]
        rw [get_cut_ne hw.nd hx]
        exact h3
    · intro h1
      by_cases hx : x.1 = b
      · have hp : ∃ v, mget m b = some v := by
          unfold cntM at hb
          cases hg : mget m b with
          | none => rw [hg] at hb; simp at hb
          | some v => exact ⟨v, rfl⟩
        obtain ⟨v, hv⟩ := hp
        have h4 : cntM m b = v := by unfold cntM; rw [hv]; rfl
        rw [hx] at h1
        by_cases h0 : cntM m b - 1 = 0
        · exfalso
          unfold cutM at h1
          rw [if_pos h0, mget_mdel (mput_nodup hw.nd _ _), if_pos rfl] at h1
          cases h1
        · unfold cutM at h1
          rw [if_neg h0, mget_mput, if_pos rfl] at h1
          have h5 : cntM m b - 1 = x.2 := Option.some.inj h1
          refine ⟨⟨(b, v), (mem_lst hw.nd (b, v)).2 hv, ?_⟩, decide_eq_true (by omega)⟩
          unfold cut1
          rw [if_pos rfl]
          exact Prod.ext hx.symm (by show v - 1 = x.2; omega)
      · rw [get_cut_ne hw.nd hx] at h1
        have h2 := hw.ok x (mget_mem h1)
        refine ⟨⟨x, (mem_lst hw.nd x).2 h1, ?_⟩, decide_eq_true (by have := h2.1.2.2.1; omega)⟩
        unfold cut1
        rw [if_neg hx]
/-! The last line that is long enough has the best offcut -/
def lastF (n : Int) (q p : Int × Int) : Int × Int := (q.1 + 1, if p.1 ≥ n then q.1 else q.2)
def lastQ (l : Mp) (n : Int) : Int × Int := l.foldl (lastF n) (0, -1)
def lastG (l : Mp) (n : Int) : Int := (lastQ l n).2
theorem lastQ_snoc (l : Mp) (n : Int) (s : Int × Int) : lastQ (l ++ [s]) n = lastF n (lastQ l n) s := by rw [lastQ, List.foldl_append]; rfl
theorem lastG_pair (n : Int) : ∀ l : Mp, (lastQ l n).1 = (l.length : Int) := by
  refine snoc_ind rfl (fun l s ih => ?_)
  rw [lastQ_snoc, lastF, List.length_append, List.length_singleton]
  simp only
  omega
theorem lastG_snoc (l : Mp) (n : Int) (s : Int × Int) : lastG (l ++ [s]) n = if s.1 ≥ n then (l.length : Int) else lastG l n := by
  rw [lastG, lastQ_snoc, lastF, ← lastG_pair n l]
  rfl
theorem lastG_spec (n : Int) : ∀ l : Mp, (lastG l n = -1 ∧ ∀ p ∈ l, p.1 < n) ∨ ∃ (k : Nat) (s : Int × Int), lastG l n = k ∧ l[k]? = some s ∧ n ≤ s.1 ∧ (l.Pairwise (fun x y => y.1 < x.1) → ∀ p ∈ l, n ≤ p.1 → s.1 ≤ p.1) := by
  refine snoc_ind (.inl ⟨rfl, fun p hp => by cases hp⟩) (fun l s ih => ?_)
  rw [lastG_snoc]
  by_cases h : s.1 ≥ n
  · refine .inr ⟨l.length, s, if_pos h, by simp, h, fun hpw p hp _ => ?_⟩
    rcases List.mem_append.1 hp with hp | hp
    · exact Int.le_of_lt ((List.pairwise_append.1 hpw).2.2 p hp s (by simp))
    · obtain rfl := List.mem_singleton.1 hp
      exact Int.le_refl _
  · rw [if_neg h]
    rcases ih with ⟨h1, h2⟩ | ⟨k, t, h1, h2, h3, h4⟩
    · refine .inl ⟨h1, fun p hp => ?_⟩
      rcases List.mem_append.1 hp with hp | hp
      · exact h2 p hp
      · obtain rfl := List.mem_singleton.1 hp
        omega
    · refine .inr ⟨k, t, h1, ?_, h3, fun hpw p hp hn => ?_⟩
      · have hk : k < l.length := (List.getElem?_eq_some_iff.1 h2).1
        rw [List.getElem?_append_left hk]; exact h2
      · rcases List.mem_append.1 hp with hp | hp
        · exact h4 (List.pairwise_append.1 hpw).1 p hp hn
        · obtain rfl := List.mem_singleton.1 hp
          omega
structure LastB (m : Mp) (n k : Int) : Prop where
  no : k < 0 → bestK m n = 0
  yes : ¬ k < 0 → ∃ s, (lstV m)[k.toNat]? = some s ∧ s.1 = bestK m n ∧ ¬ bestK m n = 0 ∧ k.toNat < (lstV m).length
theorem last_best {least n : Int} {m : Mp} (hw : WfM least m) : LastB m n (lastG (lstV m) n) := by
  have hb := hw.best n
  rcases lastG_spec n (lstV m) with ⟨h1, h2⟩ | ⟨k, s, h1, h2, h3, h4⟩
  · refine ⟨fun _ => ?_, fun h => absurd (by omega) h⟩
    refine Classical.byContradiction fun h0 => ?_
    obtain ⟨g1, p, hp, g2⟩ := hb.mem h0
    have := h2 p ((lst_perm hw.nd).symm.subset hp)
    omega
  · refine ⟨fun h => absurd h (by omega), fun _ => ?_⟩
    have hs : s ∈ m := (lst_perm hw.nd).subset (List.mem_of_getElem? h2)
    obtain ⟨g1, g2⟩ := hb.le s hs h3
    obtain ⟨g3, p, hp, g4⟩ := hb.mem g1
    have g5 := h4 (lst_sorted hw.nd) p ((lst_perm hw.nd).symm.subset hp) (by omega)
    rw [h1, Int.toNat_natCast]
    exact ⟨s, h2, by omega, g1, (List.getElem?_eq_some_iff.1 h2).1⟩
theorem key_ix {m : Mp} (h : (m.map (·.1)).Nodup) {k i : Nat} {b s : Int × Int} (hk : (lstV m)[k]? = some b) (hi : (lstV m)[i]? = some s) : s.1 = b.1 ↔ i = k := by
  have hp := List.pairwise_iff_getElem.1 (lst_sorted h)
  obtain ⟨k1, k2⟩ := List.getElem?_eq_some_iff.1 hk
  obtain ⟨i1, i2⟩ := List.getElem?_eq_some_iff.1 hi
  constructor
  · intro e
    rcases Nat.lt_trichotomy i k with g | g | g
    · have := hp i k i1 k1 g
      rw [i2, k2] at this
      omega
    · exact g
    · have := hp k i k1 i1 g
      rw [i2, k2] at this
      omega
  · rintro rfl
    rw [hk] at hi
    rw [Option.some.inj hi]
/-! Pieces one by one -/
def rvO (least : Int) (s : So) (n : Int) : So := if s.e = 0 then (if tkE least s.m n = 0 then ⟨tkV least s.m n, s.out, 0⟩ else if tkE least s.m n = 12 then ⟨s.m, s.out ++ [(n, 1)], 0⟩ else ⟨s.m, s.out, tkE least s.m n⟩) else s
def rvF (least : Int) (s : So) (l : List Int) : So := l.foldl (rvO least) s
def rvA (least : Int) (m : Mp) (l : List Int) : So := rvF least ⟨m, [], 0⟩ l
theorem rvA_snoc (least : Int) (m : Mp) (l : List Int) (n : Int) : rvA least m (l ++ [n]) = rvO least (rvA least m l) n := by rw [rvA, rvF, List.foldl_append]; rfl
theorem rv_ok {least : Int} {m : Mp} {l : List Int} {n : Int} (h0 : (rvA least m l).e = 0) (h : tkE least (rvA least m l).m n = 0) : rvA least m (l ++ [n]) = ⟨tkV least (rvA least m l).m n, (rvA least m l).out, 0⟩ := by
  rw [rvA_snoc]; exact (if_pos h0).trans (if_pos h)
theorem rv_no {least : Int} {m : Mp} {l : List Int} {n : Int} (h0 : (rvA least m l).e = 0) (h : tkE least (rvA least m l).m n = 12) : rvA least m (l ++ [n]) = ⟨(rvA least m l).m, (rvA least m l).out ++ [(n, 1)], 0⟩ := by
  rw [rvA_snoc]; exact (if_pos h0).trans ((if_neg (by rw [h]; decide)).trans (if_pos h))
theorem rv_bad {least : Int} {m : Mp} {l : List Int} {n : Int} (h0 : (rvA least m l).e = 0) (h : ¬ tkE least (rvA least m l).m n = 0) (h2 : ¬ tkE least (rvA least m l).m n = 12) : (rvA least m (l ++ [n])).e = tkE least (rvA least m l).m n := by
  have e : rvA least m (l ++ [n]) = ⟨(rvA least m l).m, (rvA least m l).out, tkE least (rvA least m l).m n⟩ := by
    rw [rvA_snoc]; exact (if_pos h0).trans ((if_neg h).trans (if_neg h2))
  rw [e]
theorem rvF_stay {least : Int} {s : So} (h : ¬ s.e = 0) : ∀ l : List Int, rvF least s l = s
  | [] => rfl
  | n :: l => by
    have e : rvO least s n = s := if_neg h
    show rvF least (rvO least s n) l = s
    rw [e, rvF_stay h l]
theorem rvA_stay {least : Int} {m : Mp} {pre : List Int} (h : ¬ (rvA least m pre).e = 0) (suf : List Int) : rvA least m (pre ++ suf) = rvA least m pre := by
  have : rvA least m (pre ++ suf) = rvF least (rvA least m pre) suf := by rw [rvA, rvF, List.foldl_append]; rfl
  rw [this]; exact rvF_stay h suf
theorem rvA_good {least : Int} {m : Mp} (hw : WfM least m) : ∀ l : List Int, (∀ n ∈ l, inL n) → WfM least (rvA least m l).m ∧ (rvA least m l).out.length ≤ l.length ∧ ∀ p ∈ (rvA least m l).out, okPc p := by
  refine snoc_ind (fun _ => ⟨hw, Nat.le_refl _, fun p hp => by cases hp⟩) (fun l s ih h => ?_)
  obtain ⟨h1, h2, h3⟩ := ih fun p hp => h p (by simp [hp])
  have hs : inL s := h s (by simp)
  rw [rvA_snoc, rvO, List.length_append, List.length_singleton]
  split
  · split
    · exact ⟨tk_wf h1 hs, by simp only; omega, h3⟩
    · split
      · refine ⟨h1, by simp only [List.length_append, List.length_singleton]; omega, fun p hp => ?_⟩
        rcases List.mem_append.1 hp with hp | hp
        · exact h3 p hp
        · obtain rfl := List.mem_singleton.1 hp
          exact ⟨hs.1, hs.2, Int.le_refl 1, (by decide : (1 : Int) ≤ 1000000)⟩
      · exact ⟨h1, by simp only; omega, h3⟩
  · exact ⟨h1, by omega, h3⟩
/-- Single pieces. -/
def oneP (p : Int × Int) : Mp := List.replicate p.2.toNat (p.1, 1)
def oneL (l : Mp) : Mp := l.flatMap oneP
structure ItR (s : So) (t : Sv) (o : Mp) (n : Int) : Prop where
  e : s.e = t.e
  o : t.e = 0 → s.m = t.m ∧ s.out = o ++ List.replicate t.left.toNat (n, 1)
theorem it_rv {least n : Int} {m o : Mp} (hw : WfM least m) (hn : inL n) : ∀ i : Nat, ItR (rvF least ⟨m, o, 0⟩ (List.replicate i n)) (itS least n ⟨m, 0, 0⟩ i) o n
  | 0 => ⟨rfl, fun _ => ⟨rfl, by simp [rvF, itS]⟩⟩
  | i + 1 => by
    obtain ⟨h1, h2⟩ := it_rv (o := o) hw hn i
    have hr : rvF least ⟨m, o, 0⟩ (List.replicate (i + 1) n) = rvO least (rvF least ⟨m, o, 0⟩ (List.replicate i n)) n := by
      rw [List.replicate_succ', rvF, List.foldl_append]; rfl
    rw [hr]
    by_cases h0 : (itS least n ⟨m, 0, 0⟩ i).e = 0
    · obtain ⟨h3, h4⟩ := h2 h0
      have hl := (itS_good hw hn i).2.1
      rw [h0] at h1
      by_cases g1 : tkE least (itS least n ⟨m, 0, 0⟩ i).m n = 0
      · rw [it_ok h0 g1]
        have e : rvO least (rvF least ⟨m, o, 0⟩ (List.replicate i n)) n = ⟨tkV least (itS least n ⟨m, 0, 0⟩ i).m n, (rvF least ⟨m, o, 0⟩ (List.replicate i n)).out, 0⟩ := by
          rw [rvO, if_pos h1, h3, if_pos g1]
        rw [e]
        exact ⟨rfl, fun _ => ⟨rfl, h4⟩⟩
      · by_cases g2 : tkE least (itS least n ⟨m, 0, 0⟩ i).m n = 12
        · rw [it_no h0 g2]
          have e : rvO least (rvF least ⟨m, o, 0⟩ (List.replicate i n)) n = ⟨(itS least n ⟨m, 0, 0⟩ i).m, (rvF least ⟨m, o, 0⟩ (List.replicate i n)).out ++ [(n, 1)], 0⟩ := by
            rw [rvO, if_pos h1, h3, if_neg g1, if_pos g2]
          rw [e]
          refine ⟨rfl, fun _ => ⟨rfl, ?_⟩⟩
          show _ ++ [(n, 1)] = _
          rw [h4, List.append_assoc, show ((itS least n ⟨m, 0, 0⟩ i).left + 1).toNat = (itS least n ⟨m, 0, 0⟩ i).left.toNat + 1 by omega, List.replicate_succ']
        · have e1 := it_bad h0 g1 g2
          have e : rvO least (rvF least ⟨m, o, 0⟩ (List.replicate i n)) n = ⟨(itS least n ⟨m, 0, 0⟩ i).m, (rvF least ⟨m, o, 0⟩ (List.replicate i n)).out, tkE least (itS least n ⟨m, 0, 0⟩ i).m n⟩ := by
            rw [rvO, if_pos h1, h3, if_neg g1, if_neg g2]
          rw [e]
          exact ⟨e1.symm, fun h5 => absurd (by rw [← e1]; exact h5) g1⟩
    · have e1 : itS least n ⟨m, 0, 0⟩ (i + 1) = itS least n ⟨m, 0, 0⟩ i := itS_stay h0 1
      have e2 : rvO least (rvF least ⟨m, o, 0⟩ (List.replicate i n)) n = rvF least ⟨m, o, 0⟩ (List.replicate i n) := if_neg (by rw [h1]; exact h0)
      rw [e1, e2]
      exact ⟨h1, fun h5 => absurd h5 h0⟩
theorem sv_rv {least : Int} {m : Mp} (hw : WfM least m) : ∀ l : Mp, (∀ p ∈ l, okPc p) → (rvA least m (listP l)).e = (svA least m l).e ∧ ((svA least m l).e = 0 → (rvA least m (listP l)).m = (svA least m l).m ∧ (rvA least m (listP l)).out = oneL (svA least m l).out) := by
  refine snoc_ind (fun _ => ⟨rfl, fun _ => ⟨rfl, rfl⟩⟩) (fun l s ih hok => ?_)
  have hokl : ∀ p ∈ l, okPc p := fun p hp => hok p (by simp [hp])
  obtain ⟨h1, h2⟩ := ih hokl
  obtain ⟨s1, s2, s3, s4⟩ := hok s (by simp)
  have hin : inL s.1 := ⟨s1, s2⟩
  have hr : rvA least m (listP (l ++ [s])) = rvF least (rvA least m (listP l)) (List.replicate s.2.toNat s.1) := by
    rw [listP_snoc, rvA, rvF, List.foldl_append]; rfl
  by_cases h0 : (svA least m l).e = 0
  · obtain ⟨h3, h4⟩ := h2 h0
    obtain ⟨w1, _⟩ := svA_good hw l hokl
    have hs : rvA least m (listP l) = ⟨(svA least m l).m, oneL (svA least m l).out, 0⟩ := by
      rw [← h3, ← h4, show (0 : Int) = (rvA least m (listP l)).e by rw [h1, h0]]
    obtain ⟨g1, g2⟩ := it_rv (o := oneL (svA least m l).out) w1 hin s.2.toNat
    rw [hr, hs]
    have hg : grp least (svA least m l).m s = itS least s.1 ⟨(svA least m l).m, 0, 0⟩ s.2.toNat := rfl
    rw [← hg] at g1 g2
    have hl := (itS_good w1 hin s.2.toNat).2.1
    rw [← hg] at hl
    by_cases h5 : (grp least (svA least m l).m s).e = 0
    · rw [sv_ok h0 h5]
      obtain ⟨g3, g4⟩ := g2 h5
      refine ⟨g1.trans h5, fun _ => ⟨g3, ?_⟩⟩
      rw [g4]
      show _ = oneL (addO _ _ _)
      unfold addO
      split
      · rw [oneL, oneL, List.flatMap_append]; simp [oneP]
      · rw [show (grp least (svA least m l).m s).left.toNat = 0 by omega]; simp
    · have e := sv_bad h0 h5
      exact ⟨by rw [e]; exact g1, fun h => absurd (by rw [← e]; exact h) h5⟩
  · have e1 : (svA least m (l ++ [s])) = svA least m l := svA_stay h0 [s]
    rw [hr, rvF_stay (by rw [h1]; exact h0), e1]
    exact ⟨h1, fun h => absurd h h0⟩
theorem svA_desc {least : Int} {m : Mp} : ∀ l : Mp, l.Pairwise (fun x y => y.1 < x.1) → (∀ q ∈ (svA least m l).out, ∃ p ∈ l, p.1 = q.1) ∧ (svA least m l).out.Pairwise fun x y => y.1 < x.1 := by
  refine snoc_ind (fun _ => ⟨fun q hq => (by cases hq), List.Pairwise.nil⟩) (fun l s ih hpw => ?_)
  obtain ⟨p1, p2, p3⟩ := List.pairwise_append.1 hpw
  obtain ⟨h1, h2⟩ := ih p1
  have h1' : ∀ q ∈ (svA least m l).out, ∃ p ∈ l ++ [s], p.1 = q.1 := fun q hq => (by obtain ⟨p, hp, e⟩ := h1 q hq; exact ⟨p, by simp [hp], e⟩)
  rw [svA_snoc, svO]
  split
  · split
    · show (∀ q ∈ addO _ _ _, _) ∧ (addO _ _ _).Pairwise _
      unfold addO
      split
      · refine ⟨fun q hq => ?_, List.pairwise_append.2 ⟨h2, by simp, fun x hx y hy => ?_⟩⟩
        · rcases List.mem_append.1 hq with hq | hq
          · exact h1' q hq
          · obtain rfl := List.mem_singleton.1 hq
            exact ⟨s, by simp, rfl⟩
        · obtain rfl := List.mem_singleton.1 hy
          obtain ⟨p, hp, e⟩ := h1 x hx
          rw [← e]
          exact p3 p hp s (by simp)
      · exact ⟨h1', h2⟩
    · exact ⟨fun q hq => (by cases hq), List.Pairwise.nil⟩
  · exact ⟨h1', h2⟩
theorem sum_rep (k : Nat) (v : Int) : (List.replicate k v).sum = k * v := by
  induction k with
  | zero => simp
  | succ k ih => rw [List.replicate_succ, List.sum_cons, ih, show ((k + 1 : Nat) : Int) = (k : Int) + 1 by omega, Int.add_mul, Int.one_mul]; omega
theorem one_cnt (p : Int × Int) (hp : okPc p) (n : Int) : skCnt (oneP p) n = if p.1 = n then p.2 else 0 := by
  unfold skCnt oneP
  rw [List.map_replicate]
  have h2 := hp.2.2.1
  show (List.replicate _ (if p.1 = n then (1 : Int) else 0)).sum = _
  rw [sum_rep]
  split <;> omega
theorem skCnt_app (a b : Mp) (n : Int) : skCnt (a ++ b) n = skCnt a n + skCnt b n := by simp [skCnt]
theorem oneL_cnt (n : Int) : ∀ l : Mp, (∀ p ∈ l, okPc p) → skCnt (oneL l) n = skCnt l n := by
  refine snoc_ind (fun _ => rfl) (fun l s ih h => ?_)
  have e : oneL (l ++ [s]) = oneL l ++ oneP s := by simp [oneL]
  rw [e, skCnt_app, ih fun p hp => h p (by simp [hp]), one_cnt s (h s (by simp)), skCnt_snoc]
theorem oneL_mem {l : Mp} {q : Int × Int} (h : q ∈ oneL l) : ∃ p ∈ l, q = (p.1, 1) := by
  obtain ⟨p, hp, hq⟩ := List.mem_flatMap.1 h
  exact ⟨p, hp, (List.mem_replicate.1 hq).2⟩
theorem cnt_desc {l : Mp} (h : l.Pairwise fun x y => y.1 < x.1) {b : Int × Int} (hb : b ∈ l) : skCnt l b.1 = b.2 := by
  have hnd : (l.map (·.1)).Nodup := by
    rw [List.nodup_iff_pairwise_ne, List.pairwise_map]
    exact h.imp fun {x y} hxy e => by rw [e] at hxy; exact absurd hxy (Int.lt_irrefl _)
  rw [skCnt_nd hnd]
  exact (mem_cnt hnd hb).symm
theorem one_short {l : Mp} (hok : ∀ p ∈ l, okPc p) (hpw : l.Pairwise fun x y => y.1 < x.1) : (∀ p ∈ oneL l, okPc p) ∧ skP (oneL l) = l ∧ shG (oneL l) := by
  have h1 : ∀ p ∈ oneL l, okPc p := fun p hp => by
    obtain ⟨q, hq, rfl⟩ := oneL_mem hp
    obtain ⟨a, b, c, d⟩ := hok q hq
    exact ⟨a, b, Int.le_refl 1, (by decide : (1 : Int) ≤ 1000000)⟩
  have h2 : skP (oneL l) = l := desc_ext (skP_sorted _) hpw fun x => by
    rw [skP_mem h1, oneL_cnt _ l hok]
    constructor
    · rintro ⟨⟨b, hb, e⟩, h2⟩
      obtain ⟨q, hq, rfl⟩ := oneL_mem hb
      have e : q.1 = x.1 := e
      rw [← e, cnt_desc hpw hq] at h2
      rw [show x = q from Prod.ext e.symm h2]; exact hq
    · intro hx
      refine ⟨⟨(x.1, 1), List.mem_flatMap.2 ⟨x, hx, List.mem_replicate.2 ⟨?_, rfl⟩⟩, rfl⟩, (cnt_desc hpw hx).symm⟩
      have := (hok x hx).2.2.1
      omega
  exact ⟨h1, h2, fun p hp => by rw [h2] at hp; exact (hok p hp).2.2.2⟩
theorem svA_okO {least : Int} {m : Mp} (hw : WfM least m) : ∀ l : Mp, (∀ p ∈ l, okPc p) → ∀ q ∈ (svA least m l).out, okPc q := by
  refine snoc_ind (fun _ q hq => by cases hq) (fun l s ih hok => ?_)
  have hokl : ∀ p ∈ l, okPc p := fun p hp => hok p (by simp [hp])
  have hi := ih hokl
  obtain ⟨s1, s2, s3, s4⟩ := hok s (by simp)
  obtain ⟨w1, _⟩ := svA_good hw l hokl
  have hg := itS_good w1 (show inL s.1 from ⟨s1, s2⟩) s.2.toNat
  rw [svA_snoc, svO]
  split
  · split
    · show ∀ q ∈ addO _ _ _, okPc q
      unfold addO
      split
      · intro q hq
        rename_i hl
        rcases List.mem_append.1 hq with hq | hq
        · exact hi q hq
        · obtain rfl := List.mem_singleton.1 hq
          have h3 : (grp least (svA least m l).m s).left ≤ s.2.toNat := hg.2.2
          exact ⟨s1, s2, by show 1 ≤ (grp least (svA least m l).m s).left; omega, by show (grp least (svA least m l).m s).left ≤ 1000000; omega⟩
      · exact hi
    · exact fun q hq => by cases hq
  · exact hi
theorem listP_in {l : Mp} (hok : ∀ p ∈ l, okPc p) : ∀ n ∈ listP l, inL n := fun n hn => by
  obtain ⟨p, hp, h⟩ := List.mem_flatMap.1 hn
  obtain rfl := (List.mem_replicate.1 h).2
  exact ⟨(hok p hp).1, (hok p hp).2.1⟩
/-! The reference's answers -/
structure SvA (least : Int) (m l : Mp) : Prop where
  ok : ∀ n ∈ listP (skP l), inL n
  ord : okOrd (skP l)
  num : numP (skP l) ≤ 1000
  bad : ¬ (rvA least m (listP (skP l))).e = 0 → SvR least m l (rvA least m (listP (skP l))).e m []
  good : (rvA least m (listP (skP l))).e = 0 → SvR least m l 0 (rvA least m (listP (skP l))).m (skP (rvA least m (listP (skP l))).out) ∧ shG (rvA least m (listP (skP l))).out ∧ ∀ p ∈ (rvA least m (listP (skP l))).out, okPc p
theorem serve_ref {least : Int} {m l : Mp} (hw : WfM least m) (h : okOrd l) (h2 : numP l ≤ 1000) (h3 : shG l) : SvA least m l := by
  have hk := skP_ok h h3
  obtain ⟨e1, e2⟩ := sv_rv hw (skP l) hk
  refine ⟨listP_in hk, ⟨Nat.le_trans (skP_len h.2) h.1, hk⟩, by rw [skP_num h.2]; exact h2, fun h4 => ?_, fun h4 => ?_⟩
  · exact svR_err h h2 h3 e1.symm h4
  · rw [e1] at h4
    obtain ⟨e3, e4⟩ := e2 h4
    have ho := svA_okO hw (skP l) hk
    obtain ⟨o1, o2, o3⟩ := one_short ho (svA_desc (least := least) (m := m) (skP l) (skP_sorted l)).2
    rw [e3, e4, o2]
    exact ⟨svR_ok h h2 h3 h4, o3, o1⟩

end Go.Proofs.Ytaggnajjmopobaa

namespace Go.Proofs.Ytaggnajjmopobaa
open Go Go.AM
set_option linter.unusedSimpArgs false
set_option linter.unusedVariables false
set_option maxRecDepth 100000
set_option maxHeartbeats 2000000
theorem rPut_fun (least n k : Int) (m : Mp) (hw : WfM least m) : Fun Try.prog 31 [.agg [.lit (.int .i64 least), .sh 2 ((lstV m).map pairC)], .lit (.int .i64 n), .lit (.int .i64 k)] (Ret (.tup [.agg [.lit (.int .i64 least), .sh 2 ((lstV (sPutV least m n k)).map pairC)], .lit (.int .i64 (sPutE least m n k))]) []) := by
  have hll := lstV_len m
  have hml := hw.len
  have hcm := hw.cnt n
  have hsn := skCnt_lst hw.nd n
  have hLK := lst_ok hw
  refine Fun.of (nt := 60) (rs := [.cell 6 30, .tmp 7]) Try.func31 rfl rfl rfl rfl rfl ?_
  refine Ev.sr fun K hK => S.nn (q.bx [_, _] true) (S.nn (q.al am_ze30) (S.o q.as (S.end (hK _ ?_))))
  clear hK K
  refine Ev.seq ?_
  refine Ev.sr fun K hK => S.o q.mv (S.c0 (hF := rLen_fun n) (h := S.o q.not (S.bn q.mv (fun c1 => ?_) (fun c1 => ?_))))
  · first
  | (first | omega | contradiction)
  | refine S.sk (S.sk (S.o q.pt (S.o q.mv (S.sk (S.sk (S.o q.pt (S.end (hK _ ?_))))))))
    clear hK K
    refine Ev.ct ?_
    rw [(sPut_no (least := least) (m := m) (show ¬ inC n k by unfold inC; intro h; first | exact absurd h.1 ‹_› | omega)).1, (sPut_no (least := least) (m := m) (show ¬ inC n k by unfold inC; intro h; first | exact absurd h.1 ‹_› | omega)).2]
    refine Ev.sr fun K hK => S.o (q.lvA [_, _] am_ag30 am_cl30) (S.sv [_, _] true [_] am_in30 am_cl30 (h := S.o q.as (S.end (hK _ ?_))))
    clear hK K
    refine Ev.ret ?_
    refine Ev.retv2 (res_c [_, _] am_ag30 am_cl30 (res_t res_n)) ?_
    refine ⟨?_, rfl⟩
    all_goals first | rfl | (congr 2 <;> omega)
  · first
  | (first | omega | contradiction)
  | refine S.o q.mv (S.o q.lss (S.o q.pf (S.bd q.mv (fun c2 => ?_) (fun c2 => ?_))))
    · first
    | (first | omega | contradiction)
    | refine S.sk (S.sk (S.o q.pt (S.end (hK _ ?_))))
      clear hK K
      refine Ev.ct ?_
      rw [(sPut_no (least := least) (m := m) (show ¬ inC n k by unfold inC; intro h; first | exact absurd h.1 ‹_› | omega)).1, (sPut_no (least := least) (m := m) (show ¬ inC n k by unfold inC; intro h; first | exact absurd h.1 ‹_› | omega)).2]
      refine Ev.sr fun K hK => S.o (q.lvA [_, _] am_ag30 am_cl30) (S.sv [_, _] true [_] am_in30 am_cl30 (h := S.o q.as (S.end (hK _ ?_))))
      clear hK K
      refine Ev.ret ?_
      refine Ev.retv2 (res_c [_, _] am_ag30 am_cl30 (res_t res_n)) ?_
      refine ⟨?_, rfl⟩
      all_goals first | rfl | (congr 2 <;> omega)
    · first
    | (first | omega | contradiction)
    | refine S.o q.mv (S.o q.gtr (S.o q.pf (S.end (hK _ ?_))))
      clear hK K
      refine Ev.cd (fun c3 => ?_) (fun c3 => ?_)
      · first
      | (first | omega | contradiction)
      | rw [(sPut_no (least := least) (m := m) (show ¬ inC n k by unfold inC; intro h; first | exact absurd h.1 ‹_› | omega)).1, (sPut_no (least := least) (m := m) (show ¬ inC n k by unfold inC; intro h; first | exact absurd h.1 ‹_› | omega)).2]
        refine Ev.sr fun K hK => S.o (q.lvA [_, _] am_ag30 am_cl30) (S.sv [_, _] true [_] am_in30 am_cl30 (h := S.o q.as (S.end (hK _ ?_))))
        clear hK K
        refine Ev.ret ?_
        refine Ev.retv2 (res_c [_, _] am_ag30 am_cl30 (res_t res_n)) ?_
        refine ⟨?_, rfl⟩
        all_goals first | rfl | (congr 2 <;> omega)
      · first
      | (first | omega | contradiction)
      | refine Ev.skip ?_
        show Ev _ _ _ _
        refine Ev.seq ?_
        skip
        refine Ev.sr fun K hK => S.o q.mv (S.o (q.fa 0 am_fi30_0 am_cl3) (S.o (q.lv am_ag3) (S.o q.lss (S.bd q.mv (fun c4 => ?_) (fun c4 => ?_)))))
        · first
        | (first | omega | contradiction)
        | refine S.sk (S.sk (S.o q.pt (S.end (hK _ ?_))))
          clear hK K
          refine Ev.ct ?_
          have hin : inC n k := ⟨by assumption, by omega, by omega⟩
          have hno : pNo least n k := by unfold pNo; omega
          have hP := put_no (m := m) hno
          obtain ⟨q1, q2⟩ := sPut_ok hin hP.e
          rw [q1, q2, hP.v]
          refine Ev.sr fun K hK => S.o (q.lvA [_, _] am_ag30 am_cl30) (S.sv [_, _] true [_] am_in30 am_cl30 (h := S.o q.as (S.end (hK _ ?_))))
          clear hK K
          refine Ev.ret ?_
          refine Ev.retv2 (res_c [_, _] am_ag30 am_cl30 (res_t res_n)) ?_
          refine ⟨?_, rfl⟩
          all_goals first | rfl | (congr 2 <;> omega)
        · first
        | (first | omega | contradiction)
        | refine S.o q.mv (S.o q.eql (S.o q.pf (S.end (hK _ ?_))))
          clear hK K
          refine Ev.cd (fun c5 => ?_) (fun c5 => ?_)
          · first
          | (first | omega | contradiction)
          | have hin : inC n k := ⟨by assumption, by omega, by omega⟩
            have hno : pNo least n k := by unfold pNo; omega
            have hP := put_no (m := m) hno
            obtain ⟨q1, q2⟩ := sPut_ok hin hP.e
            rw [q1, q2, hP.v]
            refine Ev.sr fun K hK => S.o (q.lvA [_, _] am_ag30 am_cl30) (S.sv [_, _] true [_] am_in30 am_cl30 (h := S.o q.as (S.end (hK _ ?_))))
            clear hK K
            refine Ev.ret ?_
            refine Ev.retv2 (res_c [_, _] am_ag30 am_cl30 (res_t res_n)) ?_
            refine ⟨?_, rfl⟩
            all_goals first | rfl | (congr 2 <;> omega)
          · first
          | (first | omega | contradiction)
          | refine Ev.skip ?_
            show Ev _ _ _ _
            refine Ev.seq ?_
            have hin : inC n k := ⟨by assumption, by omega, by omega⟩
            have hno : ¬ pNo least n k := by unfold pNo; omega
            have hk0 : ¬ k = 0 := by omega
            have hk1 := hin.2.1
            have hk2 := hin.2.2
            refine Ev.sr fun K hK => S.o (q.fa 1 am_fi30_1 am_cl28) (S.o (q.lv am_ag28) (S.o q.mv (S.c0 (hF := rNumber_fun (lstV m) n hLK (by omega)) (h := ?_))))
            rw [hsn]
            refine S.o q.mv (S.o q.add (S.o q.gtr (S.end (hK _ ?_))))
            clear hK K
            refine Ev.cd (fun c6 => ?_) (fun c6 => ?_)
            · first
            | (first | omega | contradiction)
            | have hP := put_big (m := m) hno (by omega)
              obtain ⟨q1, q2⟩ := sPut_bad hin (by rw [hP.e]; decide)
              rw [q1, q2, hP.e]
              refine Ev.sr fun K hK => S.o (q.lvA [_, _] am_ag30 am_cl30) (S.sv [_, _] true [_] am_in30 am_cl30 (h := S.o q.as (S.end (hK _ ?_))))
              clear hK K
              refine Ev.ret ?_
              refine Ev.retv2 (res_c [_, _] am_ag30 am_cl30 (res_t res_n)) ?_
              refine ⟨?_, rfl⟩
              all_goals first | rfl | (congr 2 <;> omega)
            · first
            | (first | omega | contradiction)
            | refine Ev.skip ?_
              show Ev _ _ _ _
              have hbg : ¬ cntM m n + k > 1000000 := by omega
              have hnd : ((pMp m n k).map (·.1)).Nodup := mput_nodup hw.nd _ _
              have hll2 := lstV_len (pMp m n k)
              have hok2 : ∀ p ∈ lstV m ++ [(n, k)], okPc p := fun p hp => by
                rcases List.mem_append.1 hp with hp | hp
                · exact hLK p hp
                · obtain rfl := List.mem_singleton.1 hp
                  exact ⟨hin.1.1, hin.1.2, (show 1 ≤ k by omega), (show k ≤ 1000000 by omega)⟩
              have hps := put_short hw hin hk0
              have hsg : shG (lstV m ++ [(n, k)]) := fun p hp => by
                rw [hps, mem_lst hnd, pMp, mget_mput] at hp
                split at hp
                · have h5 := Option.some.inj hp
                  omega
                · exact (hLK p ((mem_lst hw.nd p).2 hp)).2.2.2
              have hsv : shV (lstV m ++ [(n, k)]) = lstV (pMp m n k) := (if_pos hsg).trans hps
              have hse : shE (lstV m ++ [(n, k)]) = 0 := if_pos hsg
              have hmp := mput_length_le m n (cntM m n + k)
              have hmq : (pMp m n k).length = (mput m n (cntM m n + k)).length := rfl
              refine Ev.sr fun K hK => S.nn (v := .als 2 0 ([] : List (Int × Int)).length) (o := ⟨true, 52, 2, ([] : List (Int × Int)).map pairC, true⟩) (q.bs [] true am_el28 am_ze52 am_cl52) (S.o (q.fa 1 am_fi30_1 am_cl28) (S.o (q.lv am_ag28) (S.ap' [_, _] am_el28 am_ze52 am_cl52 am_by52 (hh := head_own') (hr := rows_sh) (h := S.o q.mv (S.o q.mv (S.o (q.bd [_, _] am_ze52 am_pl52) (S.nn (q.bs [[_, _]] true am_el28 am_ze52 am_cl52) (S.ap' [_, _, _] am_el28 am_ze52 am_cl52 am_by52 (hh := head_own') (hr := (rows_lit [(n, k)])) (h := ?_)))))))))
              refine SeqL.weaken (Wk.frz 48 [_, _, _]) ?_
              refine S.c0 (hF := rShort_fun (lstV m ++ [(n, k)]) hok2 (by rw [List.length_append, List.length_singleton]; omega)) (h := ?_)
              rw [hsv, hse]
              refine S.o q.mv (S.o q.ex (S.o q.ex (S.o q.as (S.o q.as (S.end (hK _ ?_))))))
              clear hK K
              refine Ev.seq ?_
              refine Ev.sr fun K hK => S.o q.mv (S.o (q.lens am_el28) (S.o q.gtr (S.end (hK _ ?_))))
              clear hK K
              refine Ev.cd (fun c7 => ?_) (fun c7 => ?_)
              · first
              | (first | omega | contradiction)
              | have hP := put_full (m := m) hno hbg (by omega)
                obtain ⟨q1, q2⟩ := sPut_bad hin (by rw [hP.e]; decide)
                rw [q1, q2, hP.e]
                refine Ev.sr fun K hK => S.o (q.lvA [_, _] am_ag30 am_cl30) (S.sv [_, _] true [_, _] am_in30 am_cl30 (h := S.o q.as (S.end (hK _ ?_))))
                clear hK K
                refine Ev.ret ?_
                refine Ev.retv2 (res_c [_, _] am_ag30 am_cl30 (res_t res_n)) ?_
                refine ⟨?_, rfl⟩
                all_goals first | rfl | (congr 2 <;> omega)
              · first
              | (first | omega | contradiction)
              | refine Ev.skip ?_
                show Ev _ _ _ _
                have hP := put_ok (m := m) hno hbg (by omega)
                obtain ⟨q1, q2⟩ := sPut_ok hin hP.e
                rw [q1, q2, hP.v]
                refine Ev.sr fun K hK => S.o (q.fa 0 am_fi30_0 am_cl3) (S.o (q.lv am_ag3) (S.o q.mv (S.o (q.bd [_, _] am_ze30 am_pl30) (S.sv [_, _] true [_, _] am_in30 am_cl30 (h := S.o q.as (S.end (hK _ ?_)))))))
                clear hK K
                refine Ev.ret ?_
                refine Ev.retv2 (res_c [_, _] am_ag30 am_cl30 (res_t res_n)) ?_
                refine ⟨?_, rfl⟩
                all_goals first | rfl | (congr 2 <;> omega)
theorem rWithout_fun (least k : Int) (m : Mp) (b : Int × Int) (hw : WfM least m) (h0 : 0 ≤ k) (hk : (lstV m)[k.toNat]? = some b) : Fun Try.prog 48 [.agg [.lit (.int .i64 least), .sh 2 ((lstV m).map pairC)], .lit (.int .i64 k)] (Ret (.agg [.lit (.int .i64 least), .sh 2 ((lstV (cutM m b.1)).map pairC)]) []) := by
  have hll := lstV_len m
  have hml := hw.len
  have hLK := lst_ok hw
  have hcb : cntM m b.1 = b.2 := by
    have h1 := (mem_lst hw.nd b).1 (List.mem_of_getElem? hk)
    unfold cntM; rw [h1]; rfl
  have hwo : woL b.1 (lstV m) = lstV (cutM m b.1) := wo_lst hw (by have := (hLK b (List.mem_of_getElem? hk)).2.2.1; omega)
  obtain ⟨W, hW⟩ : ∃ W : Mp → Mp, W = woL b.1 := ⟨_, rfl⟩
  have hW0 : W [] = [] := by rw [hW]; rfl
  have hWl : ∀ l, (W l).length ≤ l.length := fun l => by rw [hW]; exact woL_len _ l
  have hWe : W (lstV m) = lstV (cutM m b.1) := by rw [hW]; exact hwo
  have hW1 : ∀ l (s : Int × Int), s.1 = b.1 → 0 < s.2 - 1 → W (l ++ [s]) = W l ++ [(s.1, s.2 - 1)] := fun l s h h2 => by rw [hW, woL_snoc]; unfold cut1; rw [if_pos h, if_pos h2]
  have hW2 : ∀ l (s : Int × Int), s.1 = b.1 → ¬ 0 < s.2 - 1 → W (l ++ [s]) = W l := fun l s h h2 => by rw [hW, woL_snoc]; unfold cut1; rw [if_pos h, if_neg h2, List.append_nil]
  have hW3 : ∀ l (s : Int × Int), ¬ s.1 = b.1 → 0 < s.2 → W (l ++ [s]) = W l ++ [(s.1, s.2)] := fun l s h h2 => by rw [hW, woL_snoc]; unfold cut1; rw [if_neg h, if_pos h2]
  refine Fun.of (nt := 38) (rs := [.cell 4 30]) Try.func48 rfl rfl rfl rfl rfl ?_
  refine Ev.sr fun K hK => S.nn (q.bx [_, _] true) (S.nn (q.al am_ze30) (S.end (hK _ ?_)))
  clear hK K
  refine Ev.sr fun K hK => S.o q.as (S.end (hK _ ?_))
  clear hK K
  refine Ev.seq ?_
  refine Ev.sr fun K hK => S.o q.as (S.end (hK _ ?_))
  clear hK K
  refine Ev.block ?_
  refine Ev.weaken (Wk.nown pairC 5 52 2) ?_
  refine Ev.loopU (ι := {p : List (Int × Int) × List (Int × Int) // p.1 ++ p.2 = (lstV m) ∧ True}) [2, 0, 1] [1, 2, 4] (fun ⟨(pre, suf), _⟩ => [(6, .lit (.int .i64 ((pre.length : Int)))), (5, .als 0 0 (W pre).length)]) (fun ⟨(pre, suf), _⟩ => [(0, ⟨true, 52, 2, (W pre).map pairC, true⟩), (1, ⟨false, 30, 2, [[.lit (.int .i64 (least)), .sh 2 ((lstV m).map pairC)]], true⟩), (2, ⟨false, 30, 2, [[.lit (.int .i64 (0)), .lit (.slice none 0 0)]], true⟩)]) (fun ⟨(pre, suf), _⟩ => suf.length) ⟨([], (lstV m)), rfl, trivial⟩ (.c (.c (.c .n))) (keep_c (he := (by first | rfl | (rw [hW0]; done) | (rw [hW1 _ _ (by simp only; omega) (by simp only; omega)]; done) | (rw [hW2 _ _ (by simp only; omega) (by simp only; omega)]; done) | (rw [hW3 _ _ (by simp only; omega) (by simp only; omega)]; done))) (h := (keep_c (he := (by first | rfl | (simp; done))) (h := (keep_c (he := (by first | rfl | (simp; done))) (h := keep_n)))))) (slots_c (he := (by first | rfl | (congr 2; simp; done))) (h := (slots_c (he := (by first | rfl | (rw [hW0]; done) | (rw [hW1 _ _ (by simp only; omega) (by simp only; omega)]; done) | (rw [hW2 _ _ (by simp only; omega) (by simp only; omega)]; done) | (rw [hW3 _ _ (by simp only; omega) (by simp only; omega)]; done))) (h := trivial)))) ?_
  rintro ⟨⟨pre, suf⟩, hp, hinv⟩ R0 hR0
  dsimp only [List.cons_append, List.nil_append, List.length_cons, List.length_nil]
  simp only at hp hinv
  have hpl : pre.length + suf.length = ((lstV m)).length := by rw [← hp, List.length_append]
  rcases suf with _ | ⟨s, suf⟩
  · rw [List.append_nil] at hp; simp only [List.length_nil] at hpl
    subst hp
    refine Ev.seq ?_
    refine Ev.sr fun K hK => S.o q.mv (S.o (q.fa 1 am_fi30_1 am_cl28) (S.o (q.lv am_ag28) (S.o (q.lens am_el28) (S.o q.lss (S.end (hK _ ?_))))))
    clear hK K
    refine Ev.cd (fun c1 => ?_) (fun c1 => ?_)
    · first | omega | contradiction | (exfalso; simp at *; done)
    · first
    | (first | omega | contradiction)
    | refine Ev.exit ?_
      refine hR0 _ _ ?_
      show Ev _ _ _ _
      refine Ev.weaken (Wk.frz 5 [_, _]) ?_
      refine Ev.sr fun K hK => S.o (q.fa 0 am_fi30_0 am_cl3) (S.o (q.lv am_ag3) (S.o q.mv (S.o (q.bd [_, _] am_ze30 am_pl30) (S.sv [_, _] true [_] am_in30 am_cl30 (h := S.end (hK _ ?_))))))
      clear hK K
      refine Ev.ret ?_
      refine Ev.retv1 (res_c [_, _] am_ag30 am_cl30 res_n) ?_
      refine ⟨?_, rfl⟩
      all_goals first | rfl | (rw [hWe]; done) | (rw [hWe]; rfl)
  · simp only [List.length_cons] at hpl
    have hidx : (lstV m)[pre.length]? = some s := by rw [← hp]; simp
    obtain ⟨o1, o2, o3, o4⟩ := hLK s (by rw [← hp]; simp)
    have hkx := key_ix hw.nd hk hidx
    have hwl := hWl pre
    obtain ⟨sx, sy⟩ := s
    simp only at o1 o2 o3 o4 hkx
    refine Ev.seq ?_
    refine Ev.sr fun K hK => S.o q.mv (S.o (q.fa 1 am_fi30_1 am_cl28) (S.o (q.lv am_ag28) (S.o (q.lens am_el28) (S.o q.lss (S.end (hK _ ?_))))))
    clear hK K
    refine Ev.cd (fun c2 => ?_) (fun c2 => ?_)
    · first
    | (first | omega | contradiction)
    | refine Ev.skip ?_
      show Ev _ _ _ _
      refine Ev.seq ?_
      refine Ev.block ?_
      refine Ev.sr fun K hK => S.o (q.fa 1 am_fi30_1 am_cl28) (S.o (q.lv am_ag28) (S.o q.mv (S.o (q.ix am_el28 am_cl52 (hl := (by first | exact ati hidx (by omega) | exact atig (by omega)))) (S.o (q.lsA [_, _] am_ag52 am_cl52) (S.nn (q.al am_ze52) (S.sv [_, _] true [_, _, _] am_in52 am_cl52 (h := S.end (hK _ ?_))))))))
      clear hK K
      refine Ev.seq ?_
      refine Ev.sr fun K hK => S.o q.mv (S.o q.mv (S.o q.eql (S.end (hK _ ?_))))
      clear hK K
      refine Ev.cd (fun c3 => ?_) (fun c3 => ?_)
      · first
      | (first | omega | contradiction)
      | refine Ev.region_S fun K hK => S.o (q.fa 1 am_fi52_1 am_cl3) (S.o (q.lv am_ag3) (S.o q.sub (S.o (q.fa 1 am_fi52_1 am_cl3) (S.sv [_, _] true [_, _, _] am_in3 am_cl3 (h := S.end (hK _ ?_))))))
        clear hK K
        show Ev _ _ _ _
        refine Ev.sr fun K hK => S.o (q.fa 1 am_fi52_1 am_cl3) (S.o (q.lv am_ag3) (S.o q.gtr (S.end (hK _ ?_))))
        clear hK K
        refine Ev.cd (fun c4 => ?_) (fun c4 => ?_)
        · first
        | (first | omega | contradiction)
        | refine Ev.region_S fun K hK => S.o q.mv (S.o (q.lvA [_, _] am_ag52 am_cl52) (S.nn (q.bs [[_, _]] true am_el28 am_ze52 am_cl52) (S.ap' [_, _, _, _] am_el28 am_ze52 am_cl52 am_by52 (hh := head_own') (hr := (rows_lit [(⟨_, _⟩ : Int × Int)])) (h := S.o q.as (S.end (hK _ ?_))))))
          clear hK K
          show Ev _ _ _ _
          refine Ev.region_S fun K hK => S.o q.mv (S.o q.add (S.o q.as (S.end (hK _ ?_))))
          clear hK K
          refine hR0 _ _ ?_
          refine roundU [5, 1, 2] [1, 2, 4] ⟨(pre ++ [(sx, sy)], suf), by rw [← hp]; simp, ?_⟩ ?_ (keep_c (he := (by first | rfl | (rw [hW0]; done) | (rw [hW1 _ _ (by simp only; omega) (by simp only; omega)]; done) | (rw [hW2 _ _ (by simp only; omega) (by simp only; omega)]; done) | (rw [hW3 _ _ (by simp only; omega) (by simp only; omega)]; done))) (h := (keep_c (he := (by first | rfl | (simp; done))) (h := (keep_c (he := (by first | rfl | (simp; done))) (h := keep_n)))))) (slots_c (he := (by first | rfl | (congr 2; simp; done))) (h := (slots_c (he := (by first | rfl | (rw [hW0]; done) | (rw [hW1 _ _ (by simp only; omega) (by simp only; omega)]; done) | (rw [hW2 _ _ (by simp only; omega) (by simp only; omega)]; done) | (rw [hW3 _ _ (by simp only; omega) (by simp only; omega)]; done))) (h := trivial)))) (.c (.c (.c .n)))
          trivial
          all_goals (dsimp only; simp only [List.length_cons]; omega)
        · first
        | (first | omega | contradiction)
        | refine Ev.skip ?_
          show Ev _ _ _ _
          refine Ev.region_S fun K hK => S.o q.mv (S.o q.add (S.o q.as (S.end (hK _ ?_))))
          clear hK K
          refine hR0 _ _ ?_
          refine roundU [0, 1, 2] [1, 2, 4] ⟨(pre ++ [(sx, sy)], suf), by rw [← hp]; simp, ?_⟩ ?_ (keep_c (he := (by first | rfl | (rw [hW0]; done) | (rw [hW1 _ _ (by simp only; omega) (by simp only; omega)]; done) | (rw [hW2 _ _ (by simp only; omega) (by simp only; omega)]; done) | (rw [hW3 _ _ (by simp only; omega) (by simp only; omega)]; done))) (h := (keep_c (he := (by first | rfl | (simp; done))) (h := (keep_c (he := (by first | rfl | (simp; done))) (h := keep_n)))))) (slots_c (he := (by first | rfl | (congr 2; simp; done))) (h := (slots_c (he := (by first | rfl | (rw [hW0]; done) | (rw [hW1 _ _ (by simp only; omega) (by simp only; omega)]; done) | (rw [hW2 _ _ (by simp only; omega) (by simp only; omega)]; done) | (rw [hW3 _ _ (by simp only; omega) (by simp only; omega)]; done))) (h := trivial)))) (.c (.c (.c .n)))
          trivial
          all_goals (dsimp only; simp only [List.length_cons]; omega)
      · first
      | (first | omega | contradiction)
      | refine Ev.skip ?_
        show Ev _ _ _ _
        refine Ev.sr fun K hK => S.o (q.fa 1 am_fi52_1 am_cl3) (S.o (q.lv am_ag3) (S.o q.gtr (S.end (hK _ ?_))))
        clear hK K
        refine Ev.cd (fun c5 => ?_) (fun c5 => ?_)
        · first
        | (first | omega | contradiction)
        | refine Ev.region_S fun K hK => S.o q.mv (S.o (q.lvA [_, _] am_ag52 am_cl52) (S.nn (q.bs [[_, _]] true am_el28 am_ze52 am_cl52) (S.ap' [_, _, _, _] am_el28 am_ze52 am_cl52 am_by52 (hh := head_own') (hr := (rows_lit [(⟨_, _⟩ : Int × Int)])) (h := S.o q.as (S.end (hK _ ?_))))))
          clear hK K
          show Ev _ _ _ _
          refine Ev.region_S fun K hK => S.o q.mv (S.o q.add (S.o q.as (S.end (hK _ ?_))))
          clear hK K
          refine hR0 _ _ ?_
          refine roundU [5, 1, 2] [1, 2, 4] ⟨(pre ++ [(sx, sy)], suf), by rw [← hp]; simp, ?_⟩ ?_ (keep_c (he := (by first | rfl | (rw [hW0]; done) | (rw [hW1 _ _ (by simp only; omega) (by simp only; omega)]; done) | (rw [hW2 _ _ (by simp only; omega) (by simp only; omega)]; done) | (rw [hW3 _ _ (by simp only; omega) (by simp only; omega)]; done))) (h := (keep_c (he := (by first | rfl | (simp; done))) (h := (keep_c (he := (by first | rfl | (simp; done))) (h := keep_n)))))) (slots_c (he := (by first | rfl | (congr 2; simp; done))) (h := (slots_c (he := (by first | rfl | (rw [hW0]; done) | (rw [hW1 _ _ (by simp only; omega) (by simp only; omega)]; done) | (rw [hW2 _ _ (by simp only; omega) (by simp only; omega)]; done) | (rw [hW3 _ _ (by simp only; omega) (by simp only; omega)]; done))) (h := trivial)))) (.c (.c (.c .n)))
          trivial
          all_goals (dsimp only; simp only [List.length_cons]; omega)
        · first
        | (first | omega | contradiction)
        | refine Ev.skip ?_
          show Ev _ _ _ _
          refine Ev.region_S fun K hK => S.o q.mv (S.o q.add (S.o q.as (S.end (hK _ ?_))))
          clear hK K
          refine hR0 _ _ ?_
          refine roundU [0, 1, 2] [1, 2, 4] ⟨(pre ++ [(sx, sy)], suf), by rw [← hp]; simp, ?_⟩ ?_ (keep_c (he := (by first | rfl | (rw [hW0]; done) | (rw [hW1 _ _ (by simp only; omega) (by simp only; omega)]; done) | (rw [hW2 _ _ (by simp only; omega) (by simp only; omega)]; done) | (rw [hW3 _ _ (by simp only; omega) (by simp only; omega)]; done))) (h := (keep_c (he := (by first | rfl | (simp; done))) (h := (keep_c (he := (by first | rfl | (simp; done))) (h := keep_n)))))) (slots_c (he := (by first | rfl | (congr 2; simp; done))) (h := (slots_c (he := (by first | rfl | (rw [hW0]; done) | (rw [hW1 _ _ (by simp only; omega) (by simp only; omega)]; done) | (rw [hW2 _ _ (by simp only; omega) (by simp only; omega)]; done) | (rw [hW3 _ _ (by simp only; omega) (by simp only; omega)]; done))) (h := trivial)))) (.c (.c (.c .n)))
          trivial
          all_goals (dsimp only; simp only [List.length_cons]; omega)
    · first | omega | contradiction | (exfalso; simp at *; done)
end Go.Proofs.Ytaggnajjmopobaa

namespace Go.Proofs.Ytaggnajjmopobaa
open Go Go.AM
set_option linter.unusedSimpArgs false
set_option linter.unusedVariables false
set_option maxRecDepth 100000
set_option maxHeartbeats 2000000
theorem rTake_fun (least n : Int) (m : Mp) (hw : WfM least m) : Fun Try.prog 32 [.agg [.lit (.int .i64 least), .sh 2 ((lstV m).map pairC)], .lit (.int .i64 n)] (Ret (.tup [.agg [.lit (.int .i64 least), .sh 2 ((lstV (sTkV least m n)).map pairC)], .lit (.int .i64 (sTkB least m n)), .lit (.int .i64 (sTkE least m n))]) []) := by
  have hll := lstV_len m
  have hml := hw.len
  have hLK := lst_ok hw
  have hB := last_best (n := n) hw
  obtain ⟨hB1, hB2⟩ := hB
  obtain ⟨G, hG⟩ : ∃ G : Mp → Int, G = fun l => lastG l n := ⟨_, rfl⟩
  have hG0 : G [] = -1 := by rw [hG]; rfl
  have hG1 : ∀ l (s : Int × Int), s.1 ≥ n → G (l ++ [s]) = l.length := fun l s h => by rw [hG]; exact (lastG_snoc l n s).trans (if_pos h)
  have hG2 : ∀ l (s : Int × Int), ¬ s.1 ≥ n → G (l ++ [s]) = G l := fun l s h => by rw [hG]; exact (lastG_snoc l n s).trans (if_neg h)
  have hGe : lastG (lstV m) n = G (lstV m) := by rw [hG]
  rw [hGe] at hB1 hB2
  refine Fun.of (nt := 64) (rs := [.cell 4 30, .tmp 5, .tmp 6]) Try.func32 rfl rfl rfl rfl rfl ?_
  refine Ev.sr fun K hK => S.nn (q.bx [_, _] true) (S.nn (q.al am_ze30) (S.o q.as (S.o q.as (S.end (hK _ ?_)))))
  clear hK K
  refine Ev.seq ?_
  refine Ev.sr fun K hK => S.o q.mv (S.c0 (hF := rLen_fun n) (h := S.o q.not (S.end (hK _ ?_))))
  clear hK K
  refine Ev.cn (fun c1 => ?_) (fun c1 => ?_)
  · first
  | (first | omega | contradiction)
  | obtain ⟨e1, e2, e3⟩ := sTk_no (least := least) (m := m) ‹¬ inL n›
    rw [e1, e2, e3]
    refine Ev.sr fun K hK => S.o (q.lvA [_, _] am_ag30 am_cl30) (S.sv [_, _] true [_] am_in30 am_cl30 (h := S.o q.as (S.o q.as (S.end (hK _ ?_)))))
    clear hK K
    refine Ev.ret ?_
    refine Ev.retv3 (res_c [_, _] am_ag30 am_cl30 (res_t (res_t res_n))) ?_
    refine ⟨?_, rfl⟩
    all_goals first | rfl | (congr 2 <;> omega) | (rw [hbe]; done) | (rw [hbe] <;> rfl)
  · first
  | (first | omega | contradiction)
  | refine Ev.skip ?_
    show Ev _ _ _ _
    have hin : inL n := ‹_›
    have hn1 := hin.1
    have hn2 := hin.2
    refine Ev.sr fun K hK => S.o q.as (S.end (hK _ ?_))
    clear hK K
    refine Ev.seq ?_
    refine Ev.sr fun K hK => S.o q.as (S.end (hK _ ?_))
    clear hK K
    refine Ev.block ?_
    refine Ev.loopU (ι := {p : List (Int × Int) × List (Int × Int) // p.1 ++ p.2 = (lstV m) ∧ True}) [0, 1] [1, 2, 4, 5, 6] (fun ⟨(pre, suf), _⟩ => [(8, .lit (.int .i64 ((pre.length : Int)))), (7, .lit (.int .i64 (G pre)))]) (fun ⟨(pre, suf), _⟩ => [(0, ⟨false, 30, 2, [[.lit (.int .i64 (least)), .sh 2 ((lstV m).map pairC)]], true⟩), (1, ⟨false, 30, 2, [[.lit (.int .i64 (0)), .lit (.slice none 0 0)]], true⟩)]) (fun ⟨(pre, suf), _⟩ => suf.length) ⟨([], (lstV m)), rfl, trivial⟩ (.c (.c (.c (.c (.c .n))))) (keep_c (he := (by first | rfl | (simp; done))) (h := (keep_c (he := (by first | rfl | (simp; done))) (h := keep_n)))) (slots_c (he := (by first | rfl | (congr 2; simp; done))) (h := (slots_c (he := (by first | rfl | (rw [hG0]; done) | (rw [hG1 _ _ (by simp only; omega)]; done) | (rw [hG2 _ _ (by simp only; omega)]; done))) (h := trivial)))) ?_
    rintro ⟨⟨pre, suf⟩, hp, hinv⟩ R0 hR0
    dsimp only [List.cons_append, List.nil_append, List.length_cons, List.length_nil]
    simp only at hp hinv
    have hpl : pre.length + suf.length = ((lstV m)).length := by rw [← hp, List.length_append]
    rcases suf with _ | ⟨s, suf⟩
    · rw [List.append_nil] at hp; simp only [List.length_nil] at hpl
      subst hp
      refine Ev.seq ?_
      refine Ev.sr fun K hK => S.o q.mv (S.o (q.fa 1 am_fi30_1 am_cl28) (S.o (q.lv am_ag28) (S.o (q.lens am_el28) (S.o q.lss (S.end (hK _ ?_))))))
      clear hK K
      refine Ev.cd (fun c2 => ?_) (fun c2 => ?_)
      · first | omega | contradiction | (exfalso; simp at *; done)
      · first
      | (first | omega | contradiction)
      | refine Ev.exit ?_
        refine hR0 _ _ ?_
        show Ev _ _ _ _
        refine Ev.seq ?_
        refine Ev.sr fun K hK => S.o q.mv (S.o q.lss (S.end (hK _ ?_)))
        clear hK K
        refine Ev.cd (fun c3 => ?_) (fun c3 => ?_)
        · first
        | (first | omega | contradiction)
        | have hb0 := hB1 (by omega)
          have hT := tk_none (least := least) hb0
          obtain ⟨e1, e2, e3⟩ := sTk_bad (least := least) hin (by rw [hT.e]; decide)
          rw [e1, e2, e3]
          rw [hT.e]
          refine Ev.sr fun K hK => S.o (q.lvA [_, _] am_ag30 am_cl30) (S.sv [_, _] true [_] am_in30 am_cl30 (h := S.o q.as (S.o q.as (S.end (hK _ ?_)))))
          clear hK K
          refine Ev.ret ?_
          refine Ev.retv3 (res_c [_, _] am_ag30 am_cl30 (res_t (res_t res_n))) ?_
          refine ⟨?_, rfl⟩
          all_goals first | rfl | (congr 2 <;> omega) | (rw [hbe]; done) | (rw [hbe] <;> rfl)
        · first
        | (first | omega | contradiction)
        | refine Ev.skip ?_
          show Ev _ _ _ _
          obtain ⟨b, hix, hbe, hb0, hkl⟩ := hB2 (by omega)
          obtain ⟨bx, bz⟩ := b
          simp only at hbe
          obtain ⟨hb1, hb2, hb3⟩ := hw.best_bd n
          obtain ⟨hb4, hb5, hb6⟩ := hb3 hb0
          have hbk : G (lstV m) < (lstV m).length := by omega
          refine Ev.sr fun K hK => S.o (q.fa 1 am_fi30_1 am_cl28) (S.o (q.lv am_ag28) (S.o q.mv (S.o (q.ix am_el28 am_cl52 (hl := (by first | exact ati hix (by omega) | exact atig (by omega)))) (S.o (q.fs 0 am_fi52_0 am_cl3) (S.o (q.ls am_ag3) (S.o q.as (S.end (hK _ ?_))))))))
          clear hK K
          refine Ev.seq ?_
          refine Ev.sr fun K hK => S.o q.mv (S.o q.mv (S.o q.eql (S.end (hK _ ?_))))
          clear hK K
          refine Ev.cd (fun c4 => ?_) (fun c4 => ?_)
          · first
          | (first | omega | contradiction)
          | have hT := tk_eq (least := least) hb0 (by omega)
            obtain ⟨e1, e2, e3⟩ := sTk_ok (least := least) hin hT.e
            rw [e1, e2, e3]
            rw [hT.b, hT.v]
            refine Ev.sr fun K hK => S.o (q.lvA [_, _] am_ag30 am_cl30) (S.o q.mv (S.c0 (hF := rWithout_fun least _ m (bx, bz) hw (by omega) hix) (h := ?_)))
            rw [hbe]
            refine S.o q.mv (S.sv [_, _] true [_] am_in30 am_cl30 (h := S.o q.as (S.o q.as (S.end (hK _ ?_)))))
            clear hK K
            refine Ev.ret ?_
            refine Ev.retv3 (res_c [_, _] am_ag30 am_cl30 (res_t (res_t res_n))) ?_
            refine ⟨?_, rfl⟩
            all_goals first | rfl | (congr 2 <;> omega) | (rw [hbe]; done) | (rw [hbe] <;> rfl)
          · first
          | (first | omega | contradiction)
          | refine Ev.skip ?_
            show Ev _ _ _ _
            have hgt : (bestK m n) > n := by omega
            have hin2 : inC ((bestK m n) - n) 1 := ⟨⟨by omega, by omega⟩, by decide, by decide⟩
            have hpe : sPutE least (cutM m (bestK m n)) ((bestK m n) - n) 1 = putE least (cutM m (bestK m n)) ((bestK m n) - n) 1 := if_pos hin2
            refine Ev.sr fun K hK => S.o (q.lvA [_, _] am_ag30 am_cl30) (S.o q.mv (S.c0 (hF := rWithout_fun least _ m (bx, bz) hw (by omega) hix) (h := ?_)))
            rw [hbe]
            refine S.o q.mv (S.o q.mv (S.o q.sub (S.c0 (hF := rPut_fun least ((bestK m n) - n) 1 (cutM m (bestK m n)) (cut_wf hw hb4)) (h := S.o q.mv (S.o q.ex (S.o q.ex (S.nn (q.al am_ze30) (S.sv [_, _] true [_, _] am_in30 am_cl30 (h := S.o q.as (S.end (hK _ ?_)))))))))))
            clear hK K
            refine Ev.seq ?_
            refine Ev.sr fun K hK => S.o q.mv (S.o q.neq (S.end (hK _ ?_)))
            clear hK K
            refine Ev.cn (fun c5 => ?_) (fun c5 => ?_)
            · first
            | (first | omega | contradiction)
            | have hT := tk_bad (least := least) hb0 hgt (by omega)
              obtain ⟨e1, e2, e3⟩ := sTk_bad (least := least) hin (by rw [hT.e]; omega)
              rw [e1, e2, e3]
              rw [hT.e, hpe]
              refine Ev.sr fun K hK => S.o (q.lvA [_, _] am_ag30 am_cl30) (S.o q.mv (S.sv [_, _] true [_, _] am_in30 am_cl30 (h := S.o q.as (S.o q.as (S.end (hK _ ?_))))))
              clear hK K
              refine Ev.ret ?_
              refine Ev.retv3 (res_c [_, _] am_ag30 am_cl30 (res_t (res_t res_n))) ?_
              refine ⟨?_, rfl⟩
              all_goals first | rfl | (congr 2 <;> omega) | (rw [hbe]; done) | (rw [hbe] <;> rfl)
            · first
            | (first | omega | contradiction)
            | refine Ev.skip ?_
              show Ev _ _ _ _
              have hT := tk_ok (least := least) hb0 hgt (by omega)
              obtain ⟨e1, e2, e3⟩ := sTk_ok (least := least) hin hT.e
              rw [e1, e2, e3]
              rw [hT.b, hT.v, (sPut_ok hin2 (by omega)).2]
              refine Ev.sr fun K hK => S.o (q.lvA [_, _] am_ag30 am_cl30) (S.o q.mv (S.sv [_, _] true [_, _] am_in30 am_cl30 (h := S.o q.as (S.o q.as (S.end (hK _ ?_))))))
              clear hK K
              refine Ev.ret ?_
              refine Ev.retv3 (res_c [_, _] am_ag30 am_cl30 (res_t (res_t res_n))) ?_
              refine ⟨?_, rfl⟩
              all_goals first | rfl | (congr 2 <;> omega) | (rw [hbe]; done) | (rw [hbe] <;> rfl)
    · simp only [List.length_cons] at hpl
      have hidx : (lstV m)[pre.length]? = some s := by rw [← hp]; simp
      obtain ⟨sx, sy⟩ := s
      refine Ev.seq ?_
      refine Ev.sr fun K hK => S.o q.mv (S.o (q.fa 1 am_fi30_1 am_cl28) (S.o (q.lv am_ag28) (S.o (q.lens am_el28) (S.o q.lss (S.end (hK _ ?_))))))
      clear hK K
      refine Ev.cd (fun c6 => ?_) (fun c6 => ?_)
      · first
      | (first | omega | contradiction)
      | refine Ev.skip ?_
        show Ev _ _ _ _
        refine Ev.seq ?_
        refine Ev.block ?_
        refine Ev.sr fun K hK => S.o (q.fa 1 am_fi30_1 am_cl28) (S.o (q.lv am_ag28) (S.o q.mv (S.o (q.ix am_el28 am_cl52 (hl := (by first | exact ati hix (by omega) | exact ati hidx (by omega) | exact atig (by omega)))) (S.o (q.fs 0 am_fi52_0 am_cl3) (S.o (q.ls am_ag3) (S.o q.mv (S.o q.geq (S.end (hK _ ?_)))))))))
        clear hK K
        refine Ev.cd (fun c7 => ?_) (fun c7 => ?_)
        · first
        | (first | omega | contradiction)
        | refine Ev.region_S fun K hK => S.o q.mv (S.o q.as (S.end (hK _ ?_)))
          clear hK K
          show Ev _ _ _ _
          refine Ev.region_S fun K hK => S.o q.mv (S.o q.add (S.o q.as (S.end (hK _ ?_))))
          clear hK K
          refine hR0 _ _ ?_
          refine roundU [0, 1] [1, 2, 4, 5, 6] ⟨(pre ++ [(sx, sy)], suf), by rw [← hp]; simp, ?_⟩ ?_ (keep_c (he := (by first | rfl | (simp; done))) (h := (keep_c (he := (by first | rfl | (simp; done))) (h := keep_n)))) (slots_c (he := (by first | rfl | (congr 2; simp; done))) (h := (slots_c (he := (by first | rfl | (rw [hG0]; done) | (rw [hG1 _ _ (by simp only; omega)]; done) | (rw [hG2 _ _ (by simp only; omega)]; done))) (h := trivial)))) (.c (.c (.c (.c (.c .n)))))
          trivial
          all_goals (dsimp only; simp only [List.length_cons]; omega)
        · first
        | (first | omega | contradiction)
        | refine Ev.skip ?_
          show Ev _ _ _ _
          refine Ev.region_S fun K hK => S.o q.mv (S.o q.add (S.o q.as (S.end (hK _ ?_))))
          clear hK K
          refine hR0 _ _ ?_
          refine roundU [0, 1] [1, 2, 4, 5, 6] ⟨(pre ++ [(sx, sy)], suf), by rw [← hp]; simp, ?_⟩ ?_ (keep_c (he := (by first | rfl | (simp; done))) (h := (keep_c (he := (by first | rfl | (simp; done))) (h := keep_n)))) (slots_c (he := (by first | rfl | (congr 2; simp; done))) (h := (slots_c (he := (by first | rfl | (rw [hG0]; done) | (rw [hG1 _ _ (by simp only; omega)]; done) | (rw [hG2 _ _ (by simp only; omega)]; done))) (h := trivial)))) (.c (.c (.c (.c (.c .n)))))
          trivial
          all_goals (dsimp only; simp only [List.length_cons]; omega)
      · first | omega | contradiction | (exfalso; simp at *; done)
end Go.Proofs.Ytaggnajjmopobaa

namespace Go.Proofs.Ytaggnajjmopobaa
open Go Go.AM
set_option linter.unusedSimpArgs false
set_option linter.unusedVariables false
set_option maxRecDepth 100000
set_option maxHeartbeats 2000000
theorem rServe_fun (least : Int) (m l : Mp) (hw : WfM least m) (hlen : l.length ≤ 140737488355328) : Fun Try.prog 33 [.agg [.lit (.int .i64 least), .sh 2 ((lstV m).map pairC)], .sh 2 (l.map pairC)] (Ret (.tup [.agg [.lit (.int .i64 least), .sh 2 ((lstV (sSvV least m l)).map pairC)], .sh 2 ((sSvO least m l).map pairC), .lit (.int .i64 (sSvE least m l))]) []) := by
  refine Fun.of (nt := 76) (rs := [.cell 4 30, .tmp 5, .tmp 6]) Try.func33 rfl rfl rfl rfl rfl ?_
  refine Ev.sr fun K hK => S.nn (q.bx [_, _] true) (S.nn (q.al am_ze30) (S.o q.as (S.o q.as (S.end (hK _ ?_)))))
  clear hK K
  refine Ev.seq ?_
  refine Ev.sr fun K hK => S.o q.mv (S.c0 (hF := rorder_fun l (by omega)) (h := S.o q.not (S.end (hK _ ?_))))
  clear hK K
  refine Ev.cn (fun c1 => ?_) (fun c1 => ?_)
  · first
  | (first | omega | contradiction)
  | have hR := svR_arg (least := least) (m := m) ‹¬ okOrd l›
    rw [hR.e, hR.v, hR.o]
    refine Ev.sr fun K hK => S.o (q.lvA [_, _] am_ag30 am_cl30) (S.sv [_, _] true [_] am_in30 am_cl30 (h := S.o q.as (S.o q.as (S.end (hK _ ?_)))))
    clear hK K
    refine Ev.weaken (Wk.nsh pairC 5 2) ?_
    refine Ev.ret ?_
    refine Ev.retv3 (res_c [_, _] am_ag30 am_cl30 (res_t (res_t res_n))) ?_
    refine ⟨?_, rfl⟩
    all_goals first | rfl | (rw [hR.e, hR.v, hR.o]; done) | (rw [hR.e, hR.v, hR.o] <;> rfl) | (simp; done)
  · first
  | (first | omega | contradiction)
  | refine Ev.skip ?_
    show Ev _ _ _ _
    refine Ev.seq ?_
    have hok : okOrd l := ‹_›
    have hll := hok.1
    refine Ev.sr fun K hK => S.o q.mv (S.c0 (hF := rPieces_fun l hok) (h := S.o q.gtr (S.end (hK _ ?_))))
    clear hK K
    refine Ev.cd (fun c2 => ?_) (fun c2 => ?_)
    · first
    | (first | omega | contradiction)
    | have hR := svR_list (least := least) (m := m) hok (by omega)
      rw [hR.e, hR.v, hR.o]
      refine Ev.sr fun K hK => S.o (q.lvA [_, _] am_ag30 am_cl30) (S.sv [_, _] true [_] am_in30 am_cl30 (h := S.o q.as (S.o q.as (S.end (hK _ ?_)))))
      clear hK K
      refine Ev.weaken (Wk.nsh pairC 5 2) ?_
      refine Ev.ret ?_
      refine Ev.retv3 (res_c [_, _] am_ag30 am_cl30 (res_t (res_t res_n))) ?_
      refine ⟨?_, rfl⟩
      all_goals first | rfl | (rw [hR.e, hR.v, hR.o]; done) | (rw [hR.e, hR.v, hR.o] <;> rfl) | (simp; done)
    · first
    | (first | omega | contradiction)
    | refine Ev.skip ?_
      show Ev _ _ _ _
      have hnm : numP l ≤ 1000 := by omega
      have hshe : shE l = if shG l then 0 else 5 := rfl
      refine Ev.sr fun K hK => S.o q.mv (S.c0 (hF := rShort_fun l hok.2 (by omega)) (h := S.o q.mv (S.o q.ex (S.o q.ex (S.o q.as (S.o q.as (S.end (hK _ ?_))))))))
      clear hK K
      refine Ev.seq ?_
      refine Ev.sr fun K hK => S.o q.mv (S.o q.neq (S.end (hK _ ?_)))
      clear hK K
      refine Ev.cn (fun c3 => ?_) (fun c3 => ?_)
      · first
      | (first | omega | contradiction)
      | have hng : ¬ shG l := fun h => by rw [if_pos h] at hshe; omega
        have hR := svR_short (least := least) (m := m) hok hnm hng
        rw [hR.e, hR.v, hR.o]
        rw [show shE l = 5 from if_neg hng]
        refine Ev.sr fun K hK => S.o (q.lvA [_, _] am_ag30 am_cl30) (S.o q.mv (S.sv [_, _] true [_] am_in30 am_cl30 (h := S.o q.as (S.o q.as (S.end (hK _ ?_))))))
        clear hK K
        refine Ev.weaken (Wk.nsh pairC 5 2) ?_
        refine Ev.ret ?_
        refine Ev.retv3 (res_c [_, _] am_ag30 am_cl30 (res_t (res_t res_n))) ?_
        refine ⟨?_, rfl⟩
        all_goals first | rfl | (rw [hR.e, hR.v, hR.o]; done) | (rw [hR.e, hR.v, hR.o] <;> rfl) | (simp; done)
      · first
      | (first | omega | contradiction)
      | refine Ev.skip ?_
        show Ev _ _ _ _
        have hgd : shG l := Classical.byContradiction fun h => by rw [if_neg h] at hshe; omega
        have hA := serve_ref hw hok hnm hgd
        have hLl := listP_len (skP l) hA.ord.2
        have hLn := hA.num
        rw [show shV l = skP l from if_pos hgd]
        refine Ev.sr fun K hK => S.o q.mv (S.c0 (hF := rList_fun (skP l) hA.ord hA.num) (h := S.o q.as (S.end (hK _ ?_))))
        clear hK K
        refine Ev.sr fun K hK => S.o (q.lvA [_, _] am_ag30 am_cl30) (S.nn (q.al am_ze30) (S.sv [_, _] true [_, _] am_in30 am_cl30 (h := S.end (hK _ ?_))))
        clear hK K
        refine Ev.sr fun K hK => S.o q.as (S.end (hK _ ?_))
        clear hK K
        refine Ev.seq ?_
        refine Ev.sr fun K hK => S.o q.as (S.end (hK _ ?_))
        clear hK K
        refine Ev.block ?_
        refine Ev.weaken (Wk.nown pairC 11 52 2) ?_
        refine Ev.loopU (ι := {q : List Int × List Int // q.1 ++ q.2 = (listP (skP l)) ∧ (rvA least m q.1).e = 0}) [0, 1, 2, 3] [2, 4, 9, 10] (fun ⟨(pre, suf), _⟩ => [(12, .lit (.int .i64 ((pre.length : Int)))), (11, .als 3 0 ((rvA least m pre).out).length)]) (fun ⟨(pre, suf), _⟩ => [(0, ⟨false, 30, 2, [[.lit (.int .i64 (least)), .sh 2 ((lstV m).map pairC)]], true⟩), (1, ⟨false, 30, 2, [[.lit (.int .i64 (0)), .lit (.slice none 0 0)]], true⟩), (2, ⟨false, 30, 2, [[.lit (.int .i64 (least)), .sh 2 ((lstV (rvA least m pre).m).map pairC)]], true⟩), (3, ⟨true, 52, 2, ((rvA least m pre).out).map pairC, true⟩)]) (fun ⟨(pre, suf), _⟩ => suf.length) ⟨([], (listP (skP l))), rfl, rfl⟩ (.c (.c (.c (.c .n)))) (keep_c (he := (by first | rfl | (simp; done))) (h := (keep_c (he := (by first | rfl | (simp; done))) (h := (keep_c (he := (by first | rfl | (rw [hst, hsv]; done) | (rw [hst]; done) | (rw [hst, hsv] <;> rfl))) (h := (keep_c (he := (by first | rfl | (rw [hst]; done) | (rw [hst] <;> rfl))) (h := keep_n)))))))) (slots_c (he := (by first | rfl | (congr 2; simp; done))) (h := (slots_c (he := (by first | rfl | (rw [hst]; done) | (rw [hst] <;> rfl))) (h := trivial)))) ?_
        rintro ⟨⟨pre, suf⟩, hp, hinv⟩ R0 hR0
        dsimp only [List.cons_append, List.nil_append, List.length_cons, List.length_nil]
        simp only at hp hinv
        have hpl : pre.length + suf.length = ((listP (skP l))).length := by rw [← hp, List.length_append]
        rcases suf with _ | ⟨s, suf⟩
        · rw [List.append_nil] at hp; simp only [List.length_nil] at hpl
          subst hp
          have hpe : (rvA least m (listP (skP l))).e = 0 := hinv
          refine Ev.seq ?_
          refine Ev.sr fun K hK => S.o q.mv (S.o q.mv (S.o (q.lens am_el70) (S.o q.lss (S.end (hK _ ?_)))))
          clear hK K
          refine Ev.cd (fun c4 => ?_) (fun c4 => ?_)
          · first | omega | contradiction | (exfalso; simp at *; done)
          · first
          | (first | omega | contradiction)
          | refine Ev.exit ?_
            refine hR0 _ _ ?_
            show Ev _ _ _ _
            refine Ev.weaken (Wk.frz 11 [_, _, _]) ?_
            obtain ⟨hR, hg1, hg2⟩ := hA.good hpe
            have hrl := (rvA_good hw (listP (skP l)) hA.ok).2.1
            rw [hR.e, hR.v, hR.o]
            refine Ev.sr fun K hK => S.o q.mv (S.c0 (hF := rShort_fun (rvA least m (listP (skP l))).out hg2 (by omega)) (h := ?_))
            rw [show shV (rvA least m (listP (skP l))).out = skP (rvA least m (listP (skP l))).out from if_pos hg1]
            refine S.o q.mv (S.o q.ex (S.o q.ex (S.o q.as (S.o q.as (S.end (hK _ ?_))))))
            clear hK K
            refine Ev.sr fun K hK => S.o (q.lvA [_, _] am_ag30 am_cl30) (S.o q.mv (S.sv [_, _] true [_, _] am_in30 am_cl30 (h := S.o q.as (S.o q.as (S.end (hK _ ?_))))))
            clear hK K
            refine Ev.ret ?_
            refine Ev.retv3 (res_c [_, _] am_ag30 am_cl30 (res_t (res_t res_n))) ?_
            refine ⟨?_, rfl⟩
            all_goals first | rfl | (rw [hR.e, hR.v, hR.o]; done) | (rw [hR.e, hR.v, hR.o] <;> rfl) | (simp; done)
        · simp only [List.length_cons] at hpl
          have hidx : (listP (skP l))[pre.length]? = some s := by rw [← hp]; simp
          have hpe : (rvA least m pre).e = 0 := hinv
          obtain ⟨hwp, hol, hoo⟩ := rvA_good hw pre (fun p h => hA.ok p (by rw [← hp]; simp [h]))
          have hsi : inL s := hA.ok s (by rw [← hp]; simp)
          have hte : sTkE least (rvA least m pre).m s = tkE least (rvA least m pre).m s := if_pos hsi
          refine Ev.seq ?_
          refine Ev.sr fun K hK => S.o q.mv (S.o q.mv (S.o (q.lens am_el70) (S.o q.lss (S.end (hK _ ?_)))))
          clear hK K
          refine Ev.cd (fun c5 => ?_) (fun c5 => ?_)
          · first
          | (first | omega | contradiction)
          | refine Ev.skip ?_
            show Ev _ _ _ _
            refine Ev.seq ?_
            refine Ev.block ?_
            refine Ev.stp (m := 14) (L0 := #[false, false, false, false, false, false, false, false, false, false, false, false, false, false]) rfl (by kernel_rfl) (by exact rfl) fun K hK => ?_
            refine HP.mv (i := 1) #[false, true, false, false, false, false, false, false, false, false, false, false, false, false] (by kernel_rfl) (by kernel_rfl) rfl (by decide) (h := ?_)
            refine HP.mv (i := 2) #[false, true, true, false, false, false, false, false, false, false, false, false, false, false] (by kernel_rfl) (by kernel_rfl) rfl (by decide) (h := ?_)
            refine HP.ix (i := 3) #[false, true, true, true, false, false, false, false, false, false, false, false, false, false] am_el70 am_cl3 (by decide) (by kernel_rfl) (by kernel_rfl) rfl (by decide) (hl := (by first | exact ati hidx (by omega) | exact atig (by omega))) (h := ?_)
            refine HP.ls1 (i := 4) #[false, true, true, true, true, false, false, false, false, false, false, false, false, false] am_ag3 (by kernel_rfl) (by kernel_rfl) rfl (by decide) (h := ?_)
            refine .done ?_
            refine HT.two (i := 0) (j := 10) #[true, true, true, true, true, false, false, false, false, false, false, false, false, false] #[false, true, true, true, true, false, false, false, false, false, true, false, false, false] trivial (by kernel_rfl) (by kernel_rfl) (by kernel_rfl) rfl rfl (by decide) (by decide) (S.o (q.lvA [_, _] am_ag30 am_cl30) (S.end ?_)) (S.nn (q.al am_ze30) (S.end ?_))
            · skip
              refine HT.two (i := 5) (j := 10) #[true, true, true, true, true, true, false, false, false, false, false, false, false, false] #[true, true, true, true, true, false, false, false, false, false, true, false, false, false] trivial (by kernel_rfl) (by kernel_rfl) (by kernel_rfl) rfl rfl (by decide) (by decide) (S.c0 (hF := rTake_fun least s (rvA least m pre).m hwp) (h := S.end ?_)) (S.nn (q.al am_ze30) (S.end ?_))
              · skip
                refine HT.mv (i := 6) #[true, true, true, true, true, true, true, false, false, false, false, false, false, false] trivial (by kernel_rfl) (by kernel_rfl) rfl (by decide) (h := ?_)
                refine HT.ex (i := 7) #[true, true, true, true, true, true, true, true, false, false, false, false, false, false] trivial (by kernel_rfl) (by kernel_rfl) rfl (by decide) (h := ?_)
                refine HT.ex (i := 8) #[true, true, true, true, true, true, true, true, true, false, false, false, false, false] trivial (by kernel_rfl) (by kernel_rfl) rfl (by decide) (h := ?_)
                refine HT.ex (i := 9) #[true, true, true, true, true, true, true, true, true, true, false, false, false, false] trivial (by kernel_rfl) (by kernel_rfl) rfl (by decide) (h := ?_)
                refine HT.one (i := 10) #[true, true, true, true, true, true, true, true, true, true, true, false, false, false] trivial (by kernel_rfl) (by kernel_rfl) rfl (by decide) (S.nn (q.al am_ze30) (S.end ?_))
                refine HT.one (i := 11) #[true, true, true, true, true, true, true, true, true, true, true, true, false, false] trivial (by kernel_rfl) (by kernel_rfl) rfl (by decide) (S.sv [_, _] true [_, _, _, _] am_in30 am_cl30 (h := S.end ?_))
                refine HT.one (i := 12) #[true, true, true, true, true, true, true, true, true, true, true, true, true, false] trivial (by kernel_rfl) (by kernel_rfl) rfl (by decide) (S.o q.as (S.end ?_))
                refine HT.one (i := 13) #[true, true, true, true, true, true, true, true, true, true, true, true, true, true] trivial (by kernel_rfl) (by kernel_rfl) rfl (by decide) (S.o q.as (S.end ?_))
                refine HT.nil trivial (by kernel_rfl) (hK _ ?_)
                clear hK K
                refine Ev.seq ?_
                refine Ev.sr fun K hK => S.o q.mv (S.o q.eql (S.end (hK _ ?_)))
                clear hK K
                refine Ev.cd (fun c6 => ?_) (fun c6 => ?_)
                · first
                | (first | omega | contradiction)
                | have hst := rv_no (least := least) (n := s) hpe (by omega)
                  refine Ev.sr fun K hK => S.o q.mv (S.o q.mv (S.o q.mv (S.o (q.ix am_el70 am_cl3 (hl := (by first | exact ati hidx (by omega) | exact atig (by omega)))) (S.o (q.ls am_ag3) (S.o (q.bd [_, _] am_ze52 am_pl52) (S.nn (q.bs [[_, _]] true am_el28 am_ze52 am_cl52) (S.ap' [_, _, _, _, _] am_el28 am_ze52 am_cl52 am_by52 (hh := head_own') (hr := (rows_lit [(s, (1 : Int))])) (h := S.o q.as (S.end (hK _ ?_))))))))))
                  clear hK K
                  refine Ev.exit ?_
                  show Ev _ _ _ _
                  refine Ev.region_S fun K hK => S.o q.mv (S.o q.add (S.o q.as (S.end (hK _ ?_))))
                  clear hK K
                  refine hR0 _ _ ?_
                  refine roundU [0, 1, 2, 6] [2, 4, 9, 10] ⟨(pre ++ [s], suf), by rw [← hp]; simp, by rw [hst]⟩ ?_ (keep_c (he := (by first | rfl | (simp; done))) (h := (keep_c (he := (by first | rfl | (simp; done))) (h := (keep_c (he := (by first | rfl | (rw [hst, hsv]; done) | (rw [hst]; done) | (rw [hst, hsv] <;> rfl))) (h := (keep_c (he := (by first | rfl | (rw [hst]; done) | (rw [hst] <;> rfl))) (h := keep_n)))))))) (slots_c (he := (by first | rfl | (congr 2; simp; done))) (h := (slots_c (he := (by first | rfl | (rw [hst]; done) | (rw [hst] <;> rfl))) (h := trivial)))) (.c (.c (.c (.c .n))))
                  skip
                  all_goals (dsimp only; simp only [List.length_cons]; omega)
                · first
                | (first | omega | contradiction)
                | refine Ev.skip ?_
                  show Ev _ _ _ _
                  refine Ev.seq ?_
                  refine Ev.sr fun K hK => S.o q.mv (S.o q.neq (S.end (hK _ ?_)))
                  clear hK K
                  refine Ev.cn (fun c7 => ?_) (fun c7 => ?_)
                  · first
                  | (first | omega | contradiction)
                  | have hb1 := rv_bad (least := least) (n := s) hpe (by omega) (by omega)
                    have hfin : (rvA least m (listP (skP l))).e = sTkE least (rvA least m pre).m s := by
                      rw [← hp, show pre ++ s :: suf = (pre ++ [s]) ++ suf by simp, rvA_stay (by rw [hb1]; omega), hb1, hte]
                    have hR := hA.bad (by rw [hfin]; omega)
                    rw [hfin] at hR
                    refine Ev.sr fun K hK => S.o (q.lvA [_, _] am_ag30 am_cl30) (S.o q.mv (S.sv [_, _] true [_, _, _, _] am_in30 am_cl30 (h := S.o q.as (S.o q.as (S.end (hK _ ?_))))))
                    clear hK K
                    refine Ev.weaken (Wk.nsh pairC 5 2) ?_
                    refine Ev.ret ?_
                    refine hR0 _ _ ?_
                    refine Ev.retv3 (res_c [_, _] am_ag30 am_cl30 (res_t (res_t res_n))) ?_
                    refine ⟨?_, rfl⟩
                    all_goals first | rfl | (rw [hR.e, hR.v, hR.o]; done) | (rw [hR.e, hR.v, hR.o] <;> rfl) | (simp; done)
                  · first
                  | (first | omega | contradiction)
                  | refine Ev.skip ?_
                    show Ev _ _ _ _
                    have hst := rv_ok (least := least) (n := s) hpe (by omega)
                    have hsv : sTkV least (rvA least m pre).m s = tkV least (rvA least m pre).m s := (sTk_ok hsi (by omega)).2.2
                    refine Ev.region_S fun K hK => S.o (q.lvA [_, _] am_ag30 am_cl30) (S.sv [_, _] true [_, _, _, _] am_in30 am_cl30 (h := S.end (hK _ ?_)))
                    clear hK K
                    show Ev _ _ _ _
                    refine Ev.region_S fun K hK => S.o q.mv (S.o q.add (S.o q.as (S.end (hK _ ?_))))
                    clear hK K
                    refine hR0 _ _ ?_
                    refine roundU [0, 1, 2, 3] [2, 4, 9, 10] ⟨(pre ++ [s], suf), by rw [← hp]; simp, by rw [hst]⟩ ?_ (keep_c (he := (by first | rfl | (simp; done))) (h := (keep_c (he := (by first | rfl | (simp; done))) (h := (keep_c (he := (by first | rfl | (rw [hst, hsv]; done) | (rw [hst]; done) | (rw [hst, hsv] <;> rfl))) (h := (keep_c (he := (by first | rfl | (rw [hst]; done) | (rw [hst] <;> rfl))) (h := keep_n)))))))) (slots_c (he := (by first | rfl | (congr 2; simp; done))) (h := (slots_c (he := (by first | rfl | (rw [hst]; done) | (rw [hst] <;> rfl))) (h := trivial)))) (.c (.c (.c (.c .n))))
                    skip
                    all_goals (dsimp only; simp only [List.length_cons]; omega)
              · skip
                refine HT.one (i := 5) #[true, true, true, true, true, true, false, false, false, false, true, false, false, false] trivial (by kernel_rfl) (by kernel_rfl) rfl (by decide) (S.c0 (hF := rTake_fun least s (rvA least m pre).m hwp) (h := S.end ?_))
                refine HT.one (i := 6) #[true, true, true, true, true, true, true, false, false, false, true, false, false, false] trivial (by kernel_rfl) (by kernel_rfl) rfl (by decide) (S.o q.mv (S.end ?_))
                refine HT.ex (i := 7) #[true, true, true, true, true, true, true, true, false, false, true, false, false, false] trivial (by kernel_rfl) (by kernel_rfl) rfl (by decide) (h := ?_)
                refine HT.ex (i := 8) #[true, true, true, true, true, true, true, true, true, false, true, false, false, false] trivial (by kernel_rfl) (by kernel_rfl) rfl (by decide) (h := ?_)
                refine HT.ex (i := 9) #[true, true, true, true, true, true, true, true, true, true, true, false, false, false] trivial (by kernel_rfl) (by kernel_rfl) rfl (by decide) (h := ?_)
                refine HT.one (i := 11) #[true, true, true, true, true, true, true, true, true, true, true, true, false, false] trivial (by kernel_rfl) (by kernel_rfl) rfl (by decide) (S.sv [_, _] true [_, _, _, _] am_in30 am_cl30 (h := S.end ?_))
                refine HT.one (i := 12) #[true, true, true, true, true, true, true, true, true, true, true, true, true, false] trivial (by kernel_rfl) (by kernel_rfl) rfl (by decide) (S.o q.as (S.end ?_))
                refine HT.one (i := 13) #[true, true, true, true, true, true, true, true, true, true, true, true, true, true] trivial (by kernel_rfl) (by kernel_rfl) rfl (by decide) (S.o q.as (S.end ?_))
                refine HT.nil trivial (by kernel_rfl) (hK _ ?_)
                clear hK K
                refine Ev.seq ?_
                refine Ev.sr fun K hK => S.o q.mv (S.o q.eql (S.end (hK _ ?_)))
                clear hK K
                refine Ev.cd (fun c8 => ?_) (fun c8 => ?_)
                · first
                | (first | omega | contradiction)
                | have hst := rv_no (least := least) (n := s) hpe (by omega)
                  refine Ev.sr fun K hK => S.o q.mv (S.o q.mv (S.o q.mv (S.o (q.ix am_el70 am_cl3 (hl := (by first | exact ati hidx (by omega) | exact atig (by omega)))) (S.o (q.ls am_ag3) (S.o (q.bd [_, _] am_ze52 am_pl52) (S.nn (q.bs [[_, _]] true am_el28 am_ze52 am_cl52) (S.ap' [_, _, _, _, _] am_el28 am_ze52 am_cl52 am_by52 (hh := head_own') (hr := (rows_lit [(s, (1 : Int))])) (h := S.o q.as (S.end (hK _ ?_))))))))))
                  clear hK K
                  refine Ev.exit ?_
                  show Ev _ _ _ _
                  refine Ev.region_S fun K hK => S.o q.mv (S.o q.add (S.o q.as (S.end (hK _ ?_))))
                  clear hK K
                  refine hR0 _ _ ?_
                  refine roundU [0, 1, 2, 6] [2, 4, 9, 10] ⟨(pre ++ [s], suf), by rw [← hp]; simp, by rw [hst]⟩ ?_ (keep_c (he := (by first | rfl | (simp; done))) (h := (keep_c (he := (by first | rfl | (simp; done))) (h := (keep_c (he := (by first | rfl | (rw [hst, hsv]; done) | (rw [hst]; done) | (rw [hst, hsv] <;> rfl))) (h := (keep_c (he := (by first | rfl | (rw [hst]; done) | (rw [hst] <;> rfl))) (h := keep_n)))))))) (slots_c (he := (by first | rfl | (congr 2; simp; done))) (h := (slots_c (he := (by first | rfl | (rw [hst]; done) | (rw [hst] <;> rfl))) (h := trivial)))) (.c (.c (.c (.c .n))))
                  skip
                  all_goals (dsimp only; simp only [List.length_cons]; omega)
                · first
                | (first | omega | contradiction)
                | refine Ev.skip ?_
                  show Ev _ _ _ _
                  refine Ev.seq ?_
                  refine Ev.sr fun K hK => S.o q.mv (S.o q.neq (S.end (hK _ ?_)))
                  clear hK K
                  refine Ev.cn (fun c9 => ?_) (fun c9 => ?_)
                  · first
                  | (first | omega | contradiction)
                  | have hb1 := rv_bad (least := least) (n := s) hpe (by omega) (by omega)
                    have hfin : (rvA least m (listP (skP l))).e = sTkE least (rvA least m pre).m s := by
                      rw [← hp, show pre ++ s :: suf = (pre ++ [s]) ++ suf by simp, rvA_stay (by rw [hb1]; omega), hb1, hte]
                    have hR := hA.bad (by rw [hfin]; omega)
                    rw [hfin] at hR
                    refine Ev.sr fun K hK => S.o (q.lvA [_, _] am_ag30 am_cl30) (S.o q.mv (S.sv [_, _] true [_, _, _, _] am_in30 am_cl30 (h := S.o q.as (S.o q.as (S.end (hK _ ?_))))))
                    clear hK K
                    refine Ev.weaken (Wk.nsh pairC 5 2) ?_
                    refine Ev.ret ?_
                    refine hR0 _ _ ?_
                    refine Ev.retv3 (res_c [_, _] am_ag30 am_cl30 (res_t (res_t res_n))) ?_
                    refine ⟨?_, rfl⟩
                    all_goals first | rfl | (rw [hR.e, hR.v, hR.o]; done) | (rw [hR.e, hR.v, hR.o] <;> rfl) | (simp; done)
                  · first
                  | (first | omega | contradiction)
                  | refine Ev.skip ?_
                    show Ev _ _ _ _
                    have hst := rv_ok (least := least) (n := s) hpe (by omega)
                    have hsv : sTkV least (rvA least m pre).m s = tkV least (rvA least m pre).m s := (sTk_ok hsi (by omega)).2.2
                    refine Ev.region_S fun K hK => S.o (q.lvA [_, _] am_ag30 am_cl30) (S.sv [_, _] true [_, _, _, _] am_in30 am_cl30 (h := S.end (hK _ ?_)))
                    clear hK K
                    show Ev _ _ _ _
                    refine Ev.region_S fun K hK => S.o q.mv (S.o q.add (S.o q.as (S.end (hK _ ?_))))
                    clear hK K
                    refine hR0 _ _ ?_
                    refine roundU [0, 1, 2, 3] [2, 4, 9, 10] ⟨(pre ++ [s], suf), by rw [← hp]; simp, by rw [hst]⟩ ?_ (keep_c (he := (by first | rfl | (simp; done))) (h := (keep_c (he := (by first | rfl | (simp; done))) (h := (keep_c (he := (by first | rfl | (rw [hst, hsv]; done) | (rw [hst]; done) | (rw [hst, hsv] <;> rfl))) (h := (keep_c (he := (by first | rfl | (rw [hst]; done) | (rw [hst] <;> rfl))) (h := keep_n)))))))) (slots_c (he := (by first | rfl | (congr 2; simp; done))) (h := (slots_c (he := (by first | rfl | (rw [hst]; done) | (rw [hst] <;> rfl))) (h := trivial)))) (.c (.c (.c (.c .n))))
                    skip
                    all_goals (dsimp only; simp only [List.length_cons]; omega)
            · skip
              refine HT.one (i := 0) #[true, true, true, true, true, false, false, false, false, false, true, false, false, false] trivial (by kernel_rfl) (by kernel_rfl) rfl (by decide) (S.o (q.lvA [_, _] am_ag30 am_cl30) (S.end ?_))
              refine HT.one (i := 5) #[true, true, true, true, true, true, false, false, false, false, true, false, false, false] trivial (by kernel_rfl) (by kernel_rfl) rfl (by decide) (S.c0 (hF := rTake_fun least s (rvA least m pre).m hwp) (h := S.end ?_))
              refine HT.one (i := 6) #[true, true, true, true, true, true, true, false, false, false, true, false, false, false] trivial (by kernel_rfl) (by kernel_rfl) rfl (by decide) (S.o q.mv (S.end ?_))
              refine HT.ex (i := 7) #[true, true, true, true, true, true, true, true, false, false, true, false, false, false] trivial (by kernel_rfl) (by kernel_rfl) rfl (by decide) (h := ?_)
              refine HT.ex (i := 8) #[true, true, true, true, true, true, true, true, true, false, true, false, false, false] trivial (by kernel_rfl) (by kernel_rfl) rfl (by decide) (h := ?_)
              refine HT.ex (i := 9) #[true, true, true, true, true, true, true, true, true, true, true, false, false, false] trivial (by kernel_rfl) (by kernel_rfl) rfl (by decide) (h := ?_)
              refine HT.one (i := 11) #[true, true, true, true, true, true, true, true, true, true, true, true, false, false] trivial (by kernel_rfl) (by kernel_rfl) rfl (by decide) (S.sv [_, _] true [_, _, _, _] am_in30 am_cl30 (h := S.end ?_))
              refine HT.one (i := 12) #[true, true, true, true, true, true, true, true, true, true, true, true, true, false] trivial (by kernel_rfl) (by kernel_rfl) rfl (by decide) (S.o q.as (S.end ?_))
              refine HT.one (i := 13) #[true, true, true, true, true, true, true, true, true, true, true, true, true, true] trivial (by kernel_rfl) (by kernel_rfl) rfl (by decide) (S.o q.as (S.end ?_))
              refine HT.nil trivial (by kernel_rfl) (hK _ ?_)
              clear hK K
              refine Ev.seq ?_
              refine Ev.sr fun K hK => S.o q.mv (S.o q.eql (S.end (hK _ ?_)))
              clear hK K
              refine Ev.cd (fun c10 => ?_) (fun c10 => ?_)
              · first
              | (first | omega | contradiction)
              | have hst := rv_no (least := least) (n := s) hpe (by omega)
                refine Ev.sr fun K hK => S.o q.mv (S.o q.mv (S.o q.mv (S.o (q.ix am_el70 am_cl3 (hl := (by first | exact ati hidx (by omega) | exact atig (by omega)))) (S.o (q.ls am_ag3) (S.o (q.bd [_, _] am_ze52 am_pl52) (S.nn (q.bs [[_, _]] true am_el28 am_ze52 am_cl52) (S.ap' [_, _, _, _, _] am_el28 am_ze52 am_cl52 am_by52 (hh := head_own') (hr := (rows_lit [(s, (1 : Int))])) (h := S.o q.as (S.end (hK _ ?_))))))))))
                clear hK K
                refine Ev.exit ?_
                show Ev _ _ _ _
                refine Ev.region_S fun K hK => S.o q.mv (S.o q.add (S.o q.as (S.end (hK _ ?_))))
                clear hK K
                refine hR0 _ _ ?_
                refine roundU [0, 1, 2, 6] [2, 4, 9, 10] ⟨(pre ++ [s], suf), by rw [← hp]; simp, by rw [hst]⟩ ?_ (keep_c (he := (by first | rfl | (simp; done))) (h := (keep_c (he := (by first | rfl | (simp; done))) (h := (keep_c (he := (by first | rfl | (rw [hst, hsv]; done) | (rw [hst]; done) | (rw [hst, hsv] <;> rfl))) (h := (keep_c (he := (by first | rfl | (rw [hst]; done) | (rw [hst] <;> rfl))) (h := keep_n)))))))) (slots_c (he := (by first | rfl | (congr 2; simp; done))) (h := (slots_c (he := (by first | rfl | (rw [hst]; done) | (rw [hst] <;> rfl))) (h := trivial)))) (.c (.c (.c (.c .n))))
                skip
                all_goals (dsimp only; simp only [List.length_cons]; omega)
              · first
              | (first | omega | contradiction)
              | refine Ev.skip ?_
                show Ev _ _ _ _
                refine Ev.seq ?_
                refine Ev.sr fun K hK => S.o q.mv (S.o q.neq (S.end (hK _ ?_)))
                clear hK K
                refine Ev.cn (fun c11 => ?_) (fun c11 => ?_)
                · first
                | (first | omega | contradiction)
                | have hb1 := rv_bad (least := least) (n := s) hpe (by omega) (by omega)
                  have hfin : (rvA least m (listP (skP l))).e = sTkE least (rvA least m pre).m s := by
                    rw [← hp, show pre ++ s :: suf = (pre ++ [s]) ++ suf by simp, rvA_stay (by rw [hb1]; omega), hb1, hte]
                  have hR := hA.bad (by rw [hfin]; omega)
                  rw [hfin] at hR
                  refine Ev.sr fun K hK => S.o (q.lvA [_, _] am_ag30 am_cl30) (S.o q.mv (S.sv [_, _] true [_, _, _, _] am_in30 am_cl30 (h := S.o q.as (S.o q.as (S.end (hK _ ?_))))))
                  clear hK K
                  refine Ev.weaken (Wk.nsh pairC 5 2) ?_
                  refine Ev.ret ?_
                  refine hR0 _ _ ?_
                  refine Ev.retv3 (res_c [_, _] am_ag30 am_cl30 (res_t (res_t res_n))) ?_
                  refine ⟨?_, rfl⟩
                  all_goals first | rfl | (rw [hR.e, hR.v, hR.o]; done) | (rw [hR.e, hR.v, hR.o] <;> rfl) | (simp; done)
                · first
                | (first | omega | contradiction)
                | refine Ev.skip ?_
                  show Ev _ _ _ _
                  have hst := rv_ok (least := least) (n := s) hpe (by omega)
                  have hsv : sTkV least (rvA least m pre).m s = tkV least (rvA least m pre).m s := (sTk_ok hsi (by omega)).2.2
                  refine Ev.region_S fun K hK => S.o (q.lvA [_, _] am_ag30 am_cl30) (S.sv [_, _] true [_, _, _, _] am_in30 am_cl30 (h := S.end (hK _ ?_)))
                  clear hK K
                  show Ev _ _ _ _
                  refine Ev.region_S fun K hK => S.o q.mv (S.o q.add (S.o q.as (S.end (hK _ ?_))))
                  clear hK K
                  refine hR0 _ _ ?_
                  refine roundU [0, 1, 2, 3] [2, 4, 9, 10] ⟨(pre ++ [s], suf), by rw [← hp]; simp, by rw [hst]⟩ ?_ (keep_c (he := (by first | rfl | (simp; done))) (h := (keep_c (he := (by first | rfl | (simp; done))) (h := (keep_c (he := (by first | rfl | (rw [hst, hsv]; done) | (rw [hst]; done) | (rw [hst, hsv] <;> rfl))) (h := (keep_c (he := (by first | rfl | (rw [hst]; done) | (rw [hst] <;> rfl))) (h := keep_n)))))))) (slots_c (he := (by first | rfl | (congr 2; simp; done))) (h := (slots_c (he := (by first | rfl | (rw [hst]; done) | (rw [hst] <;> rfl))) (h := trivial)))) (.c (.c (.c (.c .n))))
                  skip
                  all_goals (dsimp only; simp only [List.length_cons]; omega)
          · first | omega | contradiction | (exfalso; simp at *; done)
end Go.Proofs.Ytaggnajjmopobaa

namespace Go.Proofs.Ytaggnajjmopobaa
open Go Go.AM
set_option linter.unusedSimpArgs false
set_option linter.unusedVariables false
set_option maxRecDepth 100000
set_option maxHeartbeats 2000000

/-! The least length 0 is as good as 1 -/
theorem pNo01 {n k : Int} (h : 1 ≤ n) : pNo 0 n k ↔ pNo 1 n k := by unfold pNo; omega
theorem put01E {m : Mp} {n k : Int} (h : 1 ≤ n) : putE 0 m n k = putE 1 m n k := by
  unfold putE
  by_cases h1 : pNo 1 n k
  · rw [if_pos h1, if_pos ((pNo01 h).2 h1)]
  · rw [if_neg h1, if_neg fun h2 => h1 ((pNo01 h).1 h2)]
theorem put01V {m : Mp} {n k : Int} (h : 1 ≤ n) : putV 0 m n k = putV 1 m n k := by
  unfold putV
  rw [put01E h]
  by_cases h1 : pNo 1 n k
  · rw [if_pos h1, if_pos ((pNo01 h).2 h1)]
  · rw [if_neg h1, if_neg fun h2 => h1 ((pNo01 h).1 h2)]
theorem tk01E (m : Mp) (n : Int) : tkE 0 m n = tkE 1 m n := by
  unfold tkE
  by_cases h : bestK m n > n
  · rw [put01E (by omega)]
  · rw [if_neg h, if_neg h]
theorem tk01V (m : Mp) (n : Int) : tkV 0 m n = tkV 1 m n := by
  unfold tkV
  rw [tk01E]
  by_cases h : bestK m n > n
  · rw [put01V (by omega)]
  · rw [if_neg h, if_neg h]
theorem st01 (n : Int) (s : Sv) : stS 0 n s = stS 1 n s := by unfold stS; rw [tk01E, tk01V]
theorem it01 (n : Int) (s : Sv) : ∀ i : Nat, itS 0 n s i = itS 1 n s i
  | 0 => rfl
  | i + 1 => by show stS 0 n (itS 0 n s i) = stS 1 n (itS 1 n s i); rw [it01 n s i, st01]
theorem sv01 (m l : Mp) : svA 0 m l = svA 1 m l := by
  have h : svO 0 = svO 1 := by funext s p; unfold svO grp; rw [it01]
  unfold svA
  rw [h]
structure LikeL (la lb : Int) : Prop where
  pe : ∀ m n k, sPutE la m n k = sPutE lb m n k
  pv : ∀ m n k, sPutV la m n k = sPutV lb m n k
  te : ∀ m n, sTkE la m n = sTkE lb m n
  tb : ∀ m n, sTkB la m n = sTkB lb m n
  tv : ∀ m n, sTkV la m n = sTkV lb m n
  se : ∀ m l, sSvE la m l = sSvE lb m l
  sv : ∀ m l, sSvV la m l = sSvV lb m l
  so : ∀ m l, sSvO la m l = sSvO lb m l
  wf : ∀ m, WfM lb m → WfM la m
theorem likeL_self (a : Int) : LikeL a a := ⟨fun _ _ _ => rfl, fun _ _ _ => rfl, fun _ _ => rfl, fun _ _ => rfl, fun _ _ => rfl, fun _ _ => rfl, fun _ _ => rfl, fun _ _ => rfl, fun _ h => h⟩
theorem likeL_01 : LikeL 0 1 := by
  have pe : ∀ m n k, sPutE 0 m n k = sPutE 1 m n k := fun m n k => by
    unfold sPutE
    by_cases h : inC n k
    · rw [if_pos h, if_pos h, put01E h.1.1]
    · rw [if_neg h, if_neg h]
  have te : ∀ m n, sTkE 0 m n = sTkE 1 m n := fun m n => by unfold sTkE; rw [tk01E]
  have se : ∀ m l, sSvE 0 m l = sSvE 1 m l := fun m l => by unfold sSvE; rw [sv01]
  refine ⟨pe, fun m n k => ?_, te, fun m n => ?_, fun m n => ?_, se, fun m l => ?_, fun m l => ?_, fun m h => ⟨h.nd, fun p hp => ⟨(h.ok p hp).1, by have := (h.ok p hp).2; omega⟩, h.len⟩⟩
  · unfold sPutV
    rw [pe]
    by_cases h : sPutE 1 m n k = 0
    · rw [if_pos h, if_pos h, put01V]
      refine Classical.byContradiction fun h1 => ?_
      rw [(sPut_no (least := 1) (m := m) (n := n) (k := k) fun h2 => h1 h2.1.1).1] at h
      cases h
    · rw [if_neg h, if_neg h]
  · unfold sTkB; rw [te]; unfold tkB; rw [tk01E]
  · unfold sTkV; rw [te, tk01V]
  · unfold sSvV; rw [se, sv01]
  · unfold sSvO; rw [se, sv01]
theorem act_wf {least : Int} {m : Mp} (hw : WfM least m) (x : Act) : WfM least (actM least m x) := by
  unfold actM
  split
  · exact sPut_wf hw
  · split
    · exact sTk_wf hw
    · exact sSv_wf hw
theorem sSvO_len {least : Int} {m l : Mp} (hw : WfM least m) : (sSvO least m l).length ≤ 200 := by
  by_cases h : sSvE least m l = 0
  · obtain ⟨h1, h2, h3, _, _, e⟩ := sSv_ok h
    rw [e]
    have := (svA_good hw (skP l) (skP_ok h1 h3)).2
    have := skP_len h1.2
    have := h1.1
    omega
  · rw [(sSv_no h).2]; decide

theorem eqPcT_fun (a : Mp) (ha : a.length ≤ 140737488355328) : Fun Try.prog 22 [.sh 2 (a.map pairC), .sh 2 (a.map pairC)] (Ret (.lit (.bool true)) []) := by
  have h := eqPc_fun a a ha ha
  rwa [decide_eq_true (rfl : a = a)] at h
theorem rTotalT_fun (least : Int) (m : Mp) (hw : WfM least m) : Fun Try.prog 30 [.sh 2 ((lstV m).map pairC)] (Ret (.lit (.int .i64 (totP m))) []) := by
  have h := rTotal_fun (lstV m) (lst_short hw).1
  rwa [totP_perm (lst_perm hw.nd)] at h
theorem sameR (la lb : Int) (m : Mp) (hw : WfM la m) : FunR Try.prog 12 [.adr 0 0 0, .agg [.lit (.int .i64 lb), .sh 2 ((lstV m).map pairC)]] [(0, ⟨false, 47, 2, [[.lit (.int .i64 la), .shm 3 ((m).map (rowK (Value.int .i64) (Value.int .i64)))]], true⟩)] 1 (Ret (.lit (.bool true)) [(0, ⟨false, 47, 2, [[.lit (.int .i64 la), .shm 3 ((m).map (rowK (Value.int .i64) (Value.int .i64)))]], true⟩)]) := by
  have hll := lstV_len m
  have hml := hw.len
  refine FunR.of (nt := 18) (rs := [.tmp 4]) Try.func12 rfl rfl rfl rfl rfl ?_
  refine Ev.sr fun K hK => S.nn (q.bx [_, _] true) (S.o q.as (S.end (hK _ ?_)))
  clear hK K
  refine Ev.weaken (Wk.frzv 3 [_]) ?_
  refine Ev.stp (m := 14) (L0 := #[false, false, false, false, false, false, false, false, false, false, false, false, false, false]) rfl (by kernel_rfl) (by exact rfl) fun K hK => ?_
  refine HP.mv (i := 0) #[true, false, false, false, false, false, false, false, false, false, false, false, false, false] (by kernel_rfl) (by kernel_rfl) rfl (by decide) (h := ?_)
  refine HP.fa (i := 2) #[true, false, true, false, false, false, false, false, false, false, false, false, false, false] am_fi30_1 (by rw [am_cl28]; decide) (by kernel_rfl) (by kernel_rfl) rfl (by decide) (h := ?_)
  refine HP.ls1 (i := 3) #[true, false, true, true, false, false, false, false, false, false, false, false, false, false] am_ag28 (by kernel_rfl) (by kernel_rfl) rfl (by decide) (h := ?_)
  refine .done ?_
  refine HT.one (i := 1) #[true, true, true, true, false, false, false, false, false, false, false, false, false, false] trivial (by kernel_rfl) (by kernel_rfl) rfl (by decide) (S.cR [0] 2 [_] (hob := (keep_c (he := rfl) (h := keep_n))) (hF := sListR la m hw) (hn' := belowL rfl rfl) (h := S.end ?_))
  refine HT.one (i := 4) #[true, true, true, true, true, false, false, false, false, false, false, false, false, false] trivial (by kernel_rfl) (by kernel_rfl) rfl (by decide) (S.c0 (hF := eqPcT_fun (lstV m) (by omega)) (h := S.end ?_))
  refine HT.one (i := 5) #[true, true, true, true, true, true, false, false, false, false, false, false, false, false] trivial (by kernel_rfl) (by kernel_rfl) rfl (by decide) (S.o q.mv (S.end ?_))
  refine HT.mv (i := 6) #[true, true, true, true, true, true, true, false, false, false, false, false, false, false] trivial (by kernel_rfl) (by kernel_rfl) rfl (by decide) (h := ?_)
  refine HT.fa (i := 8) #[true, true, true, true, true, true, true, false, true, false, false, false, false, false] trivial am_fi30_1 (by rw [am_cl28]; decide) (by kernel_rfl) (by kernel_rfl) rfl (by decide) (h := ?_)
  refine HT.two (i := 7) (j := 9) #[true, true, true, true, true, true, true, true, true, false, false, false, false, false] #[true, true, true, true, true, true, true, false, true, true, false, false, false, false] trivial (by kernel_rfl) (by kernel_rfl) (by kernel_rfl) rfl rfl (by decide) (by decide) (S.cR [0] 2 [_] (hob := (keep_c (he := rfl) (h := keep_n))) (hF := sTotalR la m hw) (hn' := belowL rfl rfl) (h := S.end ?_)) (S.o (q.ls am_ag28) (S.end ?_))
  · skip
    refine HT.one (i := 9) #[true, true, true, true, true, true, true, true, true, true, false, false, false, false] trivial (by kernel_rfl) (by kernel_rfl) rfl (by decide) (S.o (q.ls am_ag28) (S.end ?_))
    refine HT.one (i := 10) #[true, true, true, true, true, true, true, true, true, true, true, false, false, false] trivial (by kernel_rfl) (by kernel_rfl) rfl (by decide) (S.c0 (hF := rTotalT_fun la m hw) (h := S.end ?_))
    refine HT.one (i := 11) #[true, true, true, true, true, true, true, true, true, true, true, true, false, false] trivial (by kernel_rfl) (by kernel_rfl) rfl (by decide) (S.o q.eql (S.end ?_))
    refine HT.one (i := 12) #[true, true, true, true, true, true, true, true, true, true, true, true, true, false] trivial (by kernel_rfl) (by kernel_rfl) rfl (by decide) (S.o q.pt (S.end ?_))
    refine HT.one (i := 13) #[true, true, true, true, true, true, true, true, true, true, true, true, true, true] trivial (by kernel_rfl) (by kernel_rfl) rfl (by decide) (S.o q.as (S.end ?_))
    refine HT.nil trivial (by kernel_rfl) (hK _ ?_)
    clear hK K
    refine Ev.ret ?_
    refine Ev.rr1 [0] (keepR_c (h := keepR_n)) leads1 ?_
    refine ⟨?_, ?_⟩
    all_goals first | rfl | exact lawT rfl
  · skip
    refine HT.one (i := 7) #[true, true, true, true, true, true, true, true, true, true, false, false, false, false] trivial (by kernel_rfl) (by kernel_rfl) rfl (by decide) (S.cR [0] 2 [_] (hob := (keep_c (he := rfl) (h := keep_n))) (hF := sTotalR la m hw) (hn' := belowL rfl rfl) (h := S.end ?_))
    refine HT.one (i := 10) #[true, true, true, true, true, true, true, true, true, true, true, false, false, false] trivial (by kernel_rfl) (by kernel_rfl) rfl (by decide) (S.c0 (hF := rTotalT_fun la m hw) (h := S.end ?_))
    refine HT.one (i := 11) #[true, true, true, true, true, true, true, true, true, true, true, true, false, false] trivial (by kernel_rfl) (by kernel_rfl) rfl (by decide) (S.o q.eql (S.end ?_))
    refine HT.one (i := 12) #[true, true, true, true, true, true, true, true, true, true, true, true, true, false] trivial (by kernel_rfl) (by kernel_rfl) rfl (by decide) (S.o q.pt (S.end ?_))
    refine HT.one (i := 13) #[true, true, true, true, true, true, true, true, true, true, true, true, true, true] trivial (by kernel_rfl) (by kernel_rfl) rfl (by decide) (S.o q.as (S.end ?_))
    refine HT.nil trivial (by kernel_rfl) (hK _ ?_)
    clear hK K
    refine Ev.ret ?_
    refine Ev.rr1 [0] (keepR_c (h := keepR_n)) leads1 ?_
    refine ⟨?_, ?_⟩
    all_goals first | rfl | exact lawT rfl
theorem doR (la lb : Int) (m : Mp) (x : Act) (hL : LikeL la lb) (hw : WfM lb m) (hx : x.ord.length ≤ 140737488355328) : FunR Try.prog 13 [.adr 0 0 0, .agg [.lit (.int .i64 lb), .sh 2 ((lstV m).map pairC)], .agg x.c] [(0, ⟨false, 47, 2, [[.lit (.int .i64 la), .shm 3 ((m).map (rowK (Value.int .i64) (Value.int .i64)))]], true⟩)] 1 (Ret (.tup [.agg [.lit (.int .i64 lb), .sh 2 ((lstV (actM lb m x)).map pairC)], .lit (.bool true)]) [(0, ⟨false, 47, 2, [[.lit (.int .i64 la), .shm 3 (((actM lb m x)).map (rowK (Value.int .i64) (Value.int .i64)))]], true⟩)]) := by
  obtain ⟨kind, len, cnt, ord⟩ := x
  have hx : ord.length ≤ 140737488355328 := hx
  have hwa := hL.wf m hw
  refine FunR.of (nt := 107) (rs := [.cell 6 30, .tmp 7]) Try.func13 rfl rfl rfl rfl rfl ?_
  refine Ev.sr fun K hK => S.nn (q.bx [_, _] true) (S.nn (q.bx [_, _, _, _] true) (S.nn (q.al am_ze30) (S.o q.as (S.end (hK _ ?_)))))
  clear hK K
  refine Ev.seq ?_
  refine Ev.sr fun K hK => S.o (q.fa 0 am_fi33_0 am_cl3) (S.o (q.lv am_ag3) (S.end (hK _ ?_)))
  clear hK K
  refine Ev.block ?_
  refine Ev.sr fun K hK => S.o q.eql (S.o q.as (S.end (hK _ ?_)))
  clear hK K
  refine Ev.cd (fun c1 => ?_) (fun c1 => ?_)
  · first
  | (first | omega | contradiction)
  | have hac : actM lb m ⟨kind, len, cnt, ord⟩ = (sPutV lb m len cnt) := if_pos ‹_›
    rw [hac]
    have hwb : WfM lb (sPutV lb m len cnt) := hac ▸ act_wf hw _
    have hwc := hL.wf _ hwb
    refine Ev.sr fun K hK => S.o (q.lvA [_, _] am_ag30 am_cl30) (S.o (q.fa 1 am_fi33_1 am_cl3) (S.o (q.lv am_ag3) (S.o (q.fa 2 am_fi33_2 am_cl3) (S.o (q.lv am_ag3) (S.c0 (hF := rPut_fun lb len cnt m hw) (h := S.o q.mv (S.o q.ex (S.o q.ex (S.nn (q.al am_ze30) (S.sv [_, _] true [_, _, _, _] am_in30 am_cl30 (h := S.o q.as (S.end (hK _ ?_)))))))))))))
    clear hK K
    refine Ev.weaken (Wk.frzv 8 [_, _, _, _]) ?_
    refine Ev.weaken (Wk.frzv 5 [_, _, _]) ?_
    refine Ev.stp (m := 16) (L0 := #[false, false, false, false, false, false, false, false, false, false, false, false, false, false, false, false]) rfl (by kernel_rfl) (by exact rfl) fun K hK => ?_
    refine HP.lsA (i := 0) [_, _] #[true, false, false, false, false, false, false, false, false, false, false, false, false, false, false, false] am_ag30 am_cl30 (by kernel_rfl) (by kernel_rfl) rfl (by decide) (h := ?_)
    refine HP.mv (i := 1) #[true, true, false, false, false, false, false, false, false, false, false, false, false, false, false, false] (by kernel_rfl) (by kernel_rfl) rfl (by decide) (h := ?_)
    refine HP.fa (i := 2) #[true, true, true, false, false, false, false, false, false, false, false, false, false, false, false, false] am_fi33_1 (by rw [am_cl3]; decide) (by kernel_rfl) (by kernel_rfl) rfl (by decide) (h := ?_)
    refine HP.ls1 (i := 3) #[true, true, true, true, false, false, false, false, false, false, false, false, false, false, false, false] am_ag3 (by kernel_rfl) (by kernel_rfl) rfl (by decide) (h := ?_)
    refine HP.fa (i := 4) #[true, true, true, true, true, false, false, false, false, false, false, false, false, false, false, false] am_fi33_2 (by rw [am_cl3]; decide) (by kernel_rfl) (by kernel_rfl) rfl (by decide) (h := ?_)
    refine HP.ls1 (i := 5) #[true, true, true, true, true, true, false, false, false, false, false, false, false, false, false, false] am_ag3 (by kernel_rfl) (by kernel_rfl) rfl (by decide) (h := ?_)
    refine HP.mv (i := 7) #[true, true, true, true, true, true, false, true, false, false, false, false, false, false, false, false] (by kernel_rfl) (by kernel_rfl) rfl (by decide) (h := ?_)
    refine .done ?_
    refine HT.one (i := 6) #[true, true, true, true, true, true, true, true, false, false, false, false, false, false, false, false] trivial (by kernel_rfl) (by kernel_rfl) rfl (by decide) ?_
    refine S.cR [0] 5 [_, _, _] (hob := (keep_c (he := rfl) (h := keep_n))) (hF := sPutR la len cnt m hwa) (hn' := belowL rfl rfl) (h := ?_)
    rw [hL.pe, hL.pv]
    refine S.end ?_
    refine HT.one (i := 8) #[true, true, true, true, true, true, true, true, true, false, false, false, false, false, false, false] trivial (by kernel_rfl) (by kernel_rfl) rfl (by decide) (S.o q.eql (S.end ?_))
    refine HT.one (i := 9) #[true, true, true, true, true, true, true, true, true, true, false, false, false, false, false, false] trivial (by kernel_rfl) (by kernel_rfl) rfl (by decide) ?_
    refine S.bd q.mv (fun c2 => ?_) (fun c2 => ?_)
    · first
    | (first | omega | contradiction)
    | refine S.end ?_
      refine HT.mv (i := 10) #[true, true, true, true, true, true, true, true, true, true, true, false, false, false, false, false] trivial (by kernel_rfl) (by kernel_rfl) rfl (by decide) (h := ?_)
      refine HT.one (i := 11) #[true, true, true, true, true, true, true, true, true, true, true, true, false, false, false, false] trivial (by kernel_rfl) (by kernel_rfl) rfl (by decide) (S.o (q.lsA [_, _] am_ag30 am_cl30) (S.end ?_))
      refine HT.one (i := 12) #[true, true, true, true, true, true, true, true, true, true, true, true, true, false, false, false] trivial (by kernel_rfl) (by kernel_rfl) rfl (by decide) (S.cR [0] 5 [_, _, _] (hob := (keep_c (he := rfl) (h := keep_n))) (hF := sameR la lb _ hwc) (hn' := belowL rfl rfl) (h := S.end ?_))
      refine HT.pk (i := 13) #[true, true, true, true, true, true, true, true, true, true, true, true, true, true, false, false] trivial (by kernel_rfl) (by kernel_rfl) rfl (by decide) (h := ?_)
      refine HT.one (i := 14) #[true, true, true, true, true, true, true, true, true, true, true, true, true, true, true, false] trivial (by kernel_rfl) (by kernel_rfl) rfl (by decide) (S.sv [_, _] true [_, _] am_in30 am_cl30 (h := S.end ?_))
      refine HT.one (i := 15) #[true, true, true, true, true, true, true, true, true, true, true, true, true, true, true, true] trivial (by kernel_rfl) (by kernel_rfl) rfl (by decide) (S.o q.as (S.end ?_))
      refine HT.nil trivial (by kernel_rfl) (hK _ ?_)
      clear hK K
      refine Ev.ret ?_
      refine Ev.rrv2 [0] (res_c [_, _] am_ag30 am_cl30 (res_t res_n)) (keepR_c (h := keepR_n)) leads1 ?_
      refine ⟨?_, ?_⟩
      all_goals first | rfl | exact lawT rfl
    · first
    | (first | omega | contradiction)
    | refine S.end ?_
      refine HT.two (i := 10) (j := 11) #[true, true, true, true, true, true, true, true, true, true, true, false, false, false, false, false] #[true, true, true, true, true, true, true, true, true, true, false, true, false, false, false, false] trivial (by kernel_rfl) (by kernel_rfl) (by kernel_rfl) rfl rfl (by decide) (by decide) (S.sk (S.end ?_)) (S.sk (S.end ?_))
      · skip
        refine HT.one (i := 11) #[true, true, true, true, true, true, true, true, true, true, true, true, false, false, false, false] trivial (by kernel_rfl) (by kernel_rfl) rfl (by decide) (S.sk (S.end ?_))
        refine HT.one (i := 12) #[true, true, true, true, true, true, true, true, true, true, true, true, true, false, false, false] trivial (by kernel_rfl) (by kernel_rfl) rfl (by decide) (S.sk (S.end ?_))
        refine HT.pk (i := 13) #[true, true, true, true, true, true, true, true, true, true, true, true, true, true, false, false] trivial (by kernel_rfl) (by kernel_rfl) rfl (by decide) (h := ?_)
        refine HT.one (i := 14) #[true, true, true, true, true, true, true, true, true, true, true, true, true, true, true, false] trivial (by kernel_rfl) (by kernel_rfl) rfl (by decide) (S.sv [_, _] true [_, _] am_in30 am_cl30 (h := S.end ?_))
        refine HT.one (i := 15) #[true, true, true, true, true, true, true, true, true, true, true, true, true, true, true, true] trivial (by kernel_rfl) (by kernel_rfl) rfl (by decide) (S.o q.as (S.end ?_))
        refine HT.nil trivial (by kernel_rfl) (hK _ ?_)
        clear hK K
        refine Ev.ret ?_
        refine Ev.rrv2 [0] (res_c [_, _] am_ag30 am_cl30 (res_t res_n)) (keepR_c (h := keepR_n)) leads1 ?_
        refine ⟨?_, ?_⟩
        all_goals first | rfl | exact lawT rfl
      · skip
        refine HT.one (i := 10) #[true, true, true, true, true, true, true, true, true, true, true, true, false, false, false, false] trivial (by kernel_rfl) (by kernel_rfl) rfl (by decide) (S.sk (S.end ?_))
        refine HT.one (i := 12) #[true, true, true, true, true, true, true, true, true, true, true, true, true, false, false, false] trivial (by kernel_rfl) (by kernel_rfl) rfl (by decide) (S.sk (S.end ?_))
        refine HT.pk (i := 13) #[true, true, true, true, true, true, true, true, true, true, true, true, true, true, false, false] trivial (by kernel_rfl) (by kernel_rfl) rfl (by decide) (h := ?_)
        refine HT.one (i := 14) #[true, true, true, true, true, true, true, true, true, true, true, true, true, true, true, false] trivial (by kernel_rfl) (by kernel_rfl) rfl (by decide) (S.sv [_, _] true [_, _] am_in30 am_cl30 (h := S.end ?_))
        refine HT.one (i := 15) #[true, true, true, true, true, true, true, true, true, true, true, true, true, true, true, true] trivial (by kernel_rfl) (by kernel_rfl) rfl (by decide) (S.o q.as (S.end ?_))
        refine HT.nil trivial (by kernel_rfl) (hK _ ?_)
        clear hK K
        refine Ev.ret ?_
        refine Ev.rrv2 [0] (res_c [_, _] am_ag30 am_cl30 (res_t res_n)) (keepR_c (h := keepR_n)) leads1 ?_
        refine ⟨?_, ?_⟩
        all_goals first | rfl | exact lawT rfl
  · first
  | (first | omega | contradiction)
  | refine Ev.sr fun K hK => S.o q.eql (S.o q.as (S.end (hK _ ?_)))
    clear hK K
    refine Ev.cd (fun c3 => ?_) (fun c3 => ?_)
    · first
    | (first | omega | contradiction)
    | have hac : actM lb m ⟨kind, len, cnt, ord⟩ = (sTkV lb m len) := (if_neg ‹_›).trans (if_pos ‹_›)
      rw [hac]
      have hwb : WfM lb (sTkV lb m len) := hac ▸ act_wf hw _
      have hwc := hL.wf _ hwb
      refine Ev.sr fun K hK => S.o (q.lvA [_, _] am_ag30 am_cl30) (S.o (q.fa 1 am_fi33_1 am_cl3) (S.o (q.lv am_ag3) (S.c0 (hF := rTake_fun lb len m hw) (h := S.o q.mv (S.o q.ex (S.o q.ex (S.o q.ex (S.nn (q.al am_ze30) (S.sv [_, _] true [_, _, _, _] am_in30 am_cl30 (h := S.o q.as (S.o q.as (S.end (hK _ ?_)))))))))))))
      clear hK K
      refine Ev.sr fun K hK => S.o q.mv (S.o (q.fa 1 am_fi33_1 am_cl3) (S.o (q.lv am_ag3) (S.cR [0] 5 [_, _, _, _, _] (hob := (keep_c (he := rfl) (h := keep_n))) (hF := sTakeR la len m hwa) (hn' := belowL rfl rfl) (h := ?_))))
      rw [hL.te, hL.tb, hL.tv]
      refine S.o q.mv (S.o q.ex (S.o q.ex (S.o q.as (S.o q.as (S.end (hK _ ?_))))))
      clear hK K
      refine Ev.weaken (Wk.frzv 10 [_, _, _, _]) ?_
      refine Ev.weaken (Wk.frzv 5 [_, _, _]) ?_
      refine Ev.stp (m := 16) (L0 := #[false, false, false, false, false, false, false, false, false, false, false, false, false, false, false, false]) rfl (by kernel_rfl) (by exact rfl) fun K hK => ?_
      refine HP.lsA (i := 0) [_, _] #[true, false, false, false, false, false, false, false, false, false, false, false, false, false, false, false] am_ag30 am_cl30 (by kernel_rfl) (by kernel_rfl) rfl (by decide) (h := ?_)
      refine HP.mv (i := 1) #[true, true, false, false, false, false, false, false, false, false, false, false, false, false, false, false] (by kernel_rfl) (by kernel_rfl) rfl (by decide) (h := ?_)
      refine HP.mv (i := 2) #[true, true, true, false, false, false, false, false, false, false, false, false, false, false, false, false] (by kernel_rfl) (by kernel_rfl) rfl (by decide) (h := ?_)
      refine .done ?_
      refine HT.one (i := 3) #[true, true, true, true, false, false, false, false, false, false, false, false, false, false, false, false] trivial (by kernel_rfl) (by kernel_rfl) rfl (by decide) (S.o q.eql (S.end ?_))
      refine HT.one (i := 4) #[true, true, true, true, true, false, false, false, false, false, false, false, false, false, false, false] trivial (by kernel_rfl) (by kernel_rfl) rfl (by decide) ?_
      refine S.bd q.mv (fun c4 => ?_) (fun c4 => ?_)
      · first
      | (first | omega | contradiction)
      | refine S.end ?_
        refine HT.mv (i := 5) #[true, true, true, true, true, true, false, false, false, false, false, false, false, false, false, false] trivial (by kernel_rfl) (by kernel_rfl) rfl (by decide) (h := ?_)
        refine HT.one (i := 6) #[true, true, true, true, true, true, true, false, false, false, false, false, false, false, false, false] trivial (by kernel_rfl) (by kernel_rfl) rfl (by decide) (S.o q.mv (S.end ?_))
        refine HT.one (i := 7) #[true, true, true, true, true, true, true, true, false, false, false, false, false, false, false, false] trivial (by kernel_rfl) (by kernel_rfl) rfl (by decide) (S.o q.eql (S.end ?_))
        refine HT.one (i := 8) #[true, true, true, true, true, true, true, true, true, false, false, false, false, false, false, false] trivial (by kernel_rfl) (by kernel_rfl) rfl (by decide) (S.o q.pt (S.end ?_))
        refine HT.one (i := 9) #[true, true, true, true, true, true, true, true, true, true, false, false, false, false, false, false] trivial (by kernel_rfl) (by kernel_rfl) rfl (by decide) ?_
        refine S.bd q.mv (fun c5 => ?_) (fun c5 => ?_)
        · first
        | (first | omega | contradiction)
        | refine S.end ?_
          refine HT.mv (i := 10) #[true, true, true, true, true, true, true, true, true, true, true, false, false, false, false, false] trivial (by kernel_rfl) (by kernel_rfl) rfl (by decide) (h := ?_)
          refine HT.one (i := 11) #[true, true, true, true, true, true, true, true, true, true, true, true, false, false, false, false] trivial (by kernel_rfl) (by kernel_rfl) rfl (by decide) (S.o (q.lsA [_, _] am_ag30 am_cl30) (S.end ?_))
          refine HT.one (i := 12) #[true, true, true, true, true, true, true, true, true, true, true, true, true, false, false, false] trivial (by kernel_rfl) (by kernel_rfl) rfl (by decide) (S.cR [0] 5 [_, _, _] (hob := (keep_c (he := rfl) (h := keep_n))) (hF := sameR la lb _ hwc) (hn' := belowL rfl rfl) (h := S.end ?_))
          refine HT.pk (i := 13) #[true, true, true, true, true, true, true, true, true, true, true, true, true, true, false, false] trivial (by kernel_rfl) (by kernel_rfl) rfl (by decide) (h := ?_)
          refine HT.one (i := 14) #[true, true, true, true, true, true, true, true, true, true, true, true, true, true, true, false] trivial (by kernel_rfl) (by kernel_rfl) rfl (by decide) (S.sv [_, _] true [_, _] am_in30 am_cl30 (h := S.end ?_))
          refine HT.one (i := 15) #[true, true, true, true, true, true, true, true, true, true, true, true, true, true, true, true] trivial (by kernel_rfl) (by kernel_rfl) rfl (by decide) (S.o q.as (S.end ?_))
          refine HT.nil trivial (by kernel_rfl) (hK _ ?_)
          clear hK K
          refine Ev.ret ?_
          refine Ev.rrv2 [0] (res_c [_, _] am_ag30 am_cl30 (res_t res_n)) (keepR_c (h := keepR_n)) leads1 ?_
          refine ⟨?_, ?_⟩
          all_goals first | rfl | exact lawT rfl
        · first
        | (first | omega | contradiction)
        | refine S.end ?_
          refine HT.two (i := 10) (j := 11) #[true, true, true, true, true, true, true, true, true, true, true, false, false, false, false, false] #[true, true, true, true, true, true, true, true, true, true, false, true, false, false, false, false] trivial (by kernel_rfl) (by kernel_rfl) (by kernel_rfl) rfl rfl (by decide) (by decide) (S.sk (S.end ?_)) (S.sk (S.end ?_))
          · skip
            refine HT.one (i := 11) #[true, true, true, true, true, true, true, true, true, true, true, true, false, false, false, false] trivial (by kernel_rfl) (by kernel_rfl) rfl (by decide) (S.sk (S.end ?_))
            refine HT.one (i := 12) #[true, true, true, true, true, true, true, true, true, true, true, true, true, false, false, false] trivial (by kernel_rfl) (by kernel_rfl) rfl (by decide) (S.sk (S.end ?_))
            refine HT.pk (i := 13) #[true, true, true, true, true, true, true, true, true, true, true, true, true, true, false, false] trivial (by kernel_rfl) (by kernel_rfl) rfl (by decide) (h := ?_)
            refine HT.one (i := 14) #[true, true, true, true, true, true, true, true, true, true, true, true, true, true, true, false] trivial (by kernel_rfl) (by kernel_rfl) rfl (by decide) (S.sv [_, _] true [_, _] am_in30 am_cl30 (h := S.end ?_))
            refine HT.one (i := 15) #[true, true, true, true, true, true, true, true, true, true, true, true, true, true, true, true] trivial (by kernel_rfl) (by kernel_rfl) rfl (by decide) (S.o q.as (S.end ?_))
            refine HT.nil trivial (by kernel_rfl) (hK _ ?_)
            clear hK K
            refine Ev.ret ?_
            refine Ev.rrv2 [0] (res_c [_, _] am_ag30 am_cl30 (res_t res_n)) (keepR_c (h := keepR_n)) leads1 ?_
            refine ⟨?_, ?_⟩
            all_goals first | rfl | exact lawT rfl
          · skip
            refine HT.one (i := 10) #[true, true, true, true, true, true, true, true, true, true, true, true, false, false, false, false] trivial (by kernel_rfl) (by kernel_rfl) rfl (by decide) (S.sk (S.end ?_))
            refine HT.one (i := 12) #[true, true, true, true, true, true, true, true, true, true, true, true, true, false, false, false] trivial (by kernel_rfl) (by kernel_rfl) rfl (by decide) (S.sk (S.end ?_))
            refine HT.pk (i := 13) #[true, true, true, true, true, true, true, true, true, true, true, true, true, true, false, false] trivial (by kernel_rfl) (by kernel_rfl) rfl (by decide) (h := ?_)
            refine HT.one (i := 14) #[true, true, true, true, true, true, true, true, true, true, true, true, true, true, true, false] trivial (by kernel_rfl) (by kernel_rfl) rfl (by decide) (S.sv [_, _] true [_, _] am_in30 am_cl30 (h := S.end ?_))
            refine HT.one (i := 15) #[true, true, true, true, true, true, true, true, true, true, true, true, true, true, true, true] trivial (by kernel_rfl) (by kernel_rfl) rfl (by decide) (S.o q.as (S.end ?_))
            refine HT.nil trivial (by kernel_rfl) (hK _ ?_)
            clear hK K
            refine Ev.ret ?_
            refine Ev.rrv2 [0] (res_c [_, _] am_ag30 am_cl30 (res_t res_n)) (keepR_c (h := keepR_n)) leads1 ?_
            refine ⟨?_, ?_⟩
            all_goals first | rfl | exact lawT rfl
      · first
      | (first | omega | contradiction)
      | refine S.end ?_
        refine HT.two (i := 5) (j := 6) #[true, true, true, true, true, true, false, false, false, false, false, false, false, false, false, false] #[true, true, true, true, true, false, true, false, false, false, false, false, false, false, false, false] trivial (by kernel_rfl) (by kernel_rfl) (by kernel_rfl) rfl rfl (by decide) (by decide) (S.sk (S.end ?_)) (S.sk (S.end ?_))
        · skip
          refine HT.one (i := 6) #[true, true, true, true, true, true, true, false, false, false, false, false, false, false, false, false] trivial (by kernel_rfl) (by kernel_rfl) rfl (by decide) (S.sk (S.end ?_))
          refine HT.one (i := 7) #[true, true, true, true, true, true, true, true, false, false, false, false, false, false, false, false] trivial (by kernel_rfl) (by kernel_rfl) rfl (by decide) (S.sk (S.end ?_))
          refine HT.one (i := 8) #[true, true, true, true, true, true, true, true, true, false, false, false, false, false, false, false] trivial (by kernel_rfl) (by kernel_rfl) rfl (by decide) (S.o q.pf (S.end ?_))
          refine HT.one (i := 9) #[true, true, true, true, true, true, true, true, true, true, false, false, false, false, false, false] trivial (by kernel_rfl) (by kernel_rfl) rfl (by decide) (S.o q.mv (S.end ?_))
          refine HT.two (i := 10) (j := 11) #[true, true, true, true, true, true, true, true, true, true, true, false, false, false, false, false] #[true, true, true, true, true, true, true, true, true, true, false, true, false, false, false, false] trivial (by kernel_rfl) (by kernel_rfl) (by kernel_rfl) rfl rfl (by decide) (by decide) (S.sk (S.end ?_)) (S.sk (S.end ?_))
          · skip
            refine HT.one (i := 11) #[true, true, true, true, true, true, true, true, true, true, true, true, false, false, false, false] trivial (by kernel_rfl) (by kernel_rfl) rfl (by decide) (S.sk (S.end ?_))
            refine HT.one (i := 12) #[true, true, true, true, true, true, true, true, true, true, true, true, true, false, false, false] trivial (by kernel_rfl) (by kernel_rfl) rfl (by decide) (S.sk (S.end ?_))
            refine HT.pk (i := 13) #[true, true, true, true, true, true, true, true, true, true, true, true, true, true, false, false] trivial (by kernel_rfl) (by kernel_rfl) rfl (by decide) (h := ?_)
            refine HT.one (i := 14) #[true, true, true, true, true, true, true, true, true, true, true, true, true, true, true, false] trivial (by kernel_rfl) (by kernel_rfl) rfl (by decide) (S.sv [_, _] true [_, _] am_in30 am_cl30 (h := S.end ?_))
            refine HT.one (i := 15) #[true, true, true, true, true, true, true, true, true, true, true, true, true, true, true, true] trivial (by kernel_rfl) (by kernel_rfl) rfl (by decide) (S.o q.as (S.end ?_))
            refine HT.nil trivial (by kernel_rfl) (hK _ ?_)
            clear hK K
            refine Ev.ret ?_
            refine Ev.rrv2 [0] (res_c [_, _] am_ag30 am_cl30 (res_t res_n)) (keepR_c (h := keepR_n)) leads1 ?_
            refine ⟨?_, ?_⟩
            all_goals first | rfl | exact lawT rfl
          · skip
            refine HT.one (i := 10) #[true, true, true, true, true, true, true, true, true, true, true, true, false, false, false, false] trivial (by kernel_rfl) (by kernel_rfl) rfl (by decide) (S.sk (S.end ?_))
            refine HT.one (i := 12) #[true, true, true, true, true, true, true, true, true, true, true, true, true, false, false, false] trivial (by kernel_rfl) (by kernel_rfl) rfl (by decide) (S.sk (S.end ?_))
            refine HT.pk (i := 13) #[true, true, true, true, true, true, true, true, true, true, true, true, true, true, false, false] trivial (by kernel_rfl) (by kernel_rfl) rfl (by decide) (h := ?_)
            refine HT.one (i := 14) #[true, true, true, true, true, true, true, true, true, true, true, true, true, true, true, false] trivial (by kernel_rfl) (by kernel_rfl) rfl (by decide) (S.sv [_, _] true [_, _] am_in30 am_cl30 (h := S.end ?_))
            refine HT.one (i := 15) #[true, true, true, true, true, true, true, true, true, true, true, true, true, true, true, true] trivial (by kernel_rfl) (by kernel_rfl) rfl (by decide) (S.o q.as (S.end ?_))
            refine HT.nil trivial (by kernel_rfl) (hK _ ?_)
            clear hK K
            refine Ev.ret ?_
            refine Ev.rrv2 [0] (res_c [_, _] am_ag30 am_cl30 (res_t res_n)) (keepR_c (h := keepR_n)) leads1 ?_
            refine ⟨?_, ?_⟩
            all_goals first | rfl | exact lawT rfl
        · skip
          refine HT.one (i := 5) #[true, true, true, true, true, true, true, false, false, false, false, false, false, false, false, false] trivial (by kernel_rfl) (by kernel_rfl) rfl (by decide) (S.sk (S.end ?_))
          refine HT.one (i := 7) #[true, true, true, true, true, true, true, true, false, false, false, false, false, false, false, false] trivial (by kernel_rfl) (by kernel_rfl) rfl (by decide) (S.sk (S.end ?_))
          refine HT.one (i := 8) #[true, true, true, true, true, true, true, true, true, false, false, false, false, false, false, false] trivial (by kernel_rfl) (by kernel_rfl) rfl (by decide) (S.o q.pf (S.end ?_))
          refine HT.one (i := 9) #[true, true, true, true, true, true, true, true, true, true, false, false, false, false, false, false] trivial (by kernel_rfl) (by kernel_rfl) rfl (by decide) (S.o q.mv (S.end ?_))
          refine HT.two (i := 10) (j := 11) #[true, true, true, true, true, true, true, true, true, true, true, false, false, false, false, false] #[true, true, true, true, true, true, true, true, true, true, false, true, false, false, false, false] trivial (by kernel_rfl) (by kernel_rfl) (by kernel_rfl) rfl rfl (by decide) (by decide) (S.sk (S.end ?_)) (S.sk (S.end ?_))
          · skip
            refine HT.one (i := 11) #[true, true, true, true, true, true, true, true, true, true, true, true, false, false, false, false] trivial (by kernel_rfl) (by kernel_rfl) rfl (by decide) (S.sk (S.end ?_))
            refine HT.one (i := 12) #[true, true, true, true, true, true, true, true, true, true, true, true, true, false, false, false] trivial (by kernel_rfl) (by kernel_rfl) rfl (by decide) (S.sk (S.end ?_))
            refine HT.pk (i := 13) #[true, true, true, true, true, true, true, true, true, true, true, true, true, true, false, false] trivial (by kernel_rfl) (by kernel_rfl) rfl (by decide) (h := ?_)
            refine HT.one (i := 14) #[true, true, true, true, true, true, true, true, true, true, true, true, true, true, true, false] trivial (by kernel_rfl) (by kernel_rfl) rfl (by decide) (S.sv [_, _] true [_, _] am_in30 am_cl30 (h := S.end ?_))
            refine HT.one (i := 15) #[true, true, true, true, true, true, true, true, true, true, true, true, true, true, true, true] trivial (by kernel_rfl) (by kernel_rfl) rfl (by decide) (S.o q.as (S.end ?_))
            refine HT.nil trivial (by kernel_rfl) (hK _ ?_)
            clear hK K
            refine Ev.ret ?_
            refine Ev.rrv2 [0] (res_c [_, _] am_ag30 am_cl30 (res_t res_n)) (keepR_c (h := keepR_n)) leads1 ?_
            refine ⟨?_, ?_⟩
            all_goals first | rfl | exact lawT rfl
          · skip
            refine HT.one (i := 10) #[true, true, true, true, true, true, true, true, true, true, true, true, false, false, false, false] trivial (by kernel_rfl) (by kernel_rfl) rfl (by decide) (S.sk (S.end ?_))
            refine HT.one (i := 12) #[true, true, true, true, true, true, true, true, true, true, true, true, true, false, false, false] trivial (by kernel_rfl) (by kernel_rfl) rfl (by decide) (S.sk (S.end ?_))
            refine HT.pk (i := 13) #[true, true, true, true, true, true, true, true, true, true, true, true, true, true, false, false] trivial (by kernel_rfl) (by kernel_rfl) rfl (by decide) (h := ?_)
            refine HT.one (i := 14) #[true, true, true, true, true, true, true, true, true, true, true, true, true, true, true, false] trivial (by kernel_rfl) (by kernel_rfl) rfl (by decide) (S.sv [_, _] true [_, _] am_in30 am_cl30 (h := S.end ?_))
            refine HT.one (i := 15) #[true, true, true, true, true, true, true, true, true, true, true, true, true, true, true, true] trivial (by kernel_rfl) (by kernel_rfl) rfl (by decide) (S.o q.as (S.end ?_))
            refine HT.nil trivial (by kernel_rfl) (hK _ ?_)
            clear hK K
            refine Ev.ret ?_
            refine Ev.rrv2 [0] (res_c [_, _] am_ag30 am_cl30 (res_t res_n)) (keepR_c (h := keepR_n)) leads1 ?_
            refine ⟨?_, ?_⟩
            all_goals first | rfl | exact lawT rfl
    · first
    | (first | omega | contradiction)
    | refine Ev.skip ?_
      show Ev _ _ _ _
      have hac : actM lb m ⟨kind, len, cnt, ord⟩ = (sSvV lb m ord) := (if_neg ‹_›).trans (if_neg ‹_›)
      rw [hac]
      have hwb : WfM lb (sSvV lb m ord) := hac ▸ act_wf hw _
      have hwc := hL.wf _ hwb
      have hso : (sSvO lb m ord).length ≤ 140737488355328 := Nat.le_trans (sSvO_len hw) (by decide)
      refine Ev.sr fun K hK => S.o (q.lvA [_, _] am_ag30 am_cl30) (S.o (q.fa 3 am_fi33_3 am_cl28) (S.o (q.lv am_ag28) (S.c0 (hF := rServe_fun lb m ord hw hx) (h := S.o q.mv (S.o q.ex (S.o q.ex (S.o q.ex (S.nn (q.al am_ze30) (S.sv [_, _] true [_, _, _, _] am_in30 am_cl30 (h := S.o q.as (S.o q.as (S.end (hK _ ?_)))))))))))))
      clear hK K
      refine Ev.sr fun K hK => S.o q.mv (S.o (q.fa 3 am_fi33_3 am_cl28) (S.o (q.lv am_ag28) (S.cR [0] 5 [_, _, _, _, _] (hob := (keep_c (he := rfl) (h := keep_n))) (hF := sServeR la m ord hwa hx) (hn' := belowL rfl rfl) (h := ?_))))
      rw [hL.se, hL.sv, hL.so]
      refine S.o q.mv (S.o q.ex (S.o q.ex (S.o q.as (S.o q.as (S.end (hK _ ?_))))))
      clear hK K
      refine Ev.weaken (Wk.frzv 15 [_, _, _, _]) ?_
      refine Ev.weaken (Wk.frzv 5 [_, _, _]) ?_
      refine Ev.stp (m := 16) (L0 := #[false, false, false, false, false, false, false, false, false, false, false, false, false, false, false, false]) rfl (by kernel_rfl) (by exact rfl) fun K hK => ?_
      refine HP.lsA (i := 0) [_, _] #[true, false, false, false, false, false, false, false, false, false, false, false, false, false, false, false] am_ag30 am_cl30 (by kernel_rfl) (by kernel_rfl) rfl (by decide) (h := ?_)
      refine HP.mv (i := 1) #[true, true, false, false, false, false, false, false, false, false, false, false, false, false, false, false] (by kernel_rfl) (by kernel_rfl) rfl (by decide) (h := ?_)
      refine HP.mv (i := 2) #[true, true, true, false, false, false, false, false, false, false, false, false, false, false, false, false] (by kernel_rfl) (by kernel_rfl) rfl (by decide) (h := ?_)
      refine .done ?_
      refine HT.one (i := 3) #[true, true, true, true, false, false, false, false, false, false, false, false, false, false, false, false] trivial (by kernel_rfl) (by kernel_rfl) rfl (by decide) (S.c0 (hF := eqPcT_fun (sSvO lb m ord) hso) (h := S.end ?_))
      refine HT.one (i := 4) #[true, true, true, true, true, false, false, false, false, false, false, false, false, false, false, false] trivial (by kernel_rfl) (by kernel_rfl) rfl (by decide) (S.o q.mv (S.end ?_))
      refine HT.mv (i := 5) #[true, true, true, true, true, true, false, false, false, false, false, false, false, false, false, false] trivial (by kernel_rfl) (by kernel_rfl) rfl (by decide) (h := ?_)
      refine HT.one (i := 6) #[true, true, true, true, true, true, true, false, false, false, false, false, false, false, false, false] trivial (by kernel_rfl) (by kernel_rfl) rfl (by decide) (S.o q.mv (S.end ?_))
      refine HT.one (i := 7) #[true, true, true, true, true, true, true, true, false, false, false, false, false, false, false, false] trivial (by kernel_rfl) (by kernel_rfl) rfl (by decide) (S.o q.eql (S.end ?_))
      refine HT.one (i := 8) #[true, true, true, true, true, true, true, true, true, false, false, false, false, false, false, false] trivial (by kernel_rfl) (by kernel_rfl) rfl (by decide) (S.o q.pt (S.end ?_))
      refine HT.one (i := 9) #[true, true, true, true, true, true, true, true, true, true, false, false, false, false, false, false] trivial (by kernel_rfl) (by kernel_rfl) rfl (by decide) ?_
      refine S.bd q.mv (fun c6 => ?_) (fun c6 => ?_)
      · first
      | (first | omega | contradiction)
      | refine S.end ?_
        refine HT.mv (i := 10) #[true, true, true, true, true, true, true, true, true, true, true, false, false, false, false, false] trivial (by kernel_rfl) (by kernel_rfl) rfl (by decide) (h := ?_)
        refine HT.one (i := 11) #[true, true, true, true, true, true, true, true, true, true, true, true, false, false, false, false] trivial (by kernel_rfl) (by kernel_rfl) rfl (by decide) (S.o (q.lsA [_, _] am_ag30 am_cl30) (S.end ?_))
        refine HT.one (i := 12) #[true, true, true, true, true, true, true, true, true, true, true, true, true, false, false, false] trivial (by kernel_rfl) (by kernel_rfl) rfl (by decide) (S.cR [0] 5 [_, _, _] (hob := (keep_c (he := rfl) (h := keep_n))) (hF := sameR la lb _ hwc) (hn' := belowL rfl rfl) (h := S.end ?_))
        refine HT.pk (i := 13) #[true, true, true, true, true, true, true, true, true, true, true, true, true, true, false, false] trivial (by kernel_rfl) (by kernel_rfl) rfl (by decide) (h := ?_)
        refine HT.one (i := 14) #[true, true, true, true, true, true, true, true, true, true, true, true, true, true, true, false] trivial (by kernel_rfl) (by kernel_rfl) rfl (by decide) (S.sv [_, _] true [_, _] am_in30 am_cl30 (h := S.end ?_))
        refine HT.one (i := 15) #[true, true, true, true, true, true, true, true, true, true, true, true, true, true, true, true] trivial (by kernel_rfl) (by kernel_rfl) rfl (by decide) (S.o q.as (S.end ?_))
        refine HT.nil trivial (by kernel_rfl) (hK _ ?_)
        clear hK K
        refine Ev.ret ?_
        refine Ev.rrv2 [0] (res_c [_, _] am_ag30 am_cl30 (res_t res_n)) (keepR_c (h := keepR_n)) leads1 ?_
        refine ⟨?_, ?_⟩
        all_goals first | rfl | exact lawT rfl
      · first
      | (first | omega | contradiction)
      | refine S.end ?_
        refine HT.two (i := 10) (j := 11) #[true, true, true, true, true, true, true, true, true, true, true, false, false, false, false, false] #[true, true, true, true, true, true, true, true, true, true, false, true, false, false, false, false] trivial (by kernel_rfl) (by kernel_rfl) (by kernel_rfl) rfl rfl (by decide) (by decide) (S.sk (S.end ?_)) (S.sk (S.end ?_))
        · skip
          refine HT.one (i := 11) #[true, true, true, true, true, true, true, true, true, true, true, true, false, false, false, false] trivial (by kernel_rfl) (by kernel_rfl) rfl (by decide) (S.sk (S.end ?_))
          refine HT.one (i := 12) #[true, true, true, true, true, true, true, true, true, true, true, true, true, false, false, false] trivial (by kernel_rfl) (by kernel_rfl) rfl (by decide) (S.sk (S.end ?_))
          refine HT.pk (i := 13) #[true, true, true, true, true, true, true, true, true, true, true, true, true, true, false, false] trivial (by kernel_rfl) (by kernel_rfl) rfl (by decide) (h := ?_)
          refine HT.one (i := 14) #[true, true, true, true, true, true, true, true, true, true, true, true, true, true, true, false] trivial (by kernel_rfl) (by kernel_rfl) rfl (by decide) (S.sv [_, _] true [_, _] am_in30 am_cl30 (h := S.end ?_))
          refine HT.one (i := 15) #[true, true, true, true, true, true, true, true, true, true, true, true, true, true, true, true] trivial (by kernel_rfl) (by kernel_rfl) rfl (by decide) (S.o q.as (S.end ?_))
          refine HT.nil trivial (by kernel_rfl) (hK _ ?_)
          clear hK K
          refine Ev.ret ?_
          refine Ev.rrv2 [0] (res_c [_, _] am_ag30 am_cl30 (res_t res_n)) (keepR_c (h := keepR_n)) leads1 ?_
          refine ⟨?_, ?_⟩
          all_goals first | rfl | exact lawT rfl
        · skip
          refine HT.one (i := 10) #[true, true, true, true, true, true, true, true, true, true, true, true, false, false, false, false] trivial (by kernel_rfl) (by kernel_rfl) rfl (by decide) (S.sk (S.end ?_))
          refine HT.one (i := 12) #[true, true, true, true, true, true, true, true, true, true, true, true, true, false, false, false] trivial (by kernel_rfl) (by kernel_rfl) rfl (by decide) (S.sk (S.end ?_))
          refine HT.pk (i := 13) #[true, true, true, true, true, true, true, true, true, true, true, true, true, true, false, false] trivial (by kernel_rfl) (by kernel_rfl) rfl (by decide) (h := ?_)
          refine HT.one (i := 14) #[true, true, true, true, true, true, true, true, true, true, true, true, true, true, true, false] trivial (by kernel_rfl) (by kernel_rfl) rfl (by decide) (S.sv [_, _] true [_, _] am_in30 am_cl30 (h := S.end ?_))
          refine HT.one (i := 15) #[true, true, true, true, true, true, true, true, true, true, true, true, true, true, true, true] trivial (by kernel_rfl) (by kernel_rfl) rfl (by decide) (S.o q.as (S.end ?_))
          refine HT.nil trivial (by kernel_rfl) (hK _ ?_)
          clear hK K
          refine Ev.ret ?_
          refine Ev.rrv2 [0] (res_c [_, _] am_ag30 am_cl30 (res_t res_n)) (keepR_c (h := keepR_n)) leads1 ?_
          refine ⟨?_, ?_⟩
          all_goals first | rfl | exact lawT rfl
end Go.Proofs.Ytaggnajjmopobaa

namespace Go.Proofs.Ytaggnajjmopobaa
open Go Go.AM
set_option linter.unusedSimpArgs false
set_option linter.unusedVariables false
set_option maxRecDepth 100000
set_option maxHeartbeats 2000000
theorem lst_nil : lstV ([] : Mp) = [] := List.length_eq_zero_iff.1 (lstV_len [])
theorem same0R (la lb : Int) : FunR Try.prog 12 [.adr 0 0 0, .agg [.lit (.int .i64 lb), .sh 2 []]] [(0, ⟨false, 47, 2, [[.lit (.int .i64 la), .shm 3 (([]).map (rowK (Value.int .i64) (Value.int .i64)))]], true⟩)] 1 (Ret (.lit (.bool true)) [(0, ⟨false, 47, 2, [[.lit (.int .i64 la), .shm 3 (([]).map (rowK (Value.int .i64) (Value.int .i64)))]], true⟩)]) := by
  have h := sameR la lb [] (wf_nil la)
  rw [lst_nil] at h
  exact h
theorem do0R (x : Act) (hx : x.ord.length ≤ 140737488355328) : FunR Try.prog 13 [.adr 0 0 0, .agg [.lit (.int .i64 1), .sh 2 []], .agg x.c] [(0, ⟨false, 47, 2, [[.lit (.int .i64 0), .shm 3 (([]).map (rowK (Value.int .i64) (Value.int .i64)))]], true⟩)] 1 (Ret (.tup [.agg [.lit (.int .i64 1), .sh 2 ((lstV (actM 1 [] x)).map pairC)], .lit (.bool true)]) [(0, ⟨false, 47, 2, [[.lit (.int .i64 0), .shm 3 (((actM 1 [] x)).map (rowK (Value.int .i64) (Value.int .i64)))]], true⟩)]) := by
  have h := doR 0 1 [] x likeL_01 (wf_nil 1) hx
  rw [lst_nil] at h
  exact h
theorem nPut_fun (n k : Int) : Fun Try.prog 16 [.lit (.pointer none), .lit (.int .i64 n), .lit (.int .i64 k)] (Ret (.lit (.int .i64 1)) []) := by
  refine Fun.of (nt := 45) (rs := [.tmp 6]) Try.func16 rfl rfl rfl rfl rfl ?_
  refine Ev.sr fun K hK => S.o q.as (S.end (hK _ ?_))
  clear hK K
  refine Ev.seq ?_
  refine Ev.block ?_
  refine Ev.sr fun K hK => S.o q.mv (S.peq (by kernel_rfl : Try.prog.underlying 25 = some (.pointer 47)) (h := S.o q.as (S.end (hK _ ?_))))
  clear hK K
  refine Ev.ct ?_
  refine Ev.sr fun K hK => S.o q.as (S.end (hK _ ?_))
  clear hK K
  refine Ev.ret ?_
  refine Ev.ret1 ?_
  refine ⟨?_, rfl⟩
  rfl
theorem nTake_fun (n : Int) : Fun Try.prog 14 [.lit (.pointer none), .lit (.int .i64 n)] (Ret (.tup [.lit (.int .i64 0), .lit (.int .i64 1)]) []) := by
  refine Fun.of (nt := 38) (rs := [.tmp 4, .tmp 5]) Try.func14 rfl rfl rfl rfl rfl ?_
  refine Ev.sr fun K hK => S.o q.as (S.o q.as (S.end (hK _ ?_)))
  clear hK K
  refine Ev.seq ?_
  refine Ev.block ?_
  refine Ev.sr fun K hK => S.o q.mv (S.peq (by kernel_rfl : Try.prog.underlying 25 = some (.pointer 47)) (h := S.o q.as (S.end (hK _ ?_))))
  clear hK K
  refine Ev.ct ?_
  refine Ev.sr fun K hK => S.o q.as (S.o q.as (S.end (hK _ ?_)))
  clear hK K
  refine Ev.ret ?_
  refine Ev.ret2 ?_
  refine ⟨?_, rfl⟩
  rfl
theorem nServe_fun (l : Mp) : Fun Try.prog 15 [.lit (.pointer none), .sh 2 (l.map pairC)] (Ret (.tup [.sh 2 (([] : Mp).map pairC), .lit (.int .i64 1)]) []) := by
  refine Fun.of (nt := 92) (rs := [.tmp 4, .tmp 5]) Try.func15 rfl rfl rfl rfl rfl ?_
  refine Ev.sr fun K hK => S.o q.as (S.o q.as (S.end (hK _ ?_)))
  clear hK K
  refine Ev.seq ?_
  refine Ev.sr fun K hK => S.o q.mv (S.peq (by kernel_rfl : Try.prog.underlying 25 = some (.pointer 47)) (h := S.o q.mv (S.sk (S.sk (S.sk (S.o q.pt (S.end (hK _ ?_))))))))
  clear hK K
  refine Ev.ct ?_
  refine Ev.sr fun K hK => S.o q.as (S.o q.as (S.end (hK _ ?_)))
  clear hK K
  refine Ev.weaken (Wk.nsh pairC 4 2) ?_
  refine Ev.ret ?_
  refine Ev.ret2 ?_
  refine ⟨?_, rfl⟩
  rfl
theorem nList_fun : Fun Try.prog 17 [.lit (.pointer none)] (Ret (.sh 2 (([] : Mp).map pairC)) []) := by
  refine Fun.of (nt := 32) (rs := [.tmp 2]) Try.func17 rfl rfl rfl rfl rfl ?_
  refine Ev.sr fun K hK => S.o q.as (S.end (hK _ ?_))
  clear hK K
  refine Ev.seq ?_
  refine Ev.sr fun K hK => S.o q.mv (S.peq (by kernel_rfl : Try.prog.underlying 25 = some (.pointer 47)) (h := S.end (hK _ ?_)))
  clear hK K
  refine Ev.ct ?_
  refine Ev.sr fun K hK => S.o q.as (S.end (hK _ ?_))
  clear hK K
  refine Ev.weaken (Wk.nsh pairC 2 2) ?_
  refine Ev.ret ?_
  refine Ev.ret1 ?_
  refine ⟨?_, rfl⟩
  rfl
theorem nTotal_fun : Fun Try.prog 18 [.lit (.pointer none)] (Ret (.lit (.int .i64 0)) []) := by
  refine Fun.of (nt := 24) (rs := [.tmp 2]) Try.func18 rfl rfl rfl rfl rfl ?_
  refine Ev.sr fun K hK => S.o q.as (S.end (hK _ ?_))
  clear hK K
  refine Ev.seq ?_
  refine Ev.sr fun K hK => S.o q.mv (S.peq (by kernel_rfl : Try.prog.underlying 25 = some (.pointer 47)) (h := S.end (hK _ ?_)))
  clear hK K
  refine Ev.ct ?_
  refine Ev.sr fun K hK => S.o q.as (S.end (hK _ ?_))
  clear hK K
  refine Ev.ret ?_
  refine Ev.ret1 ?_
  refine ⟨?_, rfl⟩
  rfl
end Go.Proofs.Ytaggnajjmopobaa

namespace Go.Proofs.Ytaggnajjmopobaa
open Go Go.AM
set_option linter.unusedSimpArgs false
set_option linter.unusedVariables false
set_option maxRecDepth 100000
set_option maxHeartbeats 2000000
theorem none_law (x : Act) (hx : x.w) : Fun Try.prog 4 [.agg x.c] (Ret (.lit (.bool true)) []) := by
  have hw : ∀ y ∈ [x], y.w := fun y hy => by rw [List.mem_singleton.1 hy]; exact hx
  have hx2 : x.ord.length ≤ 140737488355328 := hx
  obtain ⟨kind, len, cnt, ord⟩ := x
  refine Fun.of (nt := 73) (rs := [.tmp 2]) Try.func4 rfl rfl rfl rfl rfl ?_
  refine Ev.sr fun K hK => S.nn (q.bx [_, _, _, _] true) (S.o q.as (S.end (hK _ ?_)))
  clear hK K
  refine Ev.seq ?_
  refine Ev.sr fun K hK => S.c0 (hF := awake_fun) (h := S.o q.nott (S.end (hK _ ?_)))
  clear hK K
  refine Ev.cf ?_
  refine Ev.skip ?_
  show Ev _ _ _ _
  refine Ev.seq ?_
  refine Ev.sr fun K hK => S.o (q.lvA [_, _, _, _] am_ag33 am_cl33) (S.nn (q.bs [[_, _, _, _]] true am_el22 am_ze33 am_cl33) ?_)
  refine SeqL.weaken (Wk.frzl (f := Act.c) [(⟨kind, len, cnt, ord⟩ : Act)] 14 [_]) ?_
  refine S.c0 (hF := few_fun [(⟨kind, len, cnt, ord⟩ : Act)] (by simp) hw) (h := S.o q.not (S.end (hK _ ?_)))
  clear hK K
  refine Ev.cn (fun c1 => ?_) (fun c1 => ?_)
  · first
  | (first | omega | contradiction)
  | refine Ev.sr fun K hK => S.o q.as (S.end (hK _ ?_))
    clear hK K
    refine Ev.ret ?_
    refine Ev.ret1 ?_
    refine ⟨?_, rfl⟩
    first | rfl | exact lawT rfl | exact lawT (by assumption) | exact lawT (by omega) | (exfalso; omega) | contradiction | (exfalso; simp at *; done)
  · first
  | (first | omega | contradiction)
  | refine Ev.skip ?_
    show Ev _ _ _ _
    refine Ev.sr fun K hK => S.o q.as (S.end (hK _ ?_))
    clear hK K
    refine Ev.sr fun K hK => S.o q.mv (S.o (q.fa 1 am_fi33_1 am_cl3) (S.o (q.lv am_ag3) (S.c0 (hF := nTake_fun len) (h := S.o q.mv (S.o q.ex (S.o q.ex (S.o q.as (S.o q.as (S.end (hK _ ?_))))))))))
    clear hK K
    refine Ev.sr fun K hK => S.o q.mv (S.o (q.fa 3 am_fi33_3 am_cl28) (S.o (q.lv am_ag28) (S.c0 (hF := nServe_fun ord) (h := S.o q.mv (S.o q.ex (S.o q.ex (S.o q.as (S.o q.as (S.end (hK _ ?_))))))))))
    clear hK K
    refine Ev.seq ?_
    refine Ev.sr fun K hK => S.o q.mv (S.o (q.fa 1 am_fi33_1 am_cl3) (S.o (q.lv am_ag3) (S.o (q.fa 2 am_fi33_2 am_cl3) (S.o (q.lv am_ag3) (S.c0 (hF := nPut_fun len cnt) (h := S.o q.neq (S.bn q.mv (fun c2 => ?_) (fun c2 => ?_))))))))
    · first
    | (first | omega | contradiction)
    | refine S.sk (S.sk (S.o q.pt (S.o q.mv (S.sk (S.sk (S.o q.pt (S.o q.mv (S.sk (S.sk (S.sk (S.o q.pt (S.o q.mv (S.sk (S.sk (S.o q.pt (S.o q.mv (S.sk (S.sk (S.sk (S.sk (S.o q.pt (S.o q.mv (S.sk (S.sk (S.sk (S.o q.pt (S.end (hK _ ?_))))))))))))))))))))))))))))
      clear hK K
      refine Ev.ct ?_
      refine Ev.sr fun K hK => S.o q.as (S.end (hK _ ?_))
      clear hK K
      refine Ev.ret ?_
      refine Ev.ret1 ?_
      refine ⟨?_, rfl⟩
      first | rfl | exact lawT rfl | exact lawT (by assumption) | exact lawT (by omega) | (exfalso; omega) | contradiction | (exfalso; simp at *; done)
    · first
    | (first | omega | contradiction)
    | refine S.o q.mv (S.o q.neq (S.o q.pf (S.bn q.mv (fun c3 => ?_) (fun c3 => ?_))))
      · first
      | (first | omega | contradiction)
      | refine S.sk (S.sk (S.o q.pt (S.o q.mv (S.sk (S.sk (S.sk (S.o q.pt (S.o q.mv (S.sk (S.sk (S.o q.pt (S.o q.mv (S.sk (S.sk (S.sk (S.sk (S.o q.pt (S.o q.mv (S.sk (S.sk (S.sk (S.o q.pt (S.end (hK _ ?_))))))))))))))))))))))))
        clear hK K
        refine Ev.ct ?_
        refine Ev.sr fun K hK => S.o q.as (S.end (hK _ ?_))
        clear hK K
        refine Ev.ret ?_
        refine Ev.ret1 ?_
        refine ⟨?_, rfl⟩
        first | rfl | exact lawT rfl | exact lawT (by assumption) | exact lawT (by omega) | (exfalso; omega) | contradiction | (exfalso; simp at *; done)
      · first
      | (first | omega | contradiction)
      | refine S.o q.mv (S.o q.neq (S.o q.pf (S.bn q.mv (fun c4 => ?_) (fun c4 => ?_))))
        · first
        | (first | omega | contradiction)
        | refine S.sk (S.sk (S.sk (S.o q.pt (S.o q.mv (S.sk (S.sk (S.o q.pt (S.o q.mv (S.sk (S.sk (S.sk (S.sk (S.o q.pt (S.o q.mv (S.sk (S.sk (S.sk (S.o q.pt (S.end (hK _ ?_))))))))))))))))))))
          clear hK K
          refine Ev.ct ?_
          refine Ev.sr fun K hK => S.o q.as (S.end (hK _ ?_))
          clear hK K
          refine Ev.ret ?_
          refine Ev.ret1 ?_
          refine ⟨?_, rfl⟩
          first | rfl | exact lawT rfl | exact lawT (by assumption) | exact lawT (by omega) | (exfalso; omega) | contradiction | (exfalso; simp at *; done)
        · first
        | (first | omega | contradiction)
        | refine S.o q.mv (S.o (q.lens am_el28) (S.o q.neq (S.o q.pf (S.bn q.mv (fun c5 => ?_) (fun c5 => ?_)))))
          · first
          | (first | omega | contradiction)
          | refine S.sk (S.sk (S.o q.pt (S.o q.mv (S.sk (S.sk (S.sk (S.sk (S.o q.pt (S.o q.mv (S.sk (S.sk (S.sk (S.o q.pt (S.end (hK _ ?_)))))))))))))))
            clear hK K
            refine Ev.ct ?_
            refine Ev.sr fun K hK => S.o q.as (S.end (hK _ ?_))
            clear hK K
            refine Ev.ret ?_
            refine Ev.ret1 ?_
            refine ⟨?_, rfl⟩
            first | rfl | exact lawT rfl | exact lawT (by assumption) | exact lawT (by omega) | (exfalso; omega) | contradiction | (exfalso; simp at *; done)
          · first
          | (first | omega | contradiction)
          | refine S.o q.mv (S.o q.neq (S.o q.pf (S.bn q.mv (fun c6 => ?_) (fun c6 => ?_))))
            · first
            | (first | omega | contradiction)
            | refine S.sk (S.sk (S.sk (S.sk (S.o q.pt (S.o q.mv (S.sk (S.sk (S.sk (S.o q.pt (S.end (hK _ ?_)))))))))))
              clear hK K
              refine Ev.ct ?_
              refine Ev.sr fun K hK => S.o q.as (S.end (hK _ ?_))
              clear hK K
              refine Ev.ret ?_
              refine Ev.ret1 ?_
              refine ⟨?_, rfl⟩
              first | rfl | exact lawT rfl | exact lawT (by assumption) | exact lawT (by omega) | (exfalso; omega) | contradiction | (exfalso; simp at *; done)
            · first
            | (first | omega | contradiction)
            | refine S.o q.mv (S.c0 (hF := nList_fun) (h := S.o (q.lens am_el28) (S.o q.neq (S.o q.pf (S.bn q.mv (fun c7 => ?_) (fun c7 => ?_))))))
              · first
              | (first | omega | contradiction)
              | refine S.sk (S.sk (S.sk (S.o q.pt (S.end (hK _ ?_)))))
                clear hK K
                refine Ev.ct ?_
                refine Ev.sr fun K hK => S.o q.as (S.end (hK _ ?_))
                clear hK K
                refine Ev.ret ?_
                refine Ev.ret1 ?_
                refine ⟨?_, rfl⟩
                first | rfl | exact lawT rfl | exact lawT (by assumption) | exact lawT (by omega) | (exfalso; omega) | contradiction | (exfalso; simp at *; done)
              · first
              | (first | omega | contradiction)
              | refine S.o q.mv (S.c0 (hF := nTotal_fun) (h := S.o q.neq (S.o q.pf (S.end (hK _ ?_)))))
                clear hK K
                refine Ev.cn (fun c8 => ?_) (fun c8 => ?_)
                · first
                | (first | omega | contradiction)
                | refine Ev.sr fun K hK => S.o q.as (S.end (hK _ ?_))
                  clear hK K
                  refine Ev.ret ?_
                  refine Ev.ret1 ?_
                  refine ⟨?_, rfl⟩
                  first | rfl | exact lawT rfl | exact lawT (by assumption) | exact lawT (by omega) | (exfalso; omega) | contradiction | (exfalso; simp at *; done)
                · first
                | (first | omega | contradiction)
                | refine Ev.skip ?_
                  show Ev _ _ _ _
                  refine Ev.sr fun K hK => S.nn (q.al am_ze47) (S.end (hK _ ?_))
                  clear hK K
                  refine Ev.sr fun K hK => S.o (q.bd [_, _] am_ze30 am_pl30) ?_
                  refine SeqL.weaken (Wk.nsa (cs' := [.lit (.int .i64 1), .sh 2 []]) [0, 3] 67) ?_
                  refine SeqL.weaken (Wk.nmv (sz' := 3) 2 1 [_]) ?_
                  refine S.o (q.lvA [_, _, _, _] am_ag33 am_cl33) (S.cR [2] 3 [_, _] (hob := (keep_c (he := rfl) (h := keep_n))) (hF := do0R (⟨kind, len, cnt, ord⟩ : Act) hx2) (hn' := belowL rfl rfl) (h := S.o q.mv (S.o q.ex (S.o q.ex (S.nn (q.al am_ze30) (S.sv [_, _] true [_, _] am_in30 am_cl30 (h := S.o q.as (S.end (hK _ ?_)))))))))
                  clear hK K
                  refine Ev.sr fun K hK => S.o q.mv (S.o q.as (S.end (hK _ ?_)))
                  clear hK K
                  refine Ev.ret ?_
                  refine Ev.ret1 ?_
                  refine ⟨?_, rfl⟩
                  first | rfl | exact lawT rfl | exact lawT (by assumption) | exact lawT (by omega) | (exfalso; omega) | contradiction | (exfalso; simp at *; done)
theorem doesN (least : Int) (l : List Act) (hlen : l.length ≤ 140737488355328) (hw : ∀ x ∈ l, x.w) (h : ¬ inL least) : Fun Try.prog 3 [.lit (.int .i64 least), .sh 4 (l.map Act.c)] (Ret (.lit (.bool true)) []) := by
  refine Fun.of (nt := 46) (rs := [.tmp 4]) Try.func3 rfl rfl rfl rfl rfl ?_
  refine Ev.sr fun K hK => S.o q.as (S.end (hK _ ?_))
  clear hK K
  refine Ev.seq ?_
  refine Ev.sr fun K hK => S.c0 (hF := awake_fun) (h := S.o q.nott (S.end (hK _ ?_)))
  clear hK K
  refine Ev.cf ?_
  refine Ev.skip ?_
  show Ev _ _ _ _
  refine Ev.seq ?_
  refine Ev.sr fun K hK => S.o q.mv (S.c0 (hF := few_fun _ (by omega) (by assumption)) (h := S.o q.not (S.end (hK _ ?_))))
  clear hK K
  refine Ev.cn (fun c1 => ?_) (fun c1 => ?_)
  · first
  | (first | omega | contradiction)
  | refine Ev.sr fun K hK => S.o q.as (S.end (hK _ ?_))
    clear hK K
    refine Ev.ret ?_
    refine Ev.ret1 ?_
    refine ⟨?_, rfl⟩
    first | rfl | exact lawT rfl | exact lawT (by assumption) | exact lawT (by omega) | (exfalso; omega) | contradiction | (exfalso; simp at *; done)
  · first
  | (first | omega | contradiction)
  | refine Ev.skip ?_
    show Ev _ _ _ _
    refine Ev.sr fun K hK => S.o q.mv (S.c0 (hF := newN_fun least h) (h := S.o q.as (S.end (hK _ ?_))))
    clear hK K
    refine Ev.seq ?_
    refine Ev.sr fun K hK => S.o q.mv (S.c0 (hF := rLen_fun _) (h := S.o q.not (S.end (hK _ ?_))))
    clear hK K
    refine Ev.cn (fun c2 => ?_) (fun c2 => ?_)
    · first
    | (first | omega | contradiction)
    | refine Ev.sr fun K hK => S.o q.mv (S.peq (by kernel_rfl : Try.prog.underlying 25 = some (.pointer 47)) (h := S.o q.as (S.end (hK _ ?_))))
      clear hK K
      refine Ev.ret ?_
      refine Ev.ret1 ?_
      refine ⟨?_, rfl⟩
      first | rfl | exact lawT rfl | exact lawT (by assumption) | exact lawT (by omega) | (exfalso; omega) | contradiction | (exfalso; simp at *; done)
    · first
    | (first | omega | contradiction)
    | refine Ev.skip ?_
      show Ev _ _ _ _
      refine Ev.seq ?_
      refine Ev.sr fun K hK => S.o q.mv (S.peq (by kernel_rfl : Try.prog.underlying 25 = some (.pointer 47)) (h := S.end (hK _ ?_)))
      clear hK K
      refine Ev.ct ?_
      refine Ev.sr fun K hK => S.o q.as (S.end (hK _ ?_))
      clear hK K
      refine Ev.ret ?_
      refine Ev.ret1 ?_
      refine ⟨?_, rfl⟩
      first | rfl | exact lawT rfl | exact lawT (by assumption) | exact lawT (by omega) | (exfalso; omega) | contradiction | (exfalso; simp at *; done)
theorem doesY (least : Int) (l : List Act) (hlen : l.length ≤ 140737488355328) (hw : ∀ x ∈ l, x.w) (h : inL least) : Fun Try.prog 3 [.lit (.int .i64 least), .sh 4 (l.map Act.c)] (Ret (.lit (.bool true)) []) := by
  have hm0 : lstV (madeM least []) = [] := lst_nil
  refine Fun.of (nt := 46) (rs := [.tmp 4]) Try.func3 rfl rfl rfl rfl rfl ?_
  refine Ev.sr fun K hK => S.o q.as (S.end (hK _ ?_))
  clear hK K
  refine Ev.seq ?_
  refine Ev.sr fun K hK => S.c0 (hF := awake_fun) (h := S.o q.nott (S.end (hK _ ?_)))
  clear hK K
  refine Ev.cf ?_
  refine Ev.skip ?_
  show Ev _ _ _ _
  refine Ev.seq ?_
  refine Ev.sr fun K hK => S.o q.mv (S.c0 (hF := few_fun _ (by omega) (by assumption)) (h := S.o q.not (S.end (hK _ ?_))))
  clear hK K
  refine Ev.cn (fun c1 => ?_) (fun c1 => ?_)
  · first
  | (first | omega | contradiction)
  | refine Ev.sr fun K hK => S.o q.as (S.end (hK _ ?_))
    clear hK K
    refine Ev.ret ?_
    refine Ev.ret1 ?_
    refine ⟨?_, rfl⟩
    first | rfl | exact lawT rfl | exact lawT (by assumption) | exact lawT (by omega) | (exfalso; omega) | contradiction | (exfalso; simp at *; done)
  · first
  | (first | omega | contradiction)
  | refine Ev.skip ?_
    show Ev _ _ _ _
    refine Ev.sr fun K hK => S.o q.mv (S.cg 1 [_] (hF := newY_fun least h) (hn' := belowL rfl rfl) (h := S.o q.as (S.end (hK _ ?_))))
    clear hK K
    refine Ev.seq ?_
    refine Ev.sr fun K hK => S.o q.mv (S.c0 (hF := rLen_fun _) (h := S.o q.not (S.end (hK _ ?_))))
    clear hK K
    refine Ev.cn (fun c2 => ?_) (fun c2 => ?_)
    · first
    | (first | omega | contradiction)
    | refine Ev.sr fun K hK => S.o q.mv (S.peqa (by kernel_rfl : Try.prog.underlying 25 = some (.pointer 47)) (h := S.o q.as (S.end (hK _ ?_))))
      clear hK K
      refine Ev.ret ?_
      refine Ev.ret1 ?_
      refine ⟨?_, rfl⟩
      first | rfl | exact lawT rfl | exact lawT (by assumption) | exact lawT (by omega) | (exfalso; omega) | contradiction | (exfalso; simp at *; done)
    · first
    | (first | omega | contradiction)
    | refine Ev.skip ?_
      show Ev _ _ _ _
      refine Ev.seq ?_
      refine Ev.sr fun K hK => S.o q.mv (S.peqa (by kernel_rfl : Try.prog.underlying 25 = some (.pointer 47)) (h := S.end (hK _ ?_)))
      clear hK K
      refine Ev.cf ?_
      refine Ev.skip ?_
      show Ev _ _ _ _
      refine Ev.sr fun K hK => S.o q.mv (S.o (q.bd [_, _] am_ze30 am_pl30) ?_)
      refine SeqL.weaken (Wk.nsa (cs' := [.lit (.int .i64 least), .sh 2 []]) [0, 3] 25) ?_
      refine S.nn (q.al am_ze30) (S.sv [_, _] true [_] am_in30 am_cl30 (h := S.end (hK _ ?_)))
      clear hK K
      refine Ev.sr fun K hK => S.o q.mv (S.o (q.lvA [_, _] am_ag30 am_cl30) (S.cR [0] 2 [_, _] (hob := (keep_c (he := rfl) (h := keep_n))) (hF := same0R least least) (hn' := belowL rfl rfl) (h := S.o q.as (S.end (hK _ ?_)))))
      clear hK K
      refine Ev.seq ?_
      refine Ev.sr fun K hK => S.o q.mv (S.o (q.lens am_el22) (S.o q.mv (S.end (hK _ ?_))))
      clear hK K
      refine Ev.block ?_
      refine Ev.loopU (ι := {p : List (Act) × List (Act) // p.1 ++ p.2 = l ∧ True}) [0, 1] [5, 6, 29, 30] (fun ⟨(pre, suf), _⟩ => [(31, .lit (.int .i64 ((pre.length : Int)))), (7, .lit (.bool (true)))]) (fun ⟨(pre, suf), _⟩ => [(0, ⟨false, 47, 2, [[.lit (.int .i64 (least)), .shm 3 ((madeM least pre).map (rowK (Value.int .i64) (Value.int .i64)))]], true⟩), (1, ⟨false, 30, 2, [[.lit (.int .i64 (least)), .sh 2 ((lstV (madeM least pre)).map pairC)]], true⟩)]) (fun ⟨(pre, suf), _⟩ => suf.length) ⟨([], l), rfl, trivial⟩ (.c (.c (.c (.c .n)))) (keep_c (he := (by first | rfl | (simp; done))) (h := (keep_c (he := (by first | rfl | (rw [hm0]; done) | (rw [hm0] <;> rfl))) (h := keep_n)))) (slots_c (he := (by first | rfl | (congr 2; simp; done))) (h := (slots_c (he := (by first | rfl | (simp; done) | (congr 2; omega))) (h := trivial)))) ?_
      rintro ⟨⟨pre, suf⟩, hp, hinv⟩ R0 hR0
      dsimp only [List.cons_append, List.nil_append, List.length_cons, List.length_nil]
      simp only at hp hinv
      have hpl : pre.length + suf.length = (l).length := by rw [← hp, List.length_append]
      rcases suf with _ | ⟨s, suf⟩
      · rw [List.append_nil] at hp; simp only [List.length_nil] at hpl
        refine Ev.sr fun K hK => S.o q.lss (S.end (hK _ ?_))
        clear hK K
        refine Ev.ud (fun c3 => ?_) (fun c3 => ?_)
        · first | omega | contradiction | (exfalso; simp at *; done)
        · first
        | (first | omega | contradiction)
        | refine Ev.exit ?_
          refine hR0 _ _ ?_
          show Ev _ _ _ _
          refine Ev.sr fun K hK => S.o q.mv (S.o q.as (S.end (hK _ ?_)))
          clear hK K
          refine Ev.ret ?_
          refine Ev.ret1 ?_
          refine ⟨?_, rfl⟩
          first | rfl | exact lawT rfl | exact lawT (by assumption) | exact lawT (by omega) | (exfalso; omega) | contradiction | (exfalso; simp at *; done)
      · simp only [List.length_cons] at hpl
        have hidx : l[pre.length]? = some s := by rw [← hp]; simp
        have hso : s.ord.length ≤ 140737488355328 := hw s (by rw [← hp]; simp)
        obtain ⟨kind, len, cnt, ord⟩ := s
        refine Ev.sr fun K hK => S.o q.lss (S.end (hK _ ?_))
        clear hK K
        refine Ev.ud (fun c4 => ?_) (fun c4 => ?_)
        · first
        | (first | omega | contradiction)
        | refine Ev.seq ?_
          refine Ev.block ?_
          refine Ev.sr fun K hK => S.o (q.ix am_el22 am_cl33 (hl := (by first | exact ati hidx (by omega) | exact atig (by omega)))) (S.o (q.lsA [_, _, _, _] am_ag33 am_cl33) (S.nn (q.al am_ze33) (S.sv [_, _, _, _] true [_, _] am_in33 am_cl33 (h := S.end (hK _ ?_)))))
          clear hK K
          refine Ev.seq ?_
          refine Ev.sr fun K hK => S.o q.mv (S.o q.nott (S.end (hK _ ?_)))
          clear hK K
          refine Ev.cf ?_
          refine Ev.skip ?_
          show Ev _ _ _ _
          refine Ev.region_S fun K hK => S.o q.mv (S.o (q.lvA [_, _] am_ag30 am_cl30) (S.o (q.lvA [_, _, _, _] am_ag33 am_cl33) (S.cR [0] 3 [_, _, _] (hob := (keep_c (he := rfl) (h := keep_n))) (hF := doR least least (madeM least pre) ⟨kind, len, cnt, ord⟩ (likeL_self least) (made_wf least pre) hso) (hn' := belowL rfl rfl) (h := ?_))))
          rw [← madeM_snoc]
          refine S.o q.mv (S.o q.ex (S.o q.ex (S.sv [_, _] true [_, _] am_in30 am_cl30 (h := S.o q.as (S.end (hK _ ?_))))))
          clear hK K
          show Ev _ _ _ _
          refine Ev.region_S fun K hK => S.o q.add (S.o q.mv (S.end (hK _ ?_)))
          clear hK K
          refine hR0 _ _ ?_
          refine roundU [0, 1] [5, 6, 29, 30] ⟨(pre ++ [⟨kind, len, cnt, ord⟩], suf), by rw [← hp]; simp, ?_⟩ ?_ (keep_c (he := (by first | rfl | (simp; done))) (h := (keep_c (he := (by first | rfl | (rw [hm0]; done) | (rw [hm0] <;> rfl))) (h := keep_n)))) (slots_c (he := (by first | rfl | (congr 2; simp; done))) (h := (slots_c (he := (by first | rfl | (simp; done) | (congr 2; omega))) (h := trivial)))) (.c (.c (.c (.c .n))))
          trivial
          all_goals (dsimp only; simp only [List.length_cons]; omega)
        · first | omega | contradiction | (exfalso; simp at *; done)
theorem does_law (least : Int) (l : List Act) (hlen : l.length ≤ 140737488355328) (hw : ∀ x ∈ l, x.w) : Fun Try.prog 3 [.lit (.int .i64 least), .sh 4 (l.map Act.c)] (Ret (.lit (.bool true)) []) := by
  by_cases h : inL least
  · exact doesY least l hlen hw h
  · exact doesN least l hlen hw h
end Go.Proofs.Ytaggnajjmopobaa
