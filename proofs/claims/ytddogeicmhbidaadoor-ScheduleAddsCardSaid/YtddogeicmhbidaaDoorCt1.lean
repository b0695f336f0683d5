/-
  Layer 14: the pieces of all sizes, plain laws.
  Conditions: none.
-/
import Derived.Test.YtddogeicmhbidaaDoorPc1
import Derived.Test.YtddogeicmhbidaaDoorSched
namespace Go.Proofs.YtddogeicmhbidaaDoor
open Go Go.AM
set_option linter.unusedSimpArgs false
set_option linter.unusedVariables false
set_option maxRecDepth 100000

def szCnt (l : List Bar) (d : Int) : Int := (l.map fun b => if b.size = d then b.count else 0).sum
theorem sum_nn : ∀ l : List Int, (∀ x ∈ l, 0 ≤ x) → 0 ≤ l.sum
  | [], _ => by simp
  | x :: l, h => by
    have h1 := h x (by simp)
    have h2 := sum_nn l (fun y hy => h y (by simp [hy]))
    rw [List.sum_cons]; omega
theorem sum_le {k : Int} : ∀ l : List Int, (∀ x ∈ l, x ≤ k) → l.sum ≤ k * l.length
  | [], _ => by simp
  | x :: l, h => by
    have h1 := h x (by simp)
    have h2 := sum_le l (fun y hy => h y (by simp [hy]))
    rw [List.sum_cons, List.length_cons, Int.natCast_add, Int.mul_add]; simp only [Int.natCast_one, Int.mul_one]; omega
theorem perm_sum {l m : List Int} (h : l.Perm m) : l.sum = m.sum := by
  induction h with
  | nil => rfl
  | cons x _ ih => rw [List.sum_cons, List.sum_cons, ih]
  | swap x y l => simp only [List.sum_cons]; omega
  | trans _ _ h1 h2 => exact h1.trans h2
theorem sum_zero {T : Type} (f : T → Int) : ∀ l : List T, (∀ x ∈ l, f x = 0) → (l.map f).sum = 0
  | [], _ => rfl
  | x :: l, h => by rw [List.map_cons, List.sum_cons, h x (by simp), sum_zero f l (fun y hy => h y (by simp [hy]))]; rfl
theorem sum_add {T : Type} (f g : T → Int) : ∀ l : List T, (l.map fun x => f x + g x).sum = (l.map f).sum + (l.map g).sum
  | [] => rfl
  | x :: l => by simp only [List.map_cons, List.sum_cons, sum_add f g l]; omega
theorem sum_swap {T U : Type} (g : T → U → Int) (l : List U) : ∀ q : List T, (q.map fun p => (l.map (g p)).sum).sum = (l.map fun b => (q.map fun p => g p b).sum).sum
  | [] => by simp only [List.map_nil, List.sum_nil]; exact (sum_zero _ l fun _ _ => rfl).symm
  | p :: q => by
    simp only [List.map_cons, List.sum_cons, sum_swap g l q]
    exact (sum_add (g p) (fun b => (q.map fun p => g p b).sum) l).symm
theorem sum_one {T K : Type} [DecidableEq K] (key : T → K) (k : K) (v : Int) : ∀ q : List T, (q.map key).Nodup → k ∈ q.map key → (q.map fun p => if key p = k then v else 0).sum = v
  | [], _, h => by simp at h
  | p :: q, hn, h => by
    rw [List.map_cons, List.nodup_cons] at hn
    rw [List.map_cons, List.sum_cons]
    by_cases e : key p = k
    · rw [if_pos e, sum_zero _ q (fun x hx => if_neg (fun e' => hn.1 (by rw [e, ← e']; exact List.mem_map_of_mem hx)))]
      omega
    · rw [if_neg e, sum_one key k v q hn.2 (by
        rcases List.mem_cons.1 h with h | h
        · exact absurd h.symm e
        · exact h)]
      omega
theorem pcP_keys (l : List Bar) (d : Int) : ((pcP l d).map (·.1)).Nodup := by
  rw [List.Nodup, List.pairwise_map]
  exact (pcP_sorted l d).imp fun h e => by omega
/-- The pieces of a size are as many as its bars. -/
theorem pcP_sum {l : List Bar} (hok : ∀ b ∈ l, okBar b) (d : Int) : ((pcP l d).map (·.2)).sum = szCnt l d := by
  have e1 : (pcP l d).map (·.2) = (pcP l d).map fun p => (l.map fun b => if b.size = d ∧ cutOf b = p.1 then b.count else 0).sum :=
    List.map_congr_left fun p hp => ((pcP_mem hok p).1 hp).2
  rw [e1, sum_swap (fun (p : Int × Int) (b : Bar) => if b.size = d ∧ cutOf b = p.1 then b.count else 0) l (pcP l d), szCnt]
  congr 1
  refine List.map_congr_left fun b hb => ?_
  by_cases hd : b.size = d
  · rw [if_pos hd]
    have hm : cutOf b ∈ (pcP l d).map (·.1) := List.mem_map.2 ⟨(cutOf b, pcCnt l d (cutOf b)), (pcP_mem hok _).2 ⟨⟨b, hb, hd, rfl⟩, rfl⟩, rfl⟩
    refine Eq.trans ?_ (sum_one (fun p : Int × Int => p.1) (cutOf b) b.count (pcP l d) (pcP_keys l d) hm)
    congr 1
    refine List.map_congr_left fun p _ => ?_
    by_cases e : p.1 = cutOf b
    · rw [if_pos e, if_pos ⟨hd, e.symm⟩]
    · rw [if_neg e, if_neg (fun h => e h.2.symm)]
  · rw [if_neg hd]
    exact sum_zero _ _ fun p _ => if_neg fun h => hd h.1
theorem sizes_nodup : (sizes.map fun d => d).Nodup := by decide
theorem sizes_sum {l : List Bar} (hok : ∀ b ∈ l, okBar b) : (sizes.map (szCnt l)).sum = (l.map fun b => b.count).sum := by
  have e := sum_swap (fun (d : Int) (b : Bar) => if b.size = d then b.count else 0) l sizes
  have e0 : (sizes.map (szCnt l)) = sizes.map fun d => (l.map fun b => if b.size = d then b.count else 0).sum := rfl
  rw [e0, e]
  congr 1
  refine List.map_congr_left fun b hb => ?_
  refine Eq.trans ?_ (sum_one (fun d : Int => d) b.size b.count sizes sizes_nodup (by rw [List.map_id']; exact (hok b hb).2.1))
  congr 1
  refine List.map_congr_left fun d _ => ?_
  by_cases e : b.size = d
  · rw [if_pos e, if_pos e.symm]
  · rw [if_neg e, if_neg (fun h => e h.symm)]
theorem pcP_perm {l m : List Bar} (h : l.Perm m) (hok : ∀ b ∈ l, okBar b) (d : Int) : pcP m d = pcP l d := by
  have hok' : ∀ b ∈ m, okBar b := fun b hb => hok b (h.mem_iff.2 hb)
  refine desc_ext (pcP_sorted m d) (pcP_sorted l d) fun p => ?_
  rw [pcP_mem hok, pcP_mem hok']
  have e1 : PcHas m d p.1 ↔ PcHas l d p.1 := by
    unfold PcHas
    exact ⟨fun ⟨b, hb, e⟩ => ⟨b, h.mem_iff.2 hb, e⟩, fun ⟨b, hb, e⟩ => ⟨b, h.mem_iff.1 hb, e⟩⟩
  have e2 : pcCnt m d p.1 = pcCnt l d p.1 := (perm_sum (h.map _)).symm
  rw [e1, e2]
theorem okSched_rev {l : List Bar} (h : okSched l) : okSched l.reverse := by
  obtain ⟨h1, h2, h3⟩ := h
  exact ⟨by rw [List.length_reverse]; exact h1, fun b hb => h2 b (List.mem_reverse.1 hb), by rw [List.pairwise_reverse]; exact h3.imp fun h e => h e.symm⟩
theorem szCnt_bd {l : List Bar} (hok : ∀ b ∈ l, okBar b) (d : Int) : 0 ≤ szCnt l d ∧ szCnt l d ≤ 1000 * l.length := by
  refine ⟨sum_nn _ fun x hx => ?_, ?_⟩
  · obtain ⟨b, hb, rfl⟩ := List.mem_map.1 hx
    have := (hok b hb).2.2.1
    split <;> omega
  · have := sum_le (k := 1000) (l.map fun b => if b.size = d then b.count else 0) fun x hx => by
      obtain ⟨b, hb, rfl⟩ := List.mem_map.1 hx
      have := (hok b hb).2.2.2.1
      split <;> omega
    rwa [List.length_map] at this
/-- What is taken off so far. -/
def offS (l : List Bar) (q : List Int) : Int := (q.map (szCnt l)).sum
theorem offS_snoc (l : List Bar) (q : List Int) (d : Int) : offS l (q ++ [d]) = offS l q + szCnt l d := by simp [offS]
theorem offS_bd {l : List Bar} (hok : ∀ b ∈ l, okBar b) (hl : l.length ≤ 60) (q : List Int) : 0 ≤ offS l q ∧ offS l q ≤ 60000 * q.length := by
  refine ⟨sum_nn _ fun x hx => ?_, ?_⟩
  · obtain ⟨d, _, rfl⟩ := List.mem_map.1 hx
    exact (szCnt_bd hok d).1
  · have := sum_le (k := 60000) (q.map (szCnt l)) fun x hx => by
      obtain ⟨d, _, rfl⟩ := List.mem_map.1 hx
      have := (szCnt_bd hok d).2
      omega
    rwa [List.length_map] at this
def cntP (q : List (Int × Int)) : Int := (q.map (·.2)).sum
theorem cntP_snoc (q : List (Int × Int)) (a b : Int) : cntP (q ++ [(a, b)]) = cntP q + b := by simp [cntP]
theorem cntP_bd {l : List Bar} (hok : ∀ b ∈ l, okBar b) (hl : l.length ≤ 60) {d : Int} {pre suf : List (Int × Int)} (hp : pre ++ suf = pcP l d) : 0 ≤ cntP pre ∧ cntP pre ≤ 60000 := by
  have h0 : ∀ q : List (Int × Int), (∀ p ∈ q, p ∈ pcP l d) → 0 ≤ cntP q := fun q hq => sum_nn _ fun x hx => by
    obtain ⟨p, hpq, rfl⟩ := List.mem_map.1 hx
    obtain ⟨h1, h2⟩ := (pcP_mem hok p).1 (hq p hpq)
    rw [h2]
    exact (pcCnt_bd d p.1 l hok).1
  have h1 := h0 pre fun p hpp => by rw [← hp]; simp [hpp]
  have h2 := h0 suf fun p hpp => by rw [← hp]; simp [hpp]
  have h3 := pcP_sum hok d
  have h4 := (szCnt_bd hok d).2
  rw [← hp, List.map_append, List.sum_append] at h3
  unfold cntP at *
  omega
theorem pc_desc {l : List Bar} {d : Int} {pre suf : List (Int × Int)} {a b : Int} (hp : pre ++ (a, b) :: suf = pcP l d) (h : 0 < pre.length) : a < (pre.getLast (List.ne_nil_of_length_pos h)).1 := by
  have hs := pcP_sorted l d
  rw [← hp, List.pairwise_append] at hs
  exact hs.2.2 _ (List.getLast_mem _) (a, b) (by simp)
theorem pc_one {l : List Bar} (hok : ∀ b ∈ l, okBar b) {d : Int} {pre suf : List (Int × Int)} {a b : Int} (hp : pre ++ (a, b) :: suf = pcP l d) : 1 ≤ b ∧ b ≤ 1000 * l.length := by
  have hm : (a, b) ∈ pcP l d := by rw [← hp]; simp
  obtain ⟨h1, h2⟩ := (pcP_mem hok _).1 hm
  dsimp only at h1 h2
  rw [h2]
  exact ⟨pcCnt_pos hok h1, (pcCnt_bd d a l hok).2⟩
theorem okS_zero {l : List Bar} (h : (if okSched l then (0 : Int) else 1) = 0) : okSched l := by
  by_cases hd : okSched l
  · exact hd
  · rw [if_neg hd] at h; cases h
end Go.Proofs.YtddogeicmhbidaaDoor
