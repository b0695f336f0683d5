/-
  Sorted sizes; masses of a schedule that is turned round.
  Conditions: none.
-/
import Derived.Test.YtappnbebcjmlbaaQ3
namespace Go.Proofs.Ytappnbebcjmlbaa
open Go Go.AM
set_option linter.unusedSimpArgs false
set_option linter.unusedVariables false
set_option maxRecDepth 100000

theorem cmp_fun (a b : Int × Int) (h1 : 0 ≤ a.1 ∧ a.1 ≤ 1000) (h2 : 0 ≤ b.1 ∧ b.1 ≤ 1000) : Fun Try.prog 18 [.agg (pairC a), .agg (pairC b)] (Ret (.lit (.int .i64 (a.1 - b.1))) []) := by
  refine Fun.of (nt := 10) (rs := [.tmp 4]) Try.func18 rfl rfl rfl rfl rfl ?_
  refine Ev.sr fun K hK => S.nn (q.bx [_, _] true) (S.nn (q.bx [_, _] true) (S.o q.as (S.end (hK _ ?_))))
  clear hK K
  refine Ev.sr fun K hK => S.o (q.fa 0 am_fi34_0 am_cl3) (S.o (q.lv am_ag3) (S.o (q.fa 0 am_fi34_0 am_cl3) (S.o (q.lv am_ag3) (S.o q.sub (S.o q.as (S.end (hK _ ?_)))))))
  clear hK K
  refine Ev.ret ?_
  refine Ev.ret1 ?_
  refine ⟨?_, rfl⟩
  -- leaf 1
  rfl
theorem sorted_fun (l : List (Int × Int)) (hs : l.Pairwise (fun p q => p.1 < q.1)) (hb : ∀ s ∈ l, 0 ≤ s.1 ∧ s.1 ≤ 1000) (hlen : l.length ≤ 1000) : Fun Try.prog 17 [.sh 2 (l.map pairC), .fn (.func 18) [] []] (Ret (.lit (.bool true)) []) := by
  refine Fun.of (nt := 25) (rs := [.tmp 4]) Try.func17 rfl rfl rfl rfl rfl ?_
  refine Ev.sr fun K hK => S.o q.as (S.end (hK _ ?_))
  clear hK K
  refine Ev.seq ?_
  refine Ev.sr fun K hK => S.o q.mv (S.o (q.lens am_el25) (S.o q.sub (S.o q.as (S.end (hK _ ?_)))))
  clear hK K
  refine Ev.block ?_
  refine Ev.loopU (ι := {k : Nat // k ≤ l.length}) [] [0, 1] (fun ⟨k, _⟩ => [(5, .lit (.int .i64 ((l.length : Int) - 1 - k)))]) (fun ⟨k, _⟩ => []) (fun ⟨k, _⟩ => l.length - k) ⟨0, Nat.zero_le _⟩ (.c (.c .n)) keep_n (slots_c (he := (by first | rfl | (congr 2; omega))) (h := trivial)) ?_
  rintro ⟨k, hk⟩ R0 hR0
  dsimp only [List.cons_append, List.nil_append, List.length_cons, List.length_nil]
  have hg1 : ∀ h : k + 1 < l.length, l[l.length - 1 - k]? = some (l[l.length - 1 - k]'(by omega)) := fun h => List.getElem?_eq_getElem _
  have hg2 : ∀ h : k + 1 < l.length, l[l.length - 2 - k]? = some (l[l.length - 2 - k]'(by omega)) := fun h => List.getElem?_eq_getElem _
  have hlt : ∀ h : k + 1 < l.length, (l[l.length - 2 - k]'(by omega)).1 < (l[l.length - 1 - k]'(by omega)).1 := fun h => List.pairwise_iff_getElem.1 hs _ _ _ _ (by omega)
  have hb1 : ∀ h : k + 1 < l.length, 0 ≤ (l[l.length - 1 - k]'(by omega)).1 ∧ (l[l.length - 1 - k]'(by omega)).1 ≤ 1000 := fun h => hb _ (List.getElem_mem _)
  have hb2 : ∀ h : k + 1 < l.length, 0 ≤ (l[l.length - 2 - k]'(by omega)).1 ∧ (l[l.length - 2 - k]'(by omega)).1 ≤ 1000 := fun h => hb _ (List.getElem_mem _)
  refine Ev.seq ?_
  refine Ev.sr fun K hK => S.o q.mv (S.o q.gtr (S.end (hK _ ?_)))
  clear hK K
  refine Ev.cd (fun c1 => ?_) (fun c1 => ?_)
  · first
    | (first | omega | contradiction)
    | refine Ev.skip ?_
      show Ev _ _ _ _
      refine Ev.seq ?_
      refine Ev.block ?_
      refine Ev.sm (tbs [(0, 0), (0, 0), (0, 0), (3, 6), (4, 14), (0, 0), (0, 0), (7, 64), (8, 224), (9, 480), (10, 1023), (11, 2047)]) 12 fun K hK => M.o q.mv (M.o q.mv (M.o q.mv (M.o (q.ix am_el25 am_cl34 (hl := (by first | exact ati (hg1 (by omega)) (by omega) | exact ati (hg2 (by omega)) (by omega) | exact atig (by omega)))) (M.o (q.lsA [_, _] am_ag34 am_cl34) (M.o q.mv (M.o q.mv (M.o q.sub (M.o (q.ix am_el25 am_cl34 (hl := (by first | exact ati (hg1 (by omega)) (by omega) | exact ati (hg2 (by omega)) (by omega) | exact atig (by omega)))) (M.o (q.lsA [_, _] am_ag34 am_cl34) (M.c0 (hF := cmp_fun _ _ (hb1 (by omega)) (hb2 (by omega))) (h := M.o q.lss (M.end [] (h := S.end (hK _ ?_))))))))))))))
      clear hK K
      refine Ev.cd (fun c2 => ?_) (fun c2 => ?_)
      · first
        | (first | omega | contradiction)
        | refine Ev.sr fun K hK => S.o q.as (S.end (hK _ ?_))
          clear hK K
          refine Ev.ret ?_
          refine hR0 _ _ ?_
          refine Ev.ret1 ?_
          refine ⟨?_, rfl⟩
          -- leaf 1
          first | rfl | (exfalso; have := hlt (by omega); omega)
      · first
        | (first | omega | contradiction)
        | refine Ev.skip ?_
          show Ev _ _ _ _
          refine Ev.region_S fun K hK => S.o q.mv (S.o q.sub (S.o q.as (S.end (hK _ ?_))))
          clear hK K
          -- back 2
          refine hR0 _ _ ?_
          refine roundU [] [0, 1] ⟨k + 1, by omega⟩ ?_ keep_n (slots_c (he := (by first | rfl | (congr 2; omega))) (h := trivial)) (.c (.c .n))
          skip
          all_goals (dsimp only; omega)
  · first
    | (first | omega | contradiction)
    | refine Ev.exit ?_
      refine hR0 _ _ ?_
      show Ev _ _ _ _
      refine Ev.sr fun K hK => S.o q.as (S.end (hK _ ?_))
      clear hK K
      refine Ev.ret ?_
      refine Ev.ret1 ?_
      refine ⟨?_, rfl⟩
      -- leaf 3
      first | rfl | (exfalso; have := hlt (by omega); omega)

theorem ofSum_go : ∀ (l : List Bar) (d a : Int), l.foldl (fun a b => if b.size = d then a + barMass b else a) a = a + ofSum l d
  | [], d, a => by simp [ofSum]
  | x :: l, d, a => by
    rw [ofSum, List.foldl_cons, List.foldl_cons, ofSum_go l, ofSum_go l]
    split <;> omega
theorem ofSum_cons (x : Bar) (l : List Bar) (d : Int) : ofSum (x :: l) d = (if x.size = d then barMass x else 0) + ofSum l d := by
  rw [ofSum, List.foldl_cons, ofSum_go]
  split <;> omega
theorem ofSum_rev (d : Int) : ∀ l : List Bar, ofSum l.reverse d = ofSum l d
  | [] => rfl
  | x :: l => by
    rw [List.reverse_cons, ofSum_snoc, ofSum_rev d l, ofSum_cons]
    split <;> omega
theorem ofSum_none {d : Int} : ∀ {l : List Bar}, (¬ ∃ b ∈ l, decide (b.size = d) = true) → ofSum l d = 0
  | [], _ => rfl
  | x :: l, h => by
    rw [ofSum_cons, if_neg (fun e => h ⟨x, by simp, by simp [e]⟩), ofSum_none (fun ⟨b, hb, e⟩ => h ⟨b, by simp [hb], e⟩)]
    rfl
theorem massesP_sum (l : List Bar) : ∀ q : List Int, sumI ((massesP l q).map (·.2)) = sumI (q.map (ofSum l)) := by
  refine snoc_ind rfl ?_
  intro q d ih
  rw [massesP_snoc, List.map_append, sumI_app, ← ih]
  split
  · rw [List.map_append, sumI_app]; rfl
  · rename_i h
    have : sumI ([d].map (ofSum l)) = 0 := by simp [sumI, ofSum_none h]
    omega
theorem massesP_rev (l : List Bar) (q : List Int) : massesP l.reverse q = massesP l q := by
  unfold massesP
  have e1 : ∀ d, (∃ b ∈ l.reverse, decide (b.size = d) = true) ↔ (∃ b ∈ l, decide (b.size = d) = true) := fun d => by simp
  simp only [e1, ofSum_rev]
theorem okSched_rev {l : List Bar} : okSched l.reverse ↔ okSched l := by
  unfold okSched
  rw [List.length_reverse, List.pairwise_reverse]
  simp only [List.mem_reverse]
  constructor <;> rintro ⟨h1, h2, h3⟩ <;> exact ⟨h1, h2, h3.imp (fun h e => h e.symm)⟩
theorem massesV_rev (l : List Bar) : massesV l.reverse = massesV l ∧ schedE l.reverse = schedE l := by
  unfold massesV schedE
  by_cases h : okSched l
  · rw [if_pos h, if_pos h, if_pos (okSched_rev.2 h), if_pos (okSched_rev.2 h), massesP_rev]; exact ⟨rfl, rfl⟩
  · rw [if_neg h, if_neg h, if_neg (fun h' => h (okSched_rev.1 h')), if_neg (fun h' => h (okSched_rev.1 h'))]; exact ⟨rfl, rfl⟩
theorem massesP_mem {l : List Bar} {s : Int × Int} (h : s ∈ massesP l sizes) : (∃ b ∈ l, decide (b.size = s.1) = true) ∧ s.1 ∈ sizes ∧ s.2 = ofSum l s.1 := by
  unfold massesP at h
  rw [List.mem_map] at h
  obtain ⟨d, hd, rfl⟩ := h
  rw [List.mem_filter] at hd
  exact ⟨of_decide_eq_true hd.2, hd.1, rfl⟩
theorem massesP_asc (l : List Bar) : (massesP l sizes).Pairwise (fun p q => p.1 < q.1) := by
  unfold massesP
  rw [List.pairwise_map]
  exact List.Pairwise.filter _ (show sizes.Pairwise (fun p q => p < q) by decide)
theorem schedW_rev {l : List Bar} (h : schedW l) : schedW l.reverse := fun b hb => h b (List.mem_reverse.1 hb)
end Go.Proofs.Ytappnbebcjmlbaa
