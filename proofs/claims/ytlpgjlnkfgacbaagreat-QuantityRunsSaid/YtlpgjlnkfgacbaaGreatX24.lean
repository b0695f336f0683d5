/-
  Part 24 of the proof: functions walked on the abstract machine.
  Conditions: none.
-/
import Derived.Test.YtlpgjlnkfgacbaaGreatX23
set_option linter.unusedSimpArgs false
set_option linter.unusedVariables false
set_option maxRecDepth 100000
set_option maxHeartbeats 1000000
namespace Go.Proofs.YtlpgjlnkfgacbaaGreat
open Go Go.AM
def co3 (a b c : Int) (k : Nat) : Int := if k = 0 then a else if k = 1 then b else c
def loB (b : Bx) (k : Nat) : Int := co3 b.lx b.ly b.lz k
def hiB (b : Bx) (k : Nat) : Int := co3 b.hx b.hy b.hz k
def okAx (b : Bx) (k : Nat) : Prop := loB b k ≤ hiB b k ∧ -1048576 ≤ loB b k ∧ hiB b k ≤ 1048576
theorem okBx_ax (b : Bx) : okBx b ↔ ∀ k, k < 3 → okAx b k := by
  constructor
  · rintro ⟨h1, h2, h3⟩ k hk
    match k, hk with
    | 0, _ => exact h1
    | 1, _ => exact h2
    | 2, _ => exact h3
  intro h; exact ⟨h 0 (by decide), h 1 (by decide), h 2 (by decide)⟩
theorem ax_snoc {b : Bx} {k : Nat} (h : ∀ j, j < k → okAx b j) (h1 : okAx b k) : ∀ j, j < k + 1 → okAx b j := fun j hj => by
  by_cases e : j = k
  · subst e; exact h1
  · exact h j (by omega)
theorem coords_fun (a b c : Int) : Fun Tryz.prog 120 [.agg [iL a, iL b, iL c]] (Ret (.agg [iL a, iL b, iL c]) []) := by
  refine Fun.of (nt := 10) (rs := [.cell 2 178]) Tryz.func120 rfl rfl rfl rfl rfl (Ev.sr fun _ z=>S.nn (q.bx _ true) (S.nn (q.al am_ze178) (S.e z (Ev.sr fun _ z=>S.o (q.fa 0 am_fi38_0 am_cl3) (S.o (q.lv am_ag3) (S.o (q.fa 1 am_fi38_1 am_cl3) (S.o (q.lv am_ag3) (S.o (q.fa 2 am_fi38_2 am_cl3) (S.o (q.lv am_ag3) (S.o (q.bda [_, _, _] am_ze178 am_pn178 am_ar178 am_cl3) (S.sv _ true [_] am_in178 am_cl178 (h := S.e z (Ev.ret (Ev.retv1 (res_c [_, _, _] am_ag178 am_cl178 res_n) (⟨?_, rfl⟩))))))))))))))); rfl
theorem ends0_fun (b : Bx) : Fun Tryz.prog 99 [.agg b.c, iL 0] (Ret (.tup [iL b.lx, iL b.hx]) []) := by
  refine Fun.of (nt := 16) (rs := [.tmp 4, .tmp 5]) Tryz.func99 rfl rfl rfl rfl rfl (Ev.sr fun _ z=>S.nn (q.bx _ true) (S.o q.as (S.o q.as (S.e z (Ev.weaken (Wk.forget [4]) (Ev.sm (tbs [(0, 0), (1, 1), (2, 3), (0, 0), (4, 15), (0, 0), (6, 32), (7, 103), (0, 0), (9, 487), (8, 255), (11, 2047)]) 11 fun _ z=>M.o (q.fa 0 am_fi75_0 am_cl38) (M.o (q.lvA _ am_ag38 am_cl38) (M.c0 (hF := coords_fun _ _ _) (h := M.o q.mv (M.o (q.ixg am_ar178 am_ag3 am_cl3) (M.o (q.fa 3 am_fi75_1 am_cl38) (M.o (q.lvA _ am_ag38 am_cl38) (M.c0 (hF := coords_fun _ _ _) (h := M.o q.mv (M.o (q.ixg am_ar178 am_ag3 am_cl3) (M.o q.as (M.end [_] (h := S.o q.as (S.e z (Ev.ret (Ev.p2 ?_))))))))))))))))))))); rfl
theorem ends1_fun (b : Bx) : Fun Tryz.prog 99 [.agg b.c, iL 1] (Ret (.tup [iL b.ly, iL b.hy]) []) := by
  refine Fun.of (nt := 16) (rs := [.tmp 4, .tmp 5]) Tryz.func99 rfl rfl rfl rfl rfl (Ev.sr fun _ z=>S.nn (q.bx _ true) (S.o q.as (S.o q.as (S.e z (Ev.weaken (Wk.forget [4]) (Ev.sm (tbs [(0, 0), (1, 1), (2, 3), (0, 0), (4, 15), (0, 0), (6, 32), (7, 103), (0, 0), (9, 487), (8, 255), (11, 2047)]) 11 fun _ z=>M.o (q.fa 0 am_fi75_0 am_cl38) (M.o (q.lvA _ am_ag38 am_cl38) (M.c0 (hF := coords_fun _ _ _) (h := M.o q.mv (M.o (q.ixg am_ar178 am_ag3 am_cl3) (M.o (q.fa 3 am_fi75_1 am_cl38) (M.o (q.lvA _ am_ag38 am_cl38) (M.c0 (hF := coords_fun _ _ _) (h := M.o q.mv (M.o (q.ixg am_ar178 am_ag3 am_cl3) (M.o q.as (M.end [_] (h := S.o q.as (S.e z (Ev.ret (Ev.p2 ?_))))))))))))))))))))); rfl
theorem ends2_fun (b : Bx) : Fun Tryz.prog 99 [.agg b.c, iL 2] (Ret (.tup [iL b.lz, iL b.hz]) []) := by
  refine Fun.of (nt := 16) (rs := [.tmp 4, .tmp 5]) Tryz.func99 rfl rfl rfl rfl rfl (Ev.sr fun _ z=>S.nn (q.bx _ true) (S.o q.as (S.o q.as (S.e z (Ev.weaken (Wk.forget [4]) (Ev.sm (tbs [(0, 0), (1, 1), (2, 3), (0, 0), (4, 15), (0, 0), (6, 32), (7, 103), (0, 0), (9, 487), (8, 255), (11, 2047)]) 11 fun _ z=>M.o (q.fa 0 am_fi75_0 am_cl38) (M.o (q.lvA _ am_ag38 am_cl38) (M.c0 (hF := coords_fun _ _ _) (h := M.o q.mv (M.o (q.ixg am_ar178 am_ag3 am_cl3) (M.o (q.fa 3 am_fi75_1 am_cl38) (M.o (q.lvA _ am_ag38 am_cl38) (M.c0 (hF := coords_fun _ _ _) (h := M.o q.mv (M.o (q.ixg am_ar178 am_ag3 am_cl3) (M.o q.as (M.end [_] (h := S.o q.as (S.e z (Ev.ret (Ev.p2 ?_))))))))))))))))))))); rfl
theorem ends_fun (b : Bx) (k : Nat) (hk : k < 3) : Fun Tryz.prog 99 [.agg b.c, iL (k : Int)] (Ret (.tup [iL (loB b k), iL (hiB b k)]) []) := by
  match k, hk with
  | 0, _ => exact ends0_fun b
  | 1, _ => exact ends1_fun b
  | 2, _ => exact ends2_fun b
theorem boxValid_fun (b : Bx) : Fun Tryz.prog 75 [.agg b.c] (Ret (bL (decide (okBx b))) []) := by
  have hax := okBx_ax b; refine Fun.of (nt := 27) (rs := [.tmp 2]) Tryz.func75 rfl rfl rfl rfl rfl (Ev.sr fun _ z=>S.nn (q.bx _ true) (S.o q.as (S.e z (Ev.seq (Ev.sr fun _ z=>S.o q.mv (S.e z (Ev.block (Ev.loopU (ι := {k : Nat // k ≤ 3 ∧ ∀ j, j < k → okAx b j}) [0] [1] (fun ⟨k, _⟩ => [(6, iL (k : Int))]) (fun ⟨k, _⟩ => [(0, ⟨false, 75, 6, [[iL (b.lx), iL (b.ly), iL (b.lz), iL (b.hx), iL (b.hy), iL (b.hz)]], true⟩)]) (fun ⟨k, _⟩ => 3 - k) ⟨0, by decide, fun j hj => absurd hj (by omega)⟩ (.c .n) (keep_c) (slots_c) ?_)))))))); rintro ⟨k, hk, hinv⟩ R0 hR0; dsimp only [cA, nA, lC, lN]
  by_cases hk3 : k < 3
  rotate_left
  · obtain rfl : k = 3 := by omega
    refine Ev.sr fun _ z=>S.o q.lss (S.e z (Ev.ud (fun c1 => ?_) (fun c1 => ?_)))
    · omega
    refine Ev.exit (hR0 _ _ (Ev.sr fun _ z=>S.o q.as (S.e z (Ev.ret (Ev.p1 ?_))))); exact bT (hax.2 hinv)
  have hax3 : okAx b k ↔ loB b k ≤ hiB b k ∧ -1048576 ≤ loB b k ∧ hiB b k ≤ 1048576 := Iff.rfl; refine Ev.sr fun _ z=>S.o q.lss (S.e z (Ev.ud (fun c2 => ?_) (fun c2 => ?_)))
  · refine Ev.seq (Ev.block (Ev.sr fun _ z=>S.o q.mv (S.o q.as (S.e z (Ev.sr fun _ z=>S.o (q.lvA _ am_ag75 am_cl75) (S.o q.mv (S.c0 (hF := ends_fun b k hk3) (h := S.o q.mv (S.o q.ex (S.o q.ex (S.o q.as (S.o q.as (S.e z (Ev.sr fun _ z=>S.o q.mv (S.o q.mv (S.o q.gtr (S.bd q.mv (fun c3 => ?_) (fun c3 => ?_))))))))))))))))))
    · refine S.s2 (S.o q.pt (S.o q.mv (S.s2 (S.o q.pt (S.e z (Ev.ct (Ev.sr fun _ z=>S.o q.as (S.e z (Ev.ret (hR0 _ _ (Ev.p1 ?_))))))))))); exact bF (fun h => by have h1 := hax3.1 (hax.1 h k hk3); omega)
    refine S.o q.mv (S.o q.lss (S.o q.pf (S.bd q.mv (fun c4 => ?_) (fun c4 => ?_))))
    · refine S.s2 (S.o q.pt (S.e z (Ev.ct (Ev.sr fun _ z=>S.o q.as (S.e z (Ev.ret (hR0 _ _ (Ev.p1 ?_)))))))); exact bF (fun h => by have h1 := hax3.1 (hax.1 h k hk3); omega)
    refine S.o q.mv (S.o q.gtr (S.o q.pf (S.e z (Ev.cd (fun c5 => ?_) (fun c5 => ?_)))))
    · refine Ev.sr fun _ z=>S.o q.as (S.e z (Ev.ret (hR0 _ _ (Ev.p1 ?_)))); exact bF (fun h => by have h1 := hax3.1 (hax.1 h k hk3); omega)
    refine Ev.skip (Ev.region_S fun _ z=>S.o q.add (S.o q.mv (S.e z (hR0 _ _ (roundU [0] [1] ⟨k + 1, by omega, ax_snoc hinv (hax3.2 (by omega))⟩ ?_ (keep_c) (slots_c) (.c .n)))))); skip; all_goals (dsimp only; omega)
  omega
theorem right_fun (d : Dem) (hw : d.w) : Fun Tryz.prog 93 [.agg d.c] (Ret (bL (decide (okDem d))) []) := by
  obtain ⟨n, b, s⟩ := d; obtain ⟨hw1, hw2⟩ := hw
  simp only at hw1 hw2
  have hok : okDem ⟨n, b, s⟩ ↔ IsName n ∧ okBx b ∧ okSteps s := Iff.rfl; refine Fun.of (nt := 16) (rs := [.tmp 2]) Tryz.func93 rfl rfl rfl rfl rfl (Ev.sr fun _ k=>S.nn (q.bx _ true) (S.o q.as (S.e k (Ev.sr fun _ k=>S.o (q.fa 0 am_fi77_0 am_cl9) (S.o (q.lv am_ag9) (S.c0 (hF := isName_fun _ (by omega)) (h := S.bd q.mv (fun c1 => ?_) (fun c1 => ?_))))))))
  · refine S.o (q.fa 1 am_fi77_1 am_cl75) (S.o (q.lvA _ am_ag75 am_cl75) (S.c0 (hF := boxValid_fun b) (h := S.o q.pt (S.bd q.mv (fun c2 => ?_) (fun c2 => ?_)))))
    · refine S.o (q.fa 7 am_fi77_2 am_cl60) (S.o (q.lv am_ag60) (S.c0 (hF := stepsValid_fun _ (by omega)) (h := S.o q.pt (S.o q.as (S.e k (Ev.ret (Ev.p1 ?_))))))); exact dI ⟨fun h => hok.2 ⟨‹_›, ‹_›, h⟩, fun h => (hok.1 h).2.2⟩
    refine S.s2 (S.sk (S.o q.pf (S.o q.as (S.e k (Ev.ret (Ev.p1 ?_)))))); exact bF (fun h => absurd (hok.1 h).2.1 ‹_›)
  refine S.s2 (S.sk (S.o q.pf (S.o q.mv (S.s2 (S.sk (S.o q.pf (S.o q.as (S.e k (Ev.ret (Ev.p1 ?_)))))))))); exact bF (fun h => absurd (hok.1 h).1 ‹_›)
theorem indexFuncDem1 (g : FuncId) (c0 : List AV) (p : Dem → Bool) (hg : ∀ s, Fun Tryz.prog g [.agg (Dem.c s), .sadr c0 0] (Ret (bL (p s)) [])) (l : List (Dem)) (hlen : l.length ≤ 140737488355328) :
    Fun Tryz.prog 115 [.sh 8 (l.map Dem.c), .fn (.func g) [] [.sadr c0 0]] (Ret (iL (idxP p l 0)) []) := by
  refine Fun.of (nt := 19) (rs := [.tmp 4]) Tryz.func115 rfl rfl rfl rfl rfl (Ev.sr fun _ k=>S.o q.as (S.e k (Ev.seq (Ev.sr fun _ k=>S.o q.mv (S.o (q.lens am_el30) (S.o q.mv (S.e k (Ev.block (Ev.loopU (ι := {q : List (Dem) × List (Dem) // q.1 ++ q.2 = l ∧ ∀ x ∈ q.1, p x = false}) [] [0, 1, 7] (fun ⟨(pre, suf), _⟩ => [(8, iL (pre.length : Int))]) (fun ⟨(pre, suf), _⟩ => []) (fun ⟨(pre, suf), _⟩ => suf.length) ⟨([], l), rfl, fun x hx => by simp at hx⟩ (.c (.c (.c .n))) keep_n (slots_c) ?_))))))))); rintro ⟨⟨pre, suf⟩, hp, hinv⟩ R0 hR0; dsimp only [cA, nA, lC, lN]
  simp only at hp hinv
  have hpl := lenA hp
  rcases suf with _ | ⟨s, suf⟩
  · rw [List.append_nil] at hp; subst hp; simp only [List.length_nil] at hpl; refine Ev.sr fun _ k=>S.o q.lss (S.e k (Ev.ud (fun c1 => ?_) (fun c1 => ?_)))
    · omega
    refine Ev.exit (hR0 _ _ (Ev.sr fun _ k=>S.o q.as (S.e k (Ev.ret (Ev.p1 ?_)))))
    congr 2; rw [idxP_none p pre 0 hinv]
  simp only [lC] at hpl; have hidx := getA hp; refine Ev.sr fun _ k=>S.o q.lss (S.e k (Ev.ud (fun c3 => ?_) (fun c3 => ?_)))
  · refine Ev.seq (Ev.block (Ev.sr fun _ k=>S.o q.mv (S.o q.as (S.e k (Ev.sr fun _ k=>S.o q.mv (S.o q.mv (S.o q.mv (S.o (q.ix am_el30 am_cl77 (hl := (by exact ati hidx (by omega)))) (S.o (q.lsA _ am_ag77 am_cl77) (S.c0 (hF := hg s) (h := S.e k (Ev.c (fun c4 => ?_) (fun c4 => ?_)))))))))))))
    · refine Ev.sr fun _ k=>S.o q.mv (S.o q.as (S.e k (Ev.ret (hR0 _ _ (Ev.p1 ?_)))))
      congr 2; rw [← hp, idxP_append p pre _ 0 hinv, idxP, if_pos ‹_›]; omega
    refine Ev.skip (Ev.region_S fun _ k=>S.o q.add (S.o q.mv (S.e k (hR0 _ _ (roundU [] [0, 1, 7] ⟨(pre ++ [s], suf), sucA hp, ?_⟩ muL keep_n (slots_c (he := (by simp))) (.c (.c (.c .n))))))))
    intro x hx; simp only [List.mem_append, List.mem_singleton] at hx; rcases hx with hx | rfl
    · exact hinv x hx
    · assumption
  omega
theorem containsFuncDem1 (g : FuncId) (c0 : List AV) (p : Dem → Bool) (hg : ∀ s, Fun Tryz.prog g [.agg (Dem.c s), .sadr c0 0] (Ret (bL (p s)) [])) (l : List (Dem)) (hlen : l.length ≤ 140737488355328) :
    Fun Tryz.prog 94 [.sh 8 (l.map Dem.c), .fn (.func g) [] [.sadr c0 0]] (Ret (bL (decide (∃ x ∈ l, p x = true))) []) := by
  have hd : (decide (∃ x ∈ l, p x = true)) = decide (0 ≤ idxP p l 0) := by simp only [idxP_nonneg p l 0 (Int.le_refl _)]
  rw [hd]; refine Fun.of (nt := 9) (rs := [.tmp 4]) Tryz.func94 rfl rfl rfl rfl rfl (Ev.sr fun _ k=>S.o q.as (S.e k (Ev.sr fun _ k=>S.o q.mv (S.o q.mv (S.c0 (hF := indexFuncDem1 g c0 p hg l hlen) (h := S.o q.geq (S.o q.as (S.e k (Ev.ret (Ev.p1 ?_)))))))))); rfl
theorem named_fun (d : Dem) (x : Dem) : Fun Tryz.prog 95 [.agg x.c, .sadr d.c 0] (Ret (bL (decide (x.name = d.name))) []) := by
  refine Fun.of (nt := 9) (rs := [.tmp 3]) Tryz.func95 rfl rfl rfl rfl rfl (Ev.sr fun _ k=>S.nn (q.bx _ true) (S.o q.as (S.e k (Ev.sr fun _ k=>S.o (q.fa 0 am_fi77_0 am_cl9) (S.o (q.lv am_ag9) (S.o (q.fs 0 am_fi77_0 am_cl9) (S.o (q.ls am_ag9) (S.o q.seqs (S.o q.as (S.e k (Ev.ret (Ev.p1 ?_)))))))))))); rfl
theorem demValid_fun (l : List Dem) (hlen : l.length ≤ 140737488355328) (hw : demW l) : Fun Tryz.prog 71 [.sh 8 (l.map Dem.c)] (Ret (bL (decide (okDems l))) []) := by
  refine Fun.of (nt := 26) (rs := [.tmp 2]) Tryz.func71 rfl rfl rfl rfl rfl (Ev.sr fun _ k=>S.o q.as (S.e k (Ev.seq (Ev.sr fun _ k=>S.o q.mv (S.o (q.lens am_el30) (S.o q.gtr (S.e k (Ev.cd (fun c1 => ?_) (fun c1 => ?_)))))))))
  · refine Ev.sr fun _ k=>S.o q.as (S.e k (Ev.ret (Ev.p1 ?_))); exact bF (fun h => by have h1 := h.1; omega)
  refine Ev.skip (Ev.seq (Ev.sr fun _ k=>S.o q.mv (S.o (q.lens am_el30) (S.o q.mv (S.e k (Ev.block (Ev.loopU (ι := {q : List Dem × List Dem // q.1 ++ q.2 = l ∧ (∀ b ∈ q.1, okDem b) ∧ q.1.Pairwise (fun a b => a.name ≠ b.name)}) [] [0, 8, 9] (fun ⟨(pre, suf), _⟩ => [(10, iL (pre.length : Int))]) (fun ⟨(pre, suf), _⟩ => []) (fun ⟨(pre, suf), _⟩ => suf.length) ⟨([], l), rfl, ⟨fun b hb => by simp at hb, by simp⟩⟩ (.c (.c (.c .n))) keep_n (slots_c) ?_))))))); rintro ⟨⟨pre, suf⟩, hp, hinv⟩ R0 hR0; dsimp only [cA, nA, lC, lN]
  simp only at hp hinv
  have hpl := lenA hp
  rcases suf with _ | ⟨s, suf⟩
  · rw [List.append_nil] at hp; simp only [lN] at hpl; refine Ev.sr fun _ k=>S.o q.lss (S.e k (Ev.ud (fun c2 => ?_) (fun c2 => ?_)))
    · omega
    refine Ev.exit (hR0 _ _ (Ev.sr fun _ k=>S.o q.as (S.e k (Ev.ret (Ev.p1 ?_))))); exact bT ⟨by omega, by rw [← hp]; exact hinv⟩
  simp only [lC] at hpl; have hidx := getA hp; have hsw : s.w := hw s (by rw [← hp]; simp)
  have htk : List.take ((pre.length : Int).toNat - ((0 : Nat) : Int).toNat) (List.drop ((0 : Nat) : Int).toNat l) = pre := by simpa using take_pre hp
  refine Ev.sr fun _ k=>S.o q.lss (S.e k (Ev.ud (fun c5 => ?_) (fun c5 => ?_)))
  · refine Ev.seq (Ev.block (Ev.sr fun _ k=>S.o q.mv (S.o (q.ix am_el30 am_cl77 (hl := (by exact ati hidx (by omega)))) (S.o (q.lsA _ am_ag77 am_cl77) (S.nn (q.al am_ze77) (S.o q.as (S.sv _ true [] am_in77 am_cl77 (h := S.e k (Ev.sr fun _ k=>S.o (q.lvA _ am_ag77 am_cl77) (S.c0 (hF := right_fun _ (by assumption)) (h := S.o q.not (S.bn q.mv (fun c6 => ?_) (fun c6 => ?_)))))))))))))
    · refine S.s2 (S.s2 (S.sk (S.o q.pt (S.e k (Ev.ct (Ev.sr fun _ k=>S.o q.as (S.e k (Ev.ret (hR0 _ _ (Ev.p1 ?_)))))))))); exact bF (fun h => absurd (dems_cut hp h).1 ‹_›)
    refine S.o q.mv (S.o q.mv (S.o (q.sh am_el30 am_cl77) (S.o q.mf ?_))); rw [htk]; refine S.c0 (hF := containsFuncDem1 _ _ _ (named_fun s) pre (by omega)) (h := S.o q.pf (S.e k (Ev.cd (fun c7 => ?_) (fun c7 => ?_))))
    · refine Ev.sr fun _ k=>S.o q.as (S.e k (Ev.ret (hR0 _ _ (Ev.p1 ?_)))); exact bF (fun h => by obtain ⟨x, hx, hn⟩ := ‹∃ x ∈ pre, _›; exact (dems_cut hp h).2 x hx (by simpa using hn))
    refine Ev.skip (Ev.region_S fun _ k=>S.o q.add (S.o q.mv (S.e k (hR0 _ _ (roundU [] [0, 8, 9] ⟨(pre ++ [s], suf), sucA hp, ?_⟩ muL keep_n (slots_c (he := (by simp))) (.c (.c (.c .n)))))))); exact dems_snoc hinv ‹_› (fun a ha he => by have h := ‹¬ ∃ x ∈ pre, _›; exact h ⟨a, ha, by simpa using he⟩)
  omega
theorem smD_fun (l : List Dem) (most : Int) (h0 : 0 ≤ most) (h1 : most ≤ 1000) (hlen : l.length ≤ 140737488355328) : Fun Tryz.prog 19 [.sh 8 (l.map Dem.c), iL most] (Ret (bL (decide (smD l most))) []) := by
  refine Fun.of (nt := 54) (rs := [.tmp 4]) Tryz.func19 rfl rfl rfl rfl rfl (Ev.sr fun _ k=>S.o q.as (S.e k (Ev.seq (Ev.sr fun _ k=>S.o q.mv (S.o (q.lens am_el30) (S.o q.mv (S.o q.gtr (S.bd q.mv (fun c1 => ?_) (fun c1 => ?_)))))))))
  · refine S.o q.mv (S.o (q.lens am_el30) (S.o q.leq (S.o q.pt (S.bd q.mv (fun c2 => ?_) (fun c2 => ?_)))))
    · refine S.s2 (S.sk (S.o q.pt (S.e k (Ev.ct (Ev.sr fun _ k=>S.o q.as (S.e k (Ev.ret (Ev.p1 ?_)))))))); exact bF (fun h => by have h1 := h.1; omega)
    refine S.o q.mv (S.o (q.lens am_el30) (S.o q.gtr (S.o q.pf (S.e k (Ev.cd (fun c3 => ?_) (fun c3 => ?_))))))
    · refine Ev.sr fun _ k=>S.o q.as (S.e k (Ev.ret (Ev.p1 ?_))); exact bF (fun h => by have h1 := h.1; omega)
    refine Ev.skip (Ev.seq (Ev.sr fun _ k=>S.o q.as (S.e k (Ev.block (Ev.loopU (ι := {q : List Dem × List Dem // q.1 ++ q.2 = l ∧ ∀ d ∈ q.1, ¬ (d.name.length > 60 ∨ (d.steps.length : Int) > 2 * most ∧ d.steps.length ≤ 200 ∨ d.steps.length > 205)}) [] [0, 1] (fun ⟨(pre, suf), _⟩ => [(5, iL (pre.length : Int))]) (fun ⟨(pre, suf), _⟩ => []) (fun ⟨(pre, suf), _⟩ => suf.length) ⟨([], l), rfl, fun x hx => by simp at hx⟩ (.c (.c .n)) keep_n (slots_c) ?_))))); rintro ⟨⟨pre, suf⟩, hp, hinv⟩ R0 hR0; dsimp only [cA, nA, lC, lN]
    simp only at hp hinv
    have hpl := lenA hp
    rcases suf with _ | ⟨s, suf⟩
    · rw [List.append_nil] at hp; simp only [lN] at hpl; refine Ev.seq (Ev.sr fun _ k=>S.o q.mv (S.o q.mv (S.o (q.lens am_el30) (S.o q.lss (S.e k (Ev.cd (fun c4 => ?_) (fun c4 => ?_)))))))
      · omega
      refine Ev.exit (hR0 _ _ (Ev.sr fun _ k=>S.o q.as (S.e k (Ev.ret (Ev.p1 ?_))))); exact bT ⟨by omega, by rw [← hp]; exact hinv⟩
    simp only [lC] at hpl; have hidx := getA hp; refine Ev.seq (Ev.sr fun _ k=>S.o q.mv (S.o q.mv (S.o (q.lens am_el30) (S.o q.lss (S.e k (Ev.cd (fun c10 => ?_) (fun c10 => ?_)))))))
    · refine Ev.skip (Ev.seq (Ev.block (Ev.sr fun _ k=>S.o q.mv (S.o q.mv (S.o (q.ix am_el30 am_cl77 (hl := (by exact ati hidx (by omega)))) (S.o (q.fs 7 am_fi77_2 am_cl60) (S.o (q.ls am_ag60) (S.o (q.lens am_el60) (S.o q.as (S.e k (Ev.sr fun _ k=>S.o q.mv (S.o q.mv (S.o (q.ix am_el30 am_cl77 (hl := (by exact ati hidx (by omega)))) (S.o (q.fs 0 am_fi77_0 am_cl9) (S.o (q.ls am_ag9) (S.o (q.slen am_el9 am_un9) (S.o q.gtr (S.bd q.mv (fun c11 => ?_) (fun c11 => ?_)))))))))))))))))))
      · refine S.s2 (S.s2 (S.s2 (S.s2 (S.o q.pt (S.o q.mv (S.s2 (S.o q.pt (S.e k (Ev.ct (Ev.sr fun _ k=>S.o q.as (S.e k (Ev.ret (hR0 _ _ (Ev.p1 ?_)))))))))))))); exact bF (fun h => by have h1 := h.2 s (by rw [← hp]; simp); omega)
      refine S.o q.mv (S.o q.mv (S.o q.mul (S.o q.gtr (S.bd q.mv (fun c12 => ?_) (fun c12 => ?_)))))
      · refine S.o q.mv (S.o q.leq (S.o q.pt (S.o q.pf (S.bd q.mv (fun c13 => ?_) (fun c13 => ?_)))))
        · refine S.s2 (S.o q.pt (S.e k (Ev.ct (Ev.sr fun _ k=>S.o q.as (S.e k (Ev.ret (hR0 _ _ (Ev.p1 ?_)))))))); exact bF (fun h => by have h1 := h.2 s (by rw [← hp]; simp); omega)
        refine S.o q.mv (S.o q.gtr (S.o q.pf (S.e k (Ev.cd (fun c14 => ?_) (fun c14 => ?_)))))
        · refine Ev.sr fun _ k=>S.o q.as (S.e k (Ev.ret (hR0 _ _ (Ev.p1 ?_)))); exact bF (fun h => by have h1 := h.2 s (by rw [← hp]; simp); omega)
        refine Ev.skip (Ev.region_S fun _ k=>S.o q.mv (S.o q.add (S.o q.as (S.e k (hR0 _ _ (roundU [] [0, 1] ⟨(pre ++ [s], suf), sucA hp, ?_⟩ muL keep_n (slots_c (he := (by simp))) (.c (.c .n))))))))
        intro x hx; simp only [List.mem_append, List.mem_singleton] at hx; rcases hx with hx | rfl
        · exact hinv x hx
        · omega
      refine S.s2 (S.o q.pf (S.o q.pf (S.o q.mv (S.o q.mv (S.o q.gtr (S.o q.pf (S.e k (Ev.cd (fun c15 => ?_) (fun c15 => ?_)))))))))
      · omega
      refine Ev.skip (Ev.region_S fun _ k=>S.o q.mv (S.o q.add (S.o q.as (S.e k (hR0 _ _ (roundU [] [0, 1] ⟨(pre ++ [s], suf), sucA hp, ?_⟩ muL keep_n (slots_c (he := (by simp))) (.c (.c .n))))))))
      intro x hx; simp only [List.mem_append, List.mem_singleton] at hx; rcases hx with hx | rfl
      · exact hinv x hx
      · omega
    omega
  refine S.s2 (S.sk (S.o q.pf (S.o q.mv (S.o q.mv (S.o (q.lens am_el30) (S.o q.gtr (S.o q.pf (S.e k (Ev.cd (fun c16 => ?_) (fun c16 => ?_))))))))))
  · refine Ev.sr fun _ k=>S.o q.as (S.e k (Ev.ret (Ev.p1 ?_))); exact bF (fun h => by have h1 := h.1; omega)
  refine Ev.skip (Ev.seq (Ev.sr fun _ k=>S.o q.as (S.e k (Ev.block (Ev.loopU (ι := {q : List Dem × List Dem // q.1 ++ q.2 = l ∧ ∀ d ∈ q.1, ¬ (d.name.length > 60 ∨ (d.steps.length : Int) > 2 * most ∧ d.steps.length ≤ 200 ∨ d.steps.length > 205)}) [] [0, 1] (fun ⟨(pre, suf), _⟩ => [(5, iL (pre.length : Int))]) (fun ⟨(pre, suf), _⟩ => []) (fun ⟨(pre, suf), _⟩ => suf.length) ⟨([], l), rfl, fun x hx => by simp at hx⟩ (.c (.c .n)) keep_n (slots_c) ?_))))); rintro ⟨⟨pre, suf⟩, hp, hinv⟩ R0 hR0; dsimp only [cA, nA, lC, lN]
  simp only at hp hinv
  have hpl := lenA hp
  rcases suf with _ | ⟨s, suf⟩
  · rw [List.append_nil] at hp; simp only [lN] at hpl; refine Ev.seq (Ev.sr fun _ k=>S.o q.mv (S.o q.mv (S.o (q.lens am_el30) (S.o q.lss (S.e k (Ev.cd (fun c17 => ?_) (fun c17 => ?_)))))))
    · omega
    refine Ev.exit (hR0 _ _ (Ev.sr fun _ k=>S.o q.as (S.e k (Ev.ret (Ev.p1 ?_))))); exact bT ⟨by omega, by rw [← hp]; exact hinv⟩
  simp only [lC] at hpl; have hidx := getA hp; refine Ev.seq (Ev.sr fun _ k=>S.o q.mv (S.o q.mv (S.o (q.lens am_el30) (S.o q.lss (S.e k (Ev.cd (fun c23 => ?_) (fun c23 => ?_)))))))
  · refine Ev.skip (Ev.seq (Ev.block (Ev.sr fun _ k=>S.o q.mv (S.o q.mv (S.o (q.ix am_el30 am_cl77 (hl := (by exact ati hidx (by omega)))) (S.o (q.fs 7 am_fi77_2 am_cl60) (S.o (q.ls am_ag60) (S.o (q.lens am_el60) (S.o q.as (S.e k (Ev.sr fun _ k=>S.o q.mv (S.o q.mv (S.o (q.ix am_el30 am_cl77 (hl := (by exact ati hidx (by omega)))) (S.o (q.fs 0 am_fi77_0 am_cl9) (S.o (q.ls am_ag9) (S.o (q.slen am_el9 am_un9) (S.o q.gtr (S.bd q.mv (fun c24 => ?_) (fun c24 => ?_)))))))))))))))))))
    · refine S.s2 (S.s2 (S.s2 (S.s2 (S.o q.pt (S.o q.mv (S.s2 (S.o q.pt (S.e k (Ev.ct (Ev.sr fun _ k=>S.o q.as (S.e k (Ev.ret (hR0 _ _ (Ev.p1 ?_)))))))))))))); exact bF (fun h => by have h1 := h.2 s (by rw [← hp]; simp); omega)
    refine S.o q.mv (S.o q.mv (S.o q.mul (S.o q.gtr (S.bd q.mv (fun c25 => ?_) (fun c25 => ?_)))))
    · refine S.o q.mv (S.o q.leq (S.o q.pt (S.o q.pf (S.bd q.mv (fun c26 => ?_) (fun c26 => ?_)))))
      · refine S.s2 (S.o q.pt (S.e k (Ev.ct (Ev.sr fun _ k=>S.o q.as (S.e k (Ev.ret (hR0 _ _ (Ev.p1 ?_)))))))); exact bF (fun h => by have h1 := h.2 s (by rw [← hp]; simp); omega)
      refine S.o q.mv (S.o q.gtr (S.o q.pf (S.e k (Ev.cd (fun c27 => ?_) (fun c27 => ?_)))))
      · refine Ev.sr fun _ k=>S.o q.as (S.e k (Ev.ret (hR0 _ _ (Ev.p1 ?_)))); exact bF (fun h => by have h1 := h.2 s (by rw [← hp]; simp); omega)
      refine Ev.skip (Ev.region_S fun _ k=>S.o q.mv (S.o q.add (S.o q.as (S.e k (hR0 _ _ (roundU [] [0, 1] ⟨(pre ++ [s], suf), sucA hp, ?_⟩ muL keep_n (slots_c (he := (by simp))) (.c (.c .n))))))))
      intro x hx; simp only [List.mem_append, List.mem_singleton] at hx; rcases hx with hx | rfl
      · exact hinv x hx
      · omega
    refine S.s2 (S.o q.pf (S.o q.pf (S.o q.mv (S.o q.mv (S.o q.gtr (S.o q.pf (S.e k (Ev.cd (fun c28 => ?_) (fun c28 => ?_)))))))))
    · refine Ev.sr fun _ k=>S.o q.as (S.e k (Ev.ret (hR0 _ _ (Ev.p1 ?_)))); exact bF (fun h => by have h1 := h.2 s (by rw [← hp]; simp); omega)
    refine Ev.skip (Ev.region_S fun _ k=>S.o q.mv (S.o q.add (S.o q.as (S.e k (hR0 _ _ (roundU [] [0, 1] ⟨(pre ++ [s], suf), sucA hp, ?_⟩ muL keep_n (slots_c (he := (by simp))) (.c (.c .n))))))))
    intro x hx; simp only [List.mem_append, List.mem_singleton] at hx; rcases hx with hx | rfl
    · exact hinv x hx
    · omega
  omega
theorem dN {p r : Prop} [Decidable p] [Decidable r] (h : ¬ p ↔ r) : bL (!decide p) = bL (decide r) := by
  by_cases hp : p
  · rw [decide_eq_true hp, decide_eq_false (fun h2 => h.2 h2 hp)]; rfl
  rw [decide_eq_false hp, decide_eq_true (h.1 hp)]; rfl
theorem axis_fun (n : Int) : Fun Tryz.prog 135 [iL n] (Ret (bL (decide (axOK n))) []) := by
  refine Fun.of (nt := 13) (rs := [.tmp 2]) Tryz.func135 rfl rfl rfl rfl rfl (Ev.sr fun _ z=>S.o q.as (S.e z (Ev.sr fun _ z=>S.o q.mv (S.o q.neq (S.bn q.mv (fun c1 => ?_) (fun c1 => ?_))))))
  · refine S.o q.mv (S.o q.geq (S.o q.pt (S.bd q.mv (fun c2 => ?_) (fun c2 => ?_))))
    · refine S.o q.mv (S.o q.leq (S.o q.pt (S.o q.as (S.e z (Ev.ret (Ev.p1 ?_)))))); exact dI ⟨fun h => ⟨by omega, by omega, by omega⟩, fun h => by unfold axOK at h; omega⟩
    refine S.s2 (S.o q.pf (S.o q.as (S.e z (Ev.ret (Ev.p1 ?_))))); exact bF (fun h => by unfold axOK at h; omega)
  refine S.s2 (S.o q.pf (S.o q.mv (S.s2 (S.o q.pf (S.o q.as (S.e z (Ev.ret (Ev.p1 ?_)))))))); exact bF (fun h => by unfold axOK at h; omega)
theorem turnValid_fun (x y : Int) : Fun Tryz.prog 110 [.agg [iL x, iL y]] (Ret (bL (decide (turnOK x y))) []) := by
  refine Fun.of (nt := 26) (rs := [.tmp 2]) Tryz.func110 rfl rfl rfl rfl rfl (Ev.sr fun _ z=>S.nn (q.bx _ true) (S.o q.as (S.e z (Ev.sr fun _ z=>S.o (q.fa 0 am_fi36_0 am_cl3) (S.o (q.lv am_ag3) (S.c0 (hF := axis_fun x) (h := S.bd q.mv (fun c1 => ?_) (fun c1 => ?_))))))))
  · refine S.o (q.fa 1 am_fi36_1 am_cl3) (S.o (q.lv am_ag3) (S.c0 (hF := axis_fun y) (h := S.o q.pt (S.bd q.mv (fun c2 => ?_) (fun c2 => ?_)))))
    · refine S.o (q.fa 0 am_fi36_0 am_cl3) (S.o (q.lv am_ag3) (S.o (q.fa 1 am_fi36_1 am_cl3) (S.o (q.lv am_ag3) (S.o q.neq (S.o q.pt (S.bn q.mv (fun c3 => ?_) (fun c3 => ?_)))))))
      · refine S.o (q.fa 0 am_fi36_0 am_cl3) (S.o (q.lv am_ag3) (S.o (q.fa 1 am_fi36_1 am_cl3) (S.o (q.lv am_ag3) ?_))); have hy3 := ‹axOK y›
        unfold axOK at hy3
        refine S.o q.neg (S.o q.neq (S.o q.pt (S.o q.as (S.e z (Ev.ret (Ev.p1 ?_)))))); exact dN ⟨fun h => ⟨‹_›, ‹_›, ‹_›, fun e => h (by omega)⟩, fun h e => h.2.2.2 (by omega)⟩
      refine S.s2 (S.s2 (S.s2 (S.o q.pf (S.o q.as (S.e z (Ev.ret (Ev.p1 ?_))))))); exact bF (fun h => absurd ‹x = y› h.2.2.1)
    refine S.s2 (S.s2 (S.sk (S.o q.pf (S.o q.mv (S.s2 (S.s2 (S.s2 (S.o q.pf (S.o q.as (S.e z (Ev.ret (Ev.p1 ?_)))))))))))); exact bF (fun h => absurd h.2.1 ‹_›)
  refine S.s2 (S.sk (S.o q.pf (S.o q.mv (S.s2 (S.s2 (S.sk (S.o q.pf (S.o q.mv (S.s2 (S.s2 (S.s2 (S.o q.pf (S.o q.as (S.e z (Ev.ret (Ev.p1 ?_)))))))))))))))); exact bF (fun h => absurd h.1 ‹_›)
theorem unit_p1 : Fun Tryz.prog 147 [iL (1)] (Ret (.agg [iL (1), iL (0), iL (0)]) []) := by
  refine Fun.of (nt := 14) (rs := [.cell 2 178]) Tryz.func147 rfl rfl rfl rfl rfl (Ev.sr fun _ z=>S.nn (q.al am_ze178) (S.e z (Ev.sr fun _ z=>S.nn (q.al am_ze178) (S.e z (Ev.seq (Ev.sr fun _ z=>S.o q.mv (S.o q.gtr (S.e z (Ev.cd (fun c1 => ?_) (fun c1 => ?_))))))))))
  · refine Ev.region_S fun _ z=>S.o q.mv (S.o q.sub (S.o (q.iaa am_el178 am_ar178 am_cl3) (S.sv _ true [_] am_in3 am_cl3 (h := S.e z ?_)))); show Ev _ _ _ _; refine Ev.sr fun _ z=>S.o (q.lvA _ am_ag178 am_cl178) (S.sv _ true [_] am_in178 am_cl178 (h := S.e z (Ev.ret (Ev.retv1 (res_c [_, _, _] am_ag178 am_cl178 res_n) (⟨?_, rfl⟩))))); rfl
  omega
theorem unit_p2 : Fun Tryz.prog 147 [iL (2)] (Ret (.agg [iL (0), iL (1), iL (0)]) []) := by
  refine Fun.of (nt := 14) (rs := [.cell 2 178]) Tryz.func147 rfl rfl rfl rfl rfl (Ev.sr fun _ z=>S.nn (q.al am_ze178) (S.e z (Ev.sr fun _ z=>S.nn (q.al am_ze178) (S.e z (Ev.seq (Ev.sr fun _ z=>S.o q.mv (S.o q.gtr (S.e z (Ev.cd (fun c1 => ?_) (fun c1 => ?_))))))))))
  · refine Ev.region_S fun _ z=>S.o q.mv (S.o q.sub (S.o (q.iaa am_el178 am_ar178 am_cl3) (S.sv _ true [_] am_in3 am_cl3 (h := S.e z ?_)))); show Ev _ _ _ _; refine Ev.sr fun _ z=>S.o (q.lvA _ am_ag178 am_cl178) (S.sv _ true [_] am_in178 am_cl178 (h := S.e z (Ev.ret (Ev.retv1 (res_c [_, _, _] am_ag178 am_cl178 res_n) (⟨?_, rfl⟩))))); rfl
  omega
theorem unit_p3 : Fun Tryz.prog 147 [iL (3)] (Ret (.agg [iL (0), iL (0), iL (1)]) []) := by
  refine Fun.of (nt := 14) (rs := [.cell 2 178]) Tryz.func147 rfl rfl rfl rfl rfl (Ev.sr fun _ z=>S.nn (q.al am_ze178) (S.e z (Ev.sr fun _ z=>S.nn (q.al am_ze178) (S.e z (Ev.seq (Ev.sr fun _ z=>S.o q.mv (S.o q.gtr (S.e z (Ev.cd (fun c1 => ?_) (fun c1 => ?_))))))))))
  · refine Ev.region_S fun _ z=>S.o q.mv (S.o q.sub (S.o (q.iaa am_el178 am_ar178 am_cl3) (S.sv _ true [_] am_in3 am_cl3 (h := S.e z ?_)))); show Ev _ _ _ _; refine Ev.sr fun _ z=>S.o (q.lvA _ am_ag178 am_cl178) (S.sv _ true [_] am_in178 am_cl178 (h := S.e z (Ev.ret (Ev.retv1 (res_c [_, _, _] am_ag178 am_cl178 res_n) (⟨?_, rfl⟩))))); rfl
  omega
theorem unit_n1 : Fun Tryz.prog 147 [iL (-1)] (Ret (.agg [iL (-1), iL (0), iL (0)]) []) := by
  refine Fun.of (nt := 14) (rs := [.cell 2 178]) Tryz.func147 rfl rfl rfl rfl rfl (Ev.sr fun _ z=>S.nn (q.al am_ze178) (S.e z (Ev.sr fun _ z=>S.nn (q.al am_ze178) (S.e z (Ev.seq (Ev.sr fun _ z=>S.o q.mv (S.o q.gtr (S.e z (Ev.cd (fun c1 => ?_) (fun c1 => ?_))))))))))
  · omega
  refine Ev.region_S fun _ z=>S.o q.mv (S.o q.neg (S.o q.sub (S.o (q.iaa am_el178 am_ar178 am_cl3) (S.sv _ true [_] am_in3 am_cl3 (h := S.e z ?_))))); show Ev _ _ _ _; refine Ev.sr fun _ z=>S.o (q.lvA _ am_ag178 am_cl178) (S.sv _ true [_] am_in178 am_cl178 (h := S.e z (Ev.ret (Ev.retv1 (res_c [_, _, _] am_ag178 am_cl178 res_n) (⟨?_, rfl⟩))))); rfl
theorem unit_n2 : Fun Tryz.prog 147 [iL (-2)] (Ret (.agg [iL (0), iL (-1), iL (0)]) []) := by
  refine Fun.of (nt := 14) (rs := [.cell 2 178]) Tryz.func147 rfl rfl rfl rfl rfl (Ev.sr fun _ z=>S.nn (q.al am_ze178) (S.e z (Ev.sr fun _ z=>S.nn (q.al am_ze178) (S.e z (Ev.seq (Ev.sr fun _ z=>S.o q.mv (S.o q.gtr (S.e z (Ev.cd (fun c1 => ?_) (fun c1 => ?_))))))))))
  · omega
  refine Ev.region_S fun _ z=>S.o q.mv (S.o q.neg (S.o q.sub (S.o (q.iaa am_el178 am_ar178 am_cl3) (S.sv _ true [_] am_in3 am_cl3 (h := S.e z ?_))))); show Ev _ _ _ _; refine Ev.sr fun _ z=>S.o (q.lvA _ am_ag178 am_cl178) (S.sv _ true [_] am_in178 am_cl178 (h := S.e z (Ev.ret (Ev.retv1 (res_c [_, _, _] am_ag178 am_cl178 res_n) (⟨?_, rfl⟩))))); rfl
theorem unit_n3 : Fun Tryz.prog 147 [iL (-3)] (Ret (.agg [iL (0), iL (0), iL (-1)]) []) := by
  refine Fun.of (nt := 14) (rs := [.cell 2 178]) Tryz.func147 rfl rfl rfl rfl rfl (Ev.sr fun _ z=>S.nn (q.al am_ze178) (S.e z (Ev.sr fun _ z=>S.nn (q.al am_ze178) (S.e z (Ev.seq (Ev.sr fun _ z=>S.o q.mv (S.o q.gtr (S.e z (Ev.cd (fun c1 => ?_) (fun c1 => ?_))))))))))
  · omega
  refine Ev.region_S fun _ z=>S.o q.mv (S.o q.neg (S.o q.sub (S.o (q.iaa am_el178 am_ar178 am_cl3) (S.sv _ true [_] am_in3 am_cl3 (h := S.e z ?_))))); show Ev _ _ _ _; refine Ev.sr fun _ z=>S.o (q.lvA _ am_ag178 am_cl178) (S.sv _ true [_] am_in178 am_cl178 (h := S.e z (Ev.ret (Ev.retv1 (res_c [_, _, _] am_ag178 am_cl178 res_n) (⟨?_, rfl⟩))))); rfl
theorem unit_fun (n : Int) (h : axOK n) : Fun Tryz.prog 147 [iL n] (Ret (.agg [iL (uV n 1), iL (uV n 2), iL (uV n 3)]) []) := by
  have hn : n = 1 ∨ n = 2 ∨ n = 3 ∨ n = -1 ∨ n = -2 ∨ n = -3 := by unfold axOK at h; omega
  rcases hn with rfl | rfl | rfl | rfl | rfl | rfl
  · exact unit_p1
  · exact unit_p2
  · exact unit_p3
  · exact unit_n1
  · exact unit_n2
  exact unit_n3
theorem cross_fun (x y : Int) : Fun Tryz.prog 148 [.agg [iL (uV x 1), iL (uV x 2), iL (uV x 3)], .agg [iL (uV y 1), iL (uV y 2), iL (uV y 3)]] (Ret (.agg [iL (crX x y), iL (crY x y), iL (crZ x y)]) []) := by
  have hb : ∀ i j : Int, -1 ≤ uV x i * uV y j ∧ uV x i * uV y j ≤ 1 := fun i j => by
    have := mulB (uV_in x i) (uV_in y j); omega
  have b1 := hb 2 3; have b2 := hb 3 2; have b3 := hb 3 1; have b4 := hb 1 3; have b5 := hb 1 2; have b6 := hb 2 1; refine Fun.of (nt := 39) (rs := [.cell 4 178]) Tryz.func148 rfl rfl rfl rfl rfl (Ev.sr fun _ z=>S.nn (q.bx _ true) (S.nn (q.bx _ true) (S.nn (q.al am_ze178) (S.e z (Ev.sr fun _ z=>S.o (q.iaa am_el178 am_ar178 am_cl3) (S.o (q.lv am_ag3) (S.o (q.iaa am_el178 am_ar178 am_cl3) (S.o (q.lv am_ag3) (S.o q.mul (S.o (q.iaa am_el178 am_ar178 am_cl3) (S.o (q.lv am_ag3) (S.o (q.iaa am_el178 am_ar178 am_cl3) (S.o (q.lv am_ag3) (S.o q.mul (S.o q.sub (S.o (q.iaa am_el178 am_ar178 am_cl3) (S.o (q.lv am_ag3) (S.o (q.iaa am_el178 am_ar178 am_cl3) (S.o (q.lv am_ag3) (S.o q.mul (S.o (q.iaa am_el178 am_ar178 am_cl3) (S.o (q.lv am_ag3) (S.o (q.iaa am_el178 am_ar178 am_cl3) (S.o (q.lv am_ag3) (S.o q.mul (S.o q.sub (S.o (q.iaa am_el178 am_ar178 am_cl3) (S.o (q.lv am_ag3) (S.o (q.iaa am_el178 am_ar178 am_cl3) (S.o (q.lv am_ag3) (S.o q.mul (S.o (q.iaa am_el178 am_ar178 am_cl3) (S.o (q.lv am_ag3) (S.o (q.iaa am_el178 am_ar178 am_cl3) (S.o (q.lv am_ag3) (S.o q.mul (S.o q.sub (S.o (q.bda [_, _, _] am_ze178 am_pn178 am_ar178 am_cl3) (S.sv _ true [_, _] am_in178 am_cl178 (h := S.e z (Ev.ret (Ev.retv1 (res_c [_, _, _] am_ag178 am_cl178 res_n) (⟨?_, rfl⟩))))))))))))))))))))))))))))))))))))))))))); rfl
theorem columns_fun (x y : Int) (h : turnOK x y) : Fun Tryz.prog 145 [.agg [iL x, iL y]] (Ret (.agg [iL (uV x 1), iL (uV x 2), iL (uV x 3), iL (uV y 1), iL (uV y 2), iL (uV y 3), iL (crX x y), iL (crY x y), iL (crZ x y)]) []) := by
  refine Fun.of (nt := 17) (rs := [.cell 2 200]) Tryz.func145 rfl rfl rfl rfl rfl (Ev.sr fun _ z=>S.nn (q.bx _ true) (S.nn (q.al am_ze200) (S.e z (Ev.weaken (Wk.frzv 1 [_]) (Ev.stp (m := 10) (L0 := #[false, false, false, false, false, false, false, false, false, false]) rfl (by kernel_rfl) (by exact rfl) fun _ z=>(HP.fa (i := 0) am_fi36_0 (by rw [am_cl3]; decide) rfl (h := (HP.ls1 (i := 1) am_ag3 rfl (h := (HP.fa (i := 3) am_fi36_1 (by rw [am_cl3]; decide) rfl (h := (HP.ls1 (i := 4) am_ag3 rfl (h := (.done (HT.three (i := 2) (j := 6) (k := 7) trivial rfl rfl rfl (S.c0 (hF := unit_fun x h.1) (h := S.end ?_)) (S.nn (q.al am_ze178) (S.end ?_)) (S.nn (q.al am_ze178) (S.end ?_)))))))))))))))))
  · skip; refine HT.three (i := 5) (j := 6) (k := 7) trivial rfl rfl rfl (S.c0 (hF := unit_fun y h.2.1) (h := S.end ?_)) (S.nn (q.al am_ze178) (S.end ?_)) (S.nn (q.al am_ze178) (S.end ?_))
    · skip; refine HT.two (i := 6) (j := 7) trivial rfl rfl (S.nn (q.al am_ze178) (S.end ?_)) (S.nn (q.al am_ze178) (S.end ?_))
      · skip; refine HT.one (i := 7) trivial rfl (S.nn (q.al am_ze178) (S.end (HT.one (i := 8) trivial rfl (S.sv _ true [_, _] am_in178 am_cl178 (h := S.end (HT.one (i := 9) trivial rfl (S.sv _ true [_, _] am_in178 am_cl178 (h := S.end (HT.nil trivial (by kernel_rfl) (z _ (Ev.sm (tbs [(0, 0), (0, 0), (0, 0), (0, 0), (4, 12), (5, 31), (6, 63)]) 6 fun _ z=>M.o (q.lvA _ am_ag178 am_cl178) (M.o (q.lvA _ am_ag178 am_cl178) (M.o (q.lvA _ am_ag178 am_cl178) (M.o (q.lvA _ am_ag178 am_cl178) (M.c0 (hF := cross_fun x y) (h := M.o (q.bda [_, _, _, _, _, _, _, _, _] am_ze200 am_pn200 am_ar200 am_cl178) (M.end [_, _, _] (h := S.sv _ true [_, _] am_in200 am_cl200 (h := S.e z (Ev.ret (Ev.retv1 (res_c [_, _, _, _, _, _, _, _, _] am_ag200 am_cl200 res_n) (⟨?_, rfl⟩)))))))))))))))))))))); rfl
      skip; refine HT.one (i := 6) trivial rfl (S.nn (q.al am_ze178) (S.end (HT.one (i := 8) trivial rfl (S.sv _ true [_, _] am_in178 am_cl178 (h := S.end (HT.one (i := 9) trivial rfl (S.sv _ true [_, _] am_in178 am_cl178 (h := S.end (HT.nil trivial (by kernel_rfl) (z _ (Ev.sm (tbs [(0, 0), (0, 0), (0, 0), (0, 0), (4, 12), (5, 31), (6, 63)]) 6 fun _ z=>M.o (q.lvA _ am_ag178 am_cl178) (M.o (q.lvA _ am_ag178 am_cl178) (M.o (q.lvA _ am_ag178 am_cl178) (M.o (q.lvA _ am_ag178 am_cl178) (M.c0 (hF := cross_fun x y) (h := M.o (q.bda [_, _, _, _, _, _, _, _, _] am_ze200 am_pn200 am_ar200 am_cl178) (M.end [_, _, _] (h := S.sv _ true [_, _] am_in200 am_cl200 (h := S.e z (Ev.ret (Ev.retv1 (res_c [_, _, _, _, _, _, _, _, _] am_ag200 am_cl200 res_n) (⟨?_, rfl⟩)))))))))))))))))))))); rfl
    · skip; refine HT.two (i := 5) (j := 7) trivial rfl rfl (S.c0 (hF := unit_fun y h.2.1) (h := S.end ?_)) (S.nn (q.al am_ze178) (S.end ?_))
      · skip; refine HT.one (i := 7) trivial rfl (S.nn (q.al am_ze178) (S.end (HT.one (i := 8) trivial rfl (S.sv _ true [_, _] am_in178 am_cl178 (h := S.end (HT.one (i := 9) trivial rfl (S.sv _ true [_, _] am_in178 am_cl178 (h := S.end (HT.nil trivial (by kernel_rfl) (z _ (Ev.sm (tbs [(0, 0), (0, 0), (0, 0), (0, 0), (4, 12), (5, 31), (6, 63)]) 6 fun _ z=>M.o (q.lvA _ am_ag178 am_cl178) (M.o (q.lvA _ am_ag178 am_cl178) (M.o (q.lvA _ am_ag178 am_cl178) (M.o (q.lvA _ am_ag178 am_cl178) (M.c0 (hF := cross_fun x y) (h := M.o (q.bda [_, _, _, _, _, _, _, _, _] am_ze200 am_pn200 am_ar200 am_cl178) (M.end [_, _, _] (h := S.sv _ true [_, _] am_in200 am_cl200 (h := S.e z (Ev.ret (Ev.retv1 (res_c [_, _, _, _, _, _, _, _, _] am_ag200 am_cl200 res_n) (⟨?_, rfl⟩)))))))))))))))))))))); rfl
      skip; refine HT.one (i := 5) trivial rfl (S.c0 (hF := unit_fun y h.2.1) (h := S.end (HT.one (i := 8) trivial rfl (S.sv _ true [_, _] am_in178 am_cl178 (h := S.end (HT.one (i := 9) trivial rfl (S.sv _ true [_, _] am_in178 am_cl178 (h := S.end (HT.nil trivial (by kernel_rfl) (z _ (Ev.sm (tbs [(0, 0), (0, 0), (0, 0), (0, 0), (4, 12), (5, 31), (6, 63)]) 6 fun _ z=>M.o (q.lvA _ am_ag178 am_cl178) (M.o (q.lvA _ am_ag178 am_cl178) (M.o (q.lvA _ am_ag178 am_cl178) (M.o (q.lvA _ am_ag178 am_cl178) (M.c0 (hF := cross_fun x y) (h := M.o (q.bda [_, _, _, _, _, _, _, _, _] am_ze200 am_pn200 am_ar200 am_cl178) (M.end [_, _, _] (h := S.sv _ true [_, _] am_in200 am_cl200 (h := S.e z (Ev.ret (Ev.retv1 (res_c [_, _, _, _, _, _, _, _, _] am_ag200 am_cl200 res_n) (⟨?_, rfl⟩)))))))))))))))))))))); rfl
    skip; refine HT.two (i := 5) (j := 6) trivial rfl rfl (S.c0 (hF := unit_fun y h.2.1) (h := S.end ?_)) (S.nn (q.al am_ze178) (S.end ?_))
    · skip; refine HT.one (i := 6) trivial rfl (S.nn (q.al am_ze178) (S.end (HT.one (i := 8) trivial rfl (S.sv _ true [_, _] am_in178 am_cl178 (h := S.end (HT.one (i := 9) trivial rfl (S.sv _ true [_, _] am_in178 am_cl178 (h := S.end (HT.nil trivial (by kernel_rfl) (z _ (Ev.sm (tbs [(0, 0), (0, 0), (0, 0), (0, 0), (4, 12), (5, 31), (6, 63)]) 6 fun _ z=>M.o (q.lvA _ am_ag178 am_cl178) (M.o (q.lvA _ am_ag178 am_cl178) (M.o (q.lvA _ am_ag178 am_cl178) (M.o (q.lvA _ am_ag178 am_cl178) (M.c0 (hF := cross_fun x y) (h := M.o (q.bda [_, _, _, _, _, _, _, _, _] am_ze200 am_pn200 am_ar200 am_cl178) (M.end [_, _, _] (h := S.sv _ true [_, _] am_in200 am_cl200 (h := S.e z (Ev.ret (Ev.retv1 (res_c [_, _, _, _, _, _, _, _, _] am_ag200 am_cl200 res_n) (⟨?_, rfl⟩)))))))))))))))))))))); rfl
    skip; refine HT.one (i := 5) trivial rfl (S.c0 (hF := unit_fun y h.2.1) (h := S.end (HT.one (i := 8) trivial rfl (S.sv _ true [_, _] am_in178 am_cl178 (h := S.end (HT.one (i := 9) trivial rfl (S.sv _ true [_, _] am_in178 am_cl178 (h := S.end (HT.nil trivial (by kernel_rfl) (z _ (Ev.sm (tbs [(0, 0), (0, 0), (0, 0), (0, 0), (4, 12), (5, 31), (6, 63)]) 6 fun _ z=>M.o (q.lvA _ am_ag178 am_cl178) (M.o (q.lvA _ am_ag178 am_cl178) (M.o (q.lvA _ am_ag178 am_cl178) (M.o (q.lvA _ am_ag178 am_cl178) (M.c0 (hF := cross_fun x y) (h := M.o (q.bda [_, _, _, _, _, _, _, _, _] am_ze200 am_pn200 am_ar200 am_cl178) (M.end [_, _, _] (h := S.sv _ true [_, _] am_in200 am_cl200 (h := S.e z (Ev.ret (Ev.retv1 (res_c [_, _, _, _, _, _, _, _, _] am_ag200 am_cl200 res_n) (⟨?_, rfl⟩)))))))))))))))))))))); rfl
  · skip; refine HT.two (i := 2) (j := 7) trivial rfl rfl (S.c0 (hF := unit_fun x h.1) (h := S.end ?_)) (S.nn (q.al am_ze178) (S.end ?_))
    · skip; refine HT.two (i := 5) (j := 7) trivial rfl rfl (S.c0 (hF := unit_fun y h.2.1) (h := S.end ?_)) (S.nn (q.al am_ze178) (S.end ?_))
      · skip; refine HT.one (i := 7) trivial rfl (S.nn (q.al am_ze178) (S.end (HT.one (i := 8) trivial rfl (S.sv _ true [_, _] am_in178 am_cl178 (h := S.end (HT.one (i := 9) trivial rfl (S.sv _ true [_, _] am_in178 am_cl178 (h := S.end (HT.nil trivial (by kernel_rfl) (z _ (Ev.sm (tbs [(0, 0), (0, 0), (0, 0), (0, 0), (4, 12), (5, 31), (6, 63)]) 6 fun _ z=>M.o (q.lvA _ am_ag178 am_cl178) (M.o (q.lvA _ am_ag178 am_cl178) (M.o (q.lvA _ am_ag178 am_cl178) (M.o (q.lvA _ am_ag178 am_cl178) (M.c0 (hF := cross_fun x y) (h := M.o (q.bda [_, _, _, _, _, _, _, _, _] am_ze200 am_pn200 am_ar200 am_cl178) (M.end [_, _, _] (h := S.sv _ true [_, _] am_in200 am_cl200 (h := S.e z (Ev.ret (Ev.retv1 (res_c [_, _, _, _, _, _, _, _, _] am_ag200 am_cl200 res_n) (⟨?_, rfl⟩)))))))))))))))))))))); rfl
      skip; refine HT.one (i := 5) trivial rfl (S.c0 (hF := unit_fun y h.2.1) (h := S.end (HT.one (i := 8) trivial rfl (S.sv _ true [_, _] am_in178 am_cl178 (h := S.end (HT.one (i := 9) trivial rfl (S.sv _ true [_, _] am_in178 am_cl178 (h := S.end (HT.nil trivial (by kernel_rfl) (z _ (Ev.sm (tbs [(0, 0), (0, 0), (0, 0), (0, 0), (4, 12), (5, 31), (6, 63)]) 6 fun _ z=>M.o (q.lvA _ am_ag178 am_cl178) (M.o (q.lvA _ am_ag178 am_cl178) (M.o (q.lvA _ am_ag178 am_cl178) (M.o (q.lvA _ am_ag178 am_cl178) (M.c0 (hF := cross_fun x y) (h := M.o (q.bda [_, _, _, _, _, _, _, _, _] am_ze200 am_pn200 am_ar200 am_cl178) (M.end [_, _, _] (h := S.sv _ true [_, _] am_in200 am_cl200 (h := S.e z (Ev.ret (Ev.retv1 (res_c [_, _, _, _, _, _, _, _, _] am_ag200 am_cl200 res_n) (⟨?_, rfl⟩)))))))))))))))))))))); rfl
    skip; refine HT.one (i := 2) trivial rfl (S.c0 (hF := unit_fun x h.1) (h := S.end (HT.one (i := 5) trivial rfl (S.c0 (hF := unit_fun y h.2.1) (h := S.end (HT.one (i := 8) trivial rfl (S.sv _ true [_, _] am_in178 am_cl178 (h := S.end (HT.one (i := 9) trivial rfl (S.sv _ true [_, _] am_in178 am_cl178 (h := S.end (HT.nil trivial (by kernel_rfl) (z _ (Ev.sm (tbs [(0, 0), (0, 0), (0, 0), (0, 0), (4, 12), (5, 31), (6, 63)]) 6 fun _ z=>M.o (q.lvA _ am_ag178 am_cl178) (M.o (q.lvA _ am_ag178 am_cl178) (M.o (q.lvA _ am_ag178 am_cl178) (M.o (q.lvA _ am_ag178 am_cl178) (M.c0 (hF := cross_fun x y) (h := M.o (q.bda [_, _, _, _, _, _, _, _, _] am_ze200 am_pn200 am_ar200 am_cl178) (M.end [_, _, _] (h := S.sv _ true [_, _] am_in200 am_cl200 (h := S.e z (Ev.ret (Ev.retv1 (res_c [_, _, _, _, _, _, _, _, _] am_ag200 am_cl200 res_n) (⟨?_, rfl⟩))))))))))))))))))))))))); rfl
  skip; refine HT.two (i := 2) (j := 6) trivial rfl rfl (S.c0 (hF := unit_fun x h.1) (h := S.end ?_)) (S.nn (q.al am_ze178) (S.end ?_))
  · skip; refine HT.two (i := 5) (j := 6) trivial rfl rfl (S.c0 (hF := unit_fun y h.2.1) (h := S.end ?_)) (S.nn (q.al am_ze178) (S.end ?_))
    · skip; refine HT.one (i := 6) trivial rfl (S.nn (q.al am_ze178) (S.end (HT.one (i := 8) trivial rfl (S.sv _ true [_, _] am_in178 am_cl178 (h := S.end (HT.one (i := 9) trivial rfl (S.sv _ true [_, _] am_in178 am_cl178 (h := S.end (HT.nil trivial (by kernel_rfl) (z _ (Ev.sm (tbs [(0, 0), (0, 0), (0, 0), (0, 0), (4, 12), (5, 31), (6, 63)]) 6 fun _ z=>M.o (q.lvA _ am_ag178 am_cl178) (M.o (q.lvA _ am_ag178 am_cl178) (M.o (q.lvA _ am_ag178 am_cl178) (M.o (q.lvA _ am_ag178 am_cl178) (M.c0 (hF := cross_fun x y) (h := M.o (q.bda [_, _, _, _, _, _, _, _, _] am_ze200 am_pn200 am_ar200 am_cl178) (M.end [_, _, _] (h := S.sv _ true [_, _] am_in200 am_cl200 (h := S.e z (Ev.ret (Ev.retv1 (res_c [_, _, _, _, _, _, _, _, _] am_ag200 am_cl200 res_n) (⟨?_, rfl⟩)))))))))))))))))))))); rfl
    skip; refine HT.one (i := 5) trivial rfl (S.c0 (hF := unit_fun y h.2.1) (h := S.end (HT.one (i := 8) trivial rfl (S.sv _ true [_, _] am_in178 am_cl178 (h := S.end (HT.one (i := 9) trivial rfl (S.sv _ true [_, _] am_in178 am_cl178 (h := S.end (HT.nil trivial (by kernel_rfl) (z _ (Ev.sm (tbs [(0, 0), (0, 0), (0, 0), (0, 0), (4, 12), (5, 31), (6, 63)]) 6 fun _ z=>M.o (q.lvA _ am_ag178 am_cl178) (M.o (q.lvA _ am_ag178 am_cl178) (M.o (q.lvA _ am_ag178 am_cl178) (M.o (q.lvA _ am_ag178 am_cl178) (M.c0 (hF := cross_fun x y) (h := M.o (q.bda [_, _, _, _, _, _, _, _, _] am_ze200 am_pn200 am_ar200 am_cl178) (M.end [_, _, _] (h := S.sv _ true [_, _] am_in200 am_cl200 (h := S.e z (Ev.ret (Ev.retv1 (res_c [_, _, _, _, _, _, _, _, _] am_ag200 am_cl200 res_n) (⟨?_, rfl⟩)))))))))))))))))))))); rfl
  skip; refine HT.one (i := 2) trivial rfl (S.c0 (hF := unit_fun x h.1) (h := S.end (HT.one (i := 5) trivial rfl (S.c0 (hF := unit_fun y h.2.1) (h := S.end (HT.one (i := 8) trivial rfl (S.sv _ true [_, _] am_in178 am_cl178 (h := S.end (HT.one (i := 9) trivial rfl (S.sv _ true [_, _] am_in178 am_cl178 (h := S.end (HT.nil trivial (by kernel_rfl) (z _ (Ev.sm (tbs [(0, 0), (0, 0), (0, 0), (0, 0), (4, 12), (5, 31), (6, 63)]) 6 fun _ z=>M.o (q.lvA _ am_ag178 am_cl178) (M.o (q.lvA _ am_ag178 am_cl178) (M.o (q.lvA _ am_ag178 am_cl178) (M.o (q.lvA _ am_ag178 am_cl178) (M.c0 (hF := cross_fun x y) (h := M.o (q.bda [_, _, _, _, _, _, _, _, _] am_ze200 am_pn200 am_ar200 am_cl178) (M.end [_, _, _] (h := S.sv _ true [_, _] am_in200 am_cl200 (h := S.e z (Ev.ret (Ev.retv1 (res_c [_, _, _, _, _, _, _, _, _] am_ag200 am_cl200 res_n) (⟨?_, rfl⟩))))))))))))))))))))))))); rfl
def imK (x y a b c : Int) (k i : Nat) : Int := if i < k then (if i = 0 then (imP x y (a, b, c)).1 else if i = 1 then (imP x y (a, b, c)).2.1 else (imP x y (a, b, c)).2.2) else 0
theorem image_fun (x y a b c : Int) (h : turnOK x y) (hn : near1 (a, b, c)) : Fun Tryz.prog 138 [.agg [iL x, iL y], .agg [iL a, iL b, iL c]] (Ret (.agg (pntC (imP x y (a, b, c)))) []) := by
  obtain ⟨e1, e2⟩ := im_bd (x := x) (y := y) hn 1; obtain ⟨e3, e4⟩ := im_bd (x := x) (y := y) hn 2; obtain ⟨e5, e6⟩ := im_bd (x := x) (y := y) hn 3; obtain ⟨e7, e8, e9⟩ := im_bd3 (x := x) (y := y) hn
  dsimp only at e1 e2 e3 e4 e5 e6 e7 e8 e9
  refine Fun.of (nt := 46) (rs := [.cell 4 38]) Tryz.func138 rfl rfl rfl rfl rfl (Ev.sr fun _ z=>S.nn (q.bx _ true) (S.nn (q.bx _ true) (S.nn (q.al am_ze38) (S.e z (Ev.sr fun _ z=>S.o (q.lvA _ am_ag36 am_cl36) (S.c0 (hF := columns_fun x y h) (h := S.nn (q.al am_ze200) (S.sv _ true [_, _, _] am_in200 am_cl200 (h := S.e z (Ev.sr fun _ z=>S.nn (q.al am_ze178) (S.e z (Ev.seq (Ev.sr fun _ z=>S.o q.mv (S.e z (Ev.block (Ev.loopU (ι := {k : Nat // k ≤ 3}) [4, 3, 1, 2] [3, 4, 5, 6] (fun ⟨k, _⟩ => [(10, iL (k : Int))]) (fun ⟨k, _⟩ => [(0, ⟨false, 178, 3, [[iL (imK x y a b c k 0), iL (imK x y a b c k 1), iL (imK x y a b c k 2)]], true⟩), (1, ⟨false, 200, 9, [[iL (uV x 1), iL (uV x 2), iL (uV x 3), iL (uV y 1), iL (uV y 2), iL (uV y 3), iL (crX x y), iL (crY x y), iL (crZ x y)]], true⟩), (2, ⟨false, 38, 3, [[iL (a), iL (b), iL (c)]], true⟩), (3, ⟨false, 38, 3, [[iL (0), iL (0), iL (0)]], true⟩)]) (fun ⟨k, _⟩ => 3 - k) ⟨0, by decide⟩ (.c (.c (.c (.c .n)))) (keep_c (h := (keep_c (h := (keep_c (h := (keep_c))))))) (slots_c) ?_)))))))))))))))); rintro ⟨k, hk⟩ R0 hR0; dsimp only [cA, nA, lC, lN]
  have hk4 : k = 3 ∨ k = 0 ∨ k = 1 ∨ k = 2 := by omega
  rcases hk4 with hk4 | hk4 | hk4 | hk4
  · subst hk4; refine Ev.sr fun _ z=>S.o q.lss (S.e z (Ev.ud (fun c1 => ?_) (fun c1 => ?_)))
    · omega
    refine Ev.exit (hR0 _ _ (Ev.sr fun _ z=>S.o (q.iaa am_el178 am_ar178 am_cl3) (S.o (q.lv am_ag3) (S.o (q.iaa am_el178 am_ar178 am_cl3) (S.o (q.lv am_ag3) (S.o (q.iaa am_el178 am_ar178 am_cl3) (S.o (q.lv am_ag3) (S.o (q.bd _ am_ze38 am_pl38) (S.sv _ true [_, _, _] am_in38 am_cl38 (h := S.e z (Ev.ret (Ev.retv1 (res_c [_, _, _] am_ag38 am_cl38 res_n) (⟨?_, rfl⟩))))))))))))); rfl
  · subst hk4; refine Ev.sr fun _ z=>S.o q.lss (S.e z (Ev.ud (fun c2 => ?_) (fun c2 => ?_)))
    · refine Ev.seq (Ev.block (Ev.sr fun _ z=>S.o q.mv (S.o q.as (S.e z (Ev.region_M (tbs [(0, 0), (0, 0), (0, 0), (3, 6), (4, 14), (0, 0), (6, 32), (7, 126), (0, 0), (0, 0), (10, 768), (11, 1792), (0, 0), (13, 4096), (14, 16128), (15, 32766), (0, 0), (0, 0), (18, 196608), (19, 458752), (0, 0), (21, 1048576), (22, 4128768), (23, 8388606), (24, 16777215), (25, 33554431)]) 25 fun _ z=>M.o q.mv (M.o q.mv (M.o (q.iaa am_el200 am_ar200 am_cl178) (M.o (q.iaa am_el178 am_ar178 am_cl3) (M.o (q.lv am_ag3) (M.o (q.fa 0 am_fi38_0 am_cl3) (M.o (q.lv am_ag3) (M.o q.mul (M.o q.mv (M.o (q.iaa am_el200 am_ar200 am_cl178) (M.o (q.iaa am_el178 am_ar178 am_cl3) (M.o (q.lv am_ag3) (M.o (q.fa 1 am_fi38_1 am_cl3) (M.o (q.lv am_ag3) (M.o q.mul (M.o q.add (M.o q.mv (M.o (q.iaa am_el200 am_ar200 am_cl178) (M.o (q.iaa am_el178 am_ar178 am_cl3) (M.o (q.lv am_ag3) (M.o (q.fa 2 am_fi38_2 am_cl3) (M.o (q.lv am_ag3) (M.o q.mul (M.o q.add (M.o (q.iaa am_el178 am_ar178 am_cl3) (M.end [_, _, _, _] (h := S.sv _ true [_, _, _] am_in3 am_cl3 (h := S.e z ?_)))))))))))))))))))))))))))))))); show Ev _ _ _ _; refine Ev.region_S fun _ z=>S.o q.add (S.o q.mv (S.e z (hR0 _ _ (roundU [0, 1, 2, 3] [3, 4, 5, 6] ⟨1, by decide⟩ ?_ (keep_c (h := (keep_c (h := (keep_c (h := (keep_c))))))) (slots_c) (.c (.c (.c (.c .n)))))))); skip; all_goals (dsimp only; omega)
    omega
  · subst hk4; refine Ev.sr fun _ z=>S.o q.lss (S.e z (Ev.ud (fun c3 => ?_) (fun c3 => ?_)))
    · refine Ev.seq (Ev.block (Ev.sr fun _ z=>S.o q.mv (S.o q.as (S.e z (Ev.region_M (tbs [(0, 0), (0, 0), (0, 0), (3, 6), (4, 14), (0, 0), (6, 32), (7, 126), (0, 0), (0, 0), (10, 768), (11, 1792), (0, 0), (13, 4096), (14, 16128), (15, 32766), (0, 0), (0, 0), (18, 196608), (19, 458752), (0, 0), (21, 1048576), (22, 4128768), (23, 8388606), (24, 16777215), (25, 33554431)]) 25 fun _ z=>M.o q.mv (M.o q.mv (M.o (q.iaa am_el200 am_ar200 am_cl178) (M.o (q.iaa am_el178 am_ar178 am_cl3) (M.o (q.lv am_ag3) (M.o (q.fa 0 am_fi38_0 am_cl3) (M.o (q.lv am_ag3) (M.o q.mul (M.o q.mv (M.o (q.iaa am_el200 am_ar200 am_cl178) (M.o (q.iaa am_el178 am_ar178 am_cl3) (M.o (q.lv am_ag3) (M.o (q.fa 1 am_fi38_1 am_cl3) (M.o (q.lv am_ag3) (M.o q.mul (M.o q.add (M.o q.mv (M.o (q.iaa am_el200 am_ar200 am_cl178) (M.o (q.iaa am_el178 am_ar178 am_cl3) (M.o (q.lv am_ag3) (M.o (q.fa 2 am_fi38_2 am_cl3) (M.o (q.lv am_ag3) (M.o q.mul (M.o q.add (M.o (q.iaa am_el178 am_ar178 am_cl3) (M.end [_, _, _, _] (h := S.sv _ true [_, _, _] am_in3 am_cl3 (h := S.e z ?_)))))))))))))))))))))))))))))))); show Ev _ _ _ _; refine Ev.region_S fun _ z=>S.o q.add (S.o q.mv (S.e z (hR0 _ _ (roundU [0, 1, 2, 3] [3, 4, 5, 6] ⟨2, by decide⟩ ?_ (keep_c (h := (keep_c (h := (keep_c (h := (keep_c))))))) (slots_c) (.c (.c (.c (.c .n)))))))); skip; all_goals (dsimp only; omega)
    omega
  subst hk4; refine Ev.sr fun _ z=>S.o q.lss (S.e z (Ev.ud (fun c4 => ?_) (fun c4 => ?_)))
  · refine Ev.seq (Ev.block (Ev.sr fun _ z=>S.o q.mv (S.o q.as (S.e z (Ev.region_M (tbs [(0, 0), (0, 0), (0, 0), (3, 6), (4, 14), (0, 0), (6, 32), (7, 126), (0, 0), (0, 0), (10, 768), (11, 1792), (0, 0), (13, 4096), (14, 16128), (15, 32766), (0, 0), (0, 0), (18, 196608), (19, 458752), (0, 0), (21, 1048576), (22, 4128768), (23, 8388606), (24, 16777215), (25, 33554431)]) 25 fun _ z=>M.o q.mv (M.o q.mv (M.o (q.iaa am_el200 am_ar200 am_cl178) (M.o (q.iaa am_el178 am_ar178 am_cl3) (M.o (q.lv am_ag3) (M.o (q.fa 0 am_fi38_0 am_cl3) (M.o (q.lv am_ag3) (M.o q.mul (M.o q.mv (M.o (q.iaa am_el200 am_ar200 am_cl178) (M.o (q.iaa am_el178 am_ar178 am_cl3) (M.o (q.lv am_ag3) (M.o (q.fa 1 am_fi38_1 am_cl3) (M.o (q.lv am_ag3) (M.o q.mul (M.o q.add (M.o q.mv (M.o (q.iaa am_el200 am_ar200 am_cl178) (M.o (q.iaa am_el178 am_ar178 am_cl3) (M.o (q.lv am_ag3) (M.o (q.fa 2 am_fi38_2 am_cl3) (M.o (q.lv am_ag3) (M.o q.mul (M.o q.add (M.o (q.iaa am_el178 am_ar178 am_cl3) (M.end [_, _, _, _] (h := S.sv _ true [_, _, _] am_in3 am_cl3 (h := S.e z ?_)))))))))))))))))))))))))))))))); show Ev _ _ _ _; refine Ev.region_S fun _ z=>S.o q.add (S.o q.mv (S.e z (hR0 _ _ (roundU [0, 1, 2, 3] [3, 4, 5, 6] ⟨3, by decide⟩ ?_ (keep_c (h := (keep_c (h := (keep_c (h := (keep_c))))))) (slots_c) (.c (.c (.c (.c .n)))))))); skip; all_goals (dsimp only; omega)
  omega
theorem placed_fun (x y : Int) (q p : P3) (h : turnOK x y) (hq : near1 q) (hn : near1 p) : Fun Tryz.prog 119 [.agg [iL x, iL y], .agg (pntC q), .agg (pntC p)] (Ret (.agg (pntC (addP q (imP x y p)))) []) := by
  obtain ⟨a, b, c⟩ := p; obtain ⟨d, e, f⟩ := q; obtain ⟨e1, e2⟩ := im_bd (x := x) (y := y) hn 1; obtain ⟨e3, e4⟩ := im_bd (x := x) (y := y) hn 2; obtain ⟨e5, e6⟩ := im_bd (x := x) (y := y) hn 3; obtain ⟨e7, e8, e9⟩ := im_bd3 (x := x) (y := y) hn
  unfold near1 at hq
  dsimp only at hq
  refine Fun.of (nt := 27) (rs := [.cell 6 38]) Tryz.func119 rfl rfl rfl rfl rfl (Ev.sr fun _ z=>S.nn (q.bx _ true) (S.nn (q.bx _ true) (S.nn (q.bx _ true) (S.nn (q.al am_ze38) (S.e z (Ev.sr fun _ z=>S.o (q.lvA _ am_ag36 am_cl36) (S.o (q.lvA _ am_ag38 am_cl38) (S.c0 (hF := image_fun x y a b c h hn) (h := S.nn (q.al am_ze38) (S.sv _ true [_, _, _, _] am_in38 am_cl38 (h := S.e z (Ev.sr fun _ z=>S.o (q.fa 0 am_fi38_0 am_cl3) (S.o (q.lv am_ag3) (S.o (q.fa 0 am_fi38_0 am_cl3) (S.o (q.lv am_ag3) (S.o q.add (S.o (q.fa 1 am_fi38_1 am_cl3) (S.o (q.lv am_ag3) (S.o (q.fa 1 am_fi38_1 am_cl3) (S.o (q.lv am_ag3) (S.o q.add (S.o (q.fa 2 am_fi38_2 am_cl3) (S.o (q.lv am_ag3) (S.o (q.fa 2 am_fi38_2 am_cl3) (S.o (q.lv am_ag3) (S.o q.add (S.o (q.bd _ am_ze38 am_pl38) (S.sv _ true [_, _, _, _] am_in38 am_cl38 (h := S.e z (Ev.ret (Ev.retv1 (res_c [_, _, _] am_ag38 am_cl38 res_n) (⟨?_, rfl⟩)))))))))))))))))))))))))))))))); rfl
def nrk (a b c : Int) (k : Nat) : Prop := ∀ i, i < k → -1048576 ≤ co3 a b c i ∧ co3 a b c i ≤ 1048576
theorem nrk_s {a b c : Int} {k : Nat} (h : nrk a b c k) (h1 : -1048576 ≤ co3 a b c k ∧ co3 a b c k ≤ 1048576) : nrk a b c (k + 1) := fun i hi => by
  by_cases e : i = k
  · subst e; exact h1
  · exact h i (by omega)
theorem nrk_3 {a b c : Int} (h : nrk a b c 3) : near1 (a, b, c) := ⟨h 0 (by decide), h 1 (by decide), h 2 (by decide)⟩
theorem near_fun (l : List P3) (hlen : l.length ≤ 140737488355328) : Fun Tryz.prog 118 [.sh 3 (l.map pntC)] (Ret (bL (decide (nearL l))) []) := by
  refine Fun.of (nt := 31) (rs := [.tmp 2]) Tryz.func118 rfl rfl rfl rfl rfl (Ev.sr fun _ z=>S.o q.as (S.e z (Ev.seq (Ev.sr fun _ z=>S.o q.mv (S.o (q.lens am_el136) (S.o q.mv (S.e z (Ev.block (Ev.loopU (ι := {q : List (Int × Int × Int) × List (Int × Int × Int) // q.1 ++ q.2 = l ∧ nearL q.1}) [] [7, 8] (fun ⟨(pre, suf), _⟩ => [(9, iL (pre.length : Int))]) (fun ⟨(pre, suf), _⟩ => []) (fun ⟨(pre, suf), _⟩ => suf.length) ⟨([], l), rfl, fun x hx => by simp at hx⟩ (.c (.c .n)) keep_n (slots_c) ?_))))))))); rintro ⟨⟨pre, suf⟩, hp, hinv⟩ R0 hR0; dsimp only [cA, nA, lC, lN]
  simp only at hp hinv
  have hpl := lenA hp
  rcases suf with _ | ⟨s, suf⟩
  · rw [List.append_nil] at hp; simp only [lN] at hpl; refine Ev.sr fun _ z=>S.o q.lss (S.e z (Ev.ud (fun c1 => ?_) (fun c1 => ?_)))
    · omega
    refine Ev.exit (hR0 _ _ (Ev.sr fun _ z=>S.o q.as (S.e z (Ev.ret (Ev.p1 ?_))))); exact bT (by rw [← hp]; exact hinv)
  simp only [lC] at hpl; have hidx := getA hp; obtain ⟨a, b, c⟩ := s; refine Ev.sr fun _ z=>S.o q.lss (S.e z (Ev.ud (fun c2 => ?_) (fun c2 => ?_)))
  · refine Ev.seq (Ev.block (Ev.sr fun _ z=>S.o (q.ix am_el136 am_cl38 (hl := (by exact ati hidx (by omega)))) (S.o (q.lsA _ am_ag38 am_cl38) (S.nn (q.al am_ze38) (S.sv _ true [] am_in38 am_cl38 (h := S.e z (Ev.sr fun _ z=>S.o (q.fa 0 am_fi38_0 am_cl3) (S.o (q.lv am_ag3) (S.o (q.fa 1 am_fi38_1 am_cl3) (S.o (q.lv am_ag3) (S.o (q.fa 2 am_fi38_2 am_cl3) (S.o (q.lv am_ag3) (S.o (q.bda [_, _, _] am_ze178 am_pn178 am_ar178 am_cl3) (S.o q.mv (S.e z (Ev.block (Ev.loopU (ι := {k : Nat // k ≤ 3 ∧ nrk a b c k}) [] [7, 8, 9, 19] (fun ⟨k, _⟩ => [(20, iL (k : Int))]) (fun ⟨k, _⟩ => []) (fun ⟨k, _⟩ => 3 - k) ⟨0, by decide, fun i hi => absurd hi (by omega)⟩ (.c (.c (.c (.c .n)))) keep_n (slots_c) ?_))))))))))))))))); rintro ⟨k, hk, hik⟩ R2 hR2; dsimp only [cA, nA, lC, lN]
    have hk4 : k = 3 ∨ k = 0 ∨ k = 1 ∨ k = 2 := by omega
    rcases hk4 with hk4 | hk4 | hk4 | hk4
    · subst hk4; refine Ev.sr fun _ z=>S.o q.lss (S.e z (Ev.ud (fun c3 => ?_) (fun c3 => ?_)))
      · omega
      refine Ev.exit (hR2 _ _ (Ev.region_S fun _ z=>S.o q.add (S.o q.mv (S.e z (hR0 _ _ (roundU [] [7, 8] ⟨(pre ++ [(a, b, c)], suf), sucA hp, ?_⟩ muL keep_n (slots_c (he := (by congr 2; simp))) (.c (.c .n)))))))); intro x hx
      rcases List.mem_append.1 hx with hx | hx
      · exact hinv x hx
      · rw [List.mem_singleton] at hx; subst hx; exact nrk_3 hik
    · subst hk4; refine Ev.sr fun _ z=>S.o q.lss (S.e z (Ev.ud (fun c4 => ?_) (fun c4 => ?_)))
      · refine Ev.seq (Ev.block (Ev.sr fun _ z=>S.o (q.ixg am_ar178 am_ag3 am_cl3) (S.o q.as (S.e z (Ev.sr fun _ z=>S.o q.mv (S.o q.lss (S.bd q.mv (fun c5 => ?_) (fun c5 => ?_))))))))
        · refine S.s2 (S.o q.pt (S.e z (Ev.ct (Ev.sr fun _ z=>S.o q.as (S.e z (Ev.ret (hR2 _ _ (hR0 _ _ (Ev.p1 ?_))))))))); exact bF (fun h => by have h1 := h (a, b, c) (by rw [← hp]; simp); unfold near1 at h1; dsimp only at h1; omega)
        refine S.o q.mv (S.o q.gtr (S.o q.pf (S.e z (Ev.cd (fun c6 => ?_) (fun c6 => ?_)))))
        · refine Ev.sr fun _ z=>S.o q.as (S.e z (Ev.ret (hR2 _ _ (hR0 _ _ (Ev.p1 ?_))))); exact bF (fun h => by have h1 := h (a, b, c) (by rw [← hp]; simp); unfold near1 at h1; dsimp only at h1; omega)
        refine Ev.skip (Ev.region_S fun _ z=>S.o q.add (S.o q.mv (S.e z (hR2 _ _ (roundU [] [7, 8, 9, 19] ⟨_, by decide, nrk_s hik (show -1048576 ≤ _ ∧ _ ≤ (1048576 : Int) from ⟨by simp [co3]; omega, by simp [co3]; omega⟩)⟩ ?_ keep_n (slots_c) (.c (.c (.c (.c .n))))))))); skip; all_goals (dsimp only; omega)
      omega
    · subst hk4; refine Ev.sr fun _ z=>S.o q.lss (S.e z (Ev.ud (fun c7 => ?_) (fun c7 => ?_)))
      · refine Ev.seq (Ev.block (Ev.sr fun _ z=>S.o (q.ixg am_ar178 am_ag3 am_cl3) (S.o q.as (S.e z (Ev.sr fun _ z=>S.o q.mv (S.o q.lss (S.bd q.mv (fun c8 => ?_) (fun c8 => ?_))))))))
        · refine S.s2 (S.o q.pt (S.e z (Ev.ct (Ev.sr fun _ z=>S.o q.as (S.e z (Ev.ret (hR2 _ _ (hR0 _ _ (Ev.p1 ?_))))))))); exact bF (fun h => by have h1 := h (a, b, c) (by rw [← hp]; simp); unfold near1 at h1; dsimp only at h1; omega)
        refine S.o q.mv (S.o q.gtr (S.o q.pf (S.e z (Ev.cd (fun c9 => ?_) (fun c9 => ?_)))))
        · refine Ev.sr fun _ z=>S.o q.as (S.e z (Ev.ret (hR2 _ _ (hR0 _ _ (Ev.p1 ?_))))); exact bF (fun h => by have h1 := h (a, b, c) (by rw [← hp]; simp); unfold near1 at h1; dsimp only at h1; omega)
        refine Ev.skip (Ev.region_S fun _ z=>S.o q.add (S.o q.mv (S.e z (hR2 _ _ (roundU [] [7, 8, 9, 19] ⟨_, by decide, nrk_s hik (show -1048576 ≤ _ ∧ _ ≤ (1048576 : Int) from ⟨by simp [co3]; omega, by simp [co3]; omega⟩)⟩ ?_ keep_n (slots_c) (.c (.c (.c (.c .n))))))))); skip; all_goals (dsimp only; omega)
      omega
    subst hk4; refine Ev.sr fun _ z=>S.o q.lss (S.e z (Ev.ud (fun c10 => ?_) (fun c10 => ?_)))
    · refine Ev.seq (Ev.block (Ev.sr fun _ z=>S.o (q.ixg am_ar178 am_ag3 am_cl3) (S.o q.as (S.e z (Ev.sr fun _ z=>S.o q.mv (S.o q.lss (S.bd q.mv (fun c11 => ?_) (fun c11 => ?_))))))))
      · refine S.s2 (S.o q.pt (S.e z (Ev.ct (Ev.sr fun _ z=>S.o q.as (S.e z (Ev.ret (hR2 _ _ (hR0 _ _ (Ev.p1 ?_))))))))); exact bF (fun h => by have h1 := h (a, b, c) (by rw [← hp]; simp); unfold near1 at h1; dsimp only at h1; omega)
      refine S.o q.mv (S.o q.gtr (S.o q.pf (S.e z (Ev.cd (fun c12 => ?_) (fun c12 => ?_)))))
      · refine Ev.sr fun _ z=>S.o q.as (S.e z (Ev.ret (hR2 _ _ (hR0 _ _ (Ev.p1 ?_))))); exact bF (fun h => by have h1 := h (a, b, c) (by rw [← hp]; simp); unfold near1 at h1; dsimp only at h1; omega)
      refine Ev.skip (Ev.region_S fun _ z=>S.o q.add (S.o q.mv (S.e z (hR2 _ _ (roundU [] [7, 8, 9, 19] ⟨_, by decide, nrk_s hik (show -1048576 ≤ _ ∧ _ ≤ (1048576 : Int) from ⟨by simp [co3]; omega, by simp [co3]; omega⟩)⟩ ?_ keep_n (slots_c) (.c (.c (.c (.c .n))))))))); skip; all_goals (dsimp only; omega)
    omega
  omega
theorem nr1_l {p : P3} : nearL [p] ↔ near1 p := ⟨fun h => h p (by simp), fun h q hq => by rw [List.mem_singleton] at hq; subst hq; exact h⟩
theorem framePath_fun (x y : Int) (q : P3) (l : List P3) (hlen : l.length ≤ 140737488355328) : Fun Tryz.prog 98 [.agg [iL x, iL y], .agg (pntC q), .sh 3 (l.map pntC)] (Ret (.tup [.sh 3 ((frV x y q l).map pntC), iL (frE x y q l)]) []) := by
  obtain ⟨qa, qb, qc⟩ := q; refine Fun.of (nt := 44) (rs := [.tmp 6, .tmp 7]) Tryz.func98 rfl rfl rfl rfl rfl (Ev.sr fun _ z=>S.nn (q.bx _ true) (S.nn (q.bx _ true) (S.o q.as (S.o q.as (S.e z (Ev.seq (Ev.block (Ev.sr fun _ z=>S.o (q.lvA _ am_ag36 am_cl36) (S.c0 (hF := turnValid_fun x y) (h := S.o q.not (S.o q.as (S.e z (Ev.cn (fun c1 => ?_) (fun c1 => ?_))))))))))))))
  · refine Ev.sr fun _ z=>S.o q.as (S.o q.as (S.e z (Ev.weaken (Wk.nsh pntC 6 3) (Ev.ret (Ev.p2 ?_))))); rw [(frE1 ‹_›).1, (frE1 ‹_›).2]
  refine Ev.sr fun _ z=>S.o q.mv (S.o (q.lens am_el136) (S.o q.gtr (S.o q.as (S.e z (Ev.cd (fun c2 => ?_) (fun c2 => ?_))))))
  · refine Ev.sr fun _ z=>S.o q.as (S.o q.as (S.e z (Ev.weaken (Wk.nsh pntC 6 3) (Ev.ret (Ev.p2 ?_))))); rw [(frE4 ‹turnOK x y› (by omega)).1, (frE4 ‹turnOK x y› (by omega)).2]
  refine Ev.sr fun _ z=>S.o (q.lvA _ am_ag38 am_cl38) (S.nn (q.bs [[_, _, _]] true am_el136 am_ze38 am_cl38) (SeqL.weaken (Wk.frzl (f := pntC) [(qa, qb, qc)] 21 [_, _]) (S.c0 (hF := near_fun [(qa, qb, qc)] (by simp)) (h := S.o q.not (S.bn q.mv (fun c3 => ?_) (fun c3 => ?_))))))
  · refine S.s2 (S.sk (S.o q.pt (S.o q.as (S.e z (Ev.ct (Ev.sr fun _ z=>S.o q.as (S.o q.as (S.e z (Ev.weaken (Wk.nsh pntC 6 3) (Ev.ret (Ev.p2 ?_))))))))))); rw [(frE2 (at_ := (qa, qb, qc)) ‹turnOK x y› (by omega) (fun h => absurd (nr1_l.2 h.1) ‹_›)).1, (frE2 (at_ := (qa, qb, qc)) ‹turnOK x y› (by omega) (fun h => absurd (nr1_l.2 h.1) ‹_›)).2]
  refine S.o q.mv (S.c0 (hF := near_fun l (by omega)) (h := S.o q.not (S.o q.pf (S.o q.as (S.e z (Ev.cn (fun c4 => ?_) (fun c4 => ?_)))))))
  · refine Ev.sr fun _ z=>S.o q.as (S.o q.as (S.e z (Ev.weaken (Wk.nsh pntC 6 3) (Ev.ret (Ev.p2 ?_))))); rw [(frE2 (at_ := (qa, qb, qc)) ‹turnOK x y› (by omega) (fun h => absurd h.2 ‹_›)).1, (frE2 (at_ := (qa, qb, qc)) ‹turnOK x y› (by omega) (fun h => absurd h.2 ‹_›)).2]
  refine Ev.skip (Ev.sr fun _ z=>S.o q.as (S.e z (Ev.seq (Ev.sr fun _ z=>S.o q.mv (S.o (q.lens am_el136) (S.o q.mv (S.e z (Ev.block (Ev.weaken (Wk.nown pntC 8 38 3) (Ev.loopU (ι := {p : List ((Int × Int × Int)) × List ((Int × Int × Int)) // p.1 ++ p.2 = l ∧ True}) [3, 0, 1] [3, 4, 29, 30] (fun ⟨(pre, suf), _⟩ => [(31, iL (pre.length : Int)), (8, .als 0 0 (pre.map (fun p => addP (qa, qb, qc) (imP x y p))).length)]) (fun ⟨(pre, suf), _⟩ => [(0, ⟨true, 38, 3, (pre.map (fun p => addP (qa, qb, qc) (imP x y p))).map pntC, true⟩), (1, ⟨false, 36, 2, [[iL (x), iL (y)]], true⟩), (2, ⟨false, 38, 3, [[iL (qa), iL (qb), iL (qc)]], true⟩)]) (fun ⟨(pre, suf), _⟩ => suf.length) ⟨([], l), rfl, trivial⟩ (.c (.c (.c (.c .n)))) (keep_c (h := (keep_c (h := (keep_c))))) (slots_c (h := (slots_c))) ?_)))))))))); rintro ⟨⟨pre, suf⟩, hp, hinv⟩ R1 hR1; dsimp only [cA, nA, lC, lN]
  simp only at hp hinv
  have hpl := lenA hp
  rcases suf with _ | ⟨s, suf⟩
  · rw [List.append_nil] at hp; simp only [lN] at hpl; refine Ev.sr fun _ z=>S.o q.lss (S.e z (Ev.ud (fun c5 => ?_) (fun c5 => ?_)))
    · omega
    refine Ev.exit (hR1 _ _ (Ev.sr fun _ z=>S.o q.mv (S.o q.as (S.o q.as (S.e z (Ev.weaken (Wk.frz 6 [_, _]) (Ev.ret (Ev.p2 ?_)))))))); rw [(frE0 (at_ := (qa, qb, qc)) ‹turnOK x y› (by omega) ⟨nr1_l.1 ‹_›, ‹_›⟩).1, (frE0 (at_ := (qa, qb, qc)) ‹turnOK x y› (by omega) ⟨nr1_l.1 ‹_›, ‹_›⟩).2, ← hp]
  simp only [lC] at hpl; have hidx := getA hp; obtain ⟨a, b, c⟩ := s; refine Ev.sr fun _ z=>S.o q.lss (S.e z (Ev.ud (fun c6 => ?_) (fun c6 => ?_)))
  · refine Ev.seq (Ev.block (Ev.sr fun _ z=>S.o (q.ix am_el136 am_cl38 (hl := (by exact ati hidx (by omega)))) (S.o (q.lsA _ am_ag38 am_cl38) (S.nn (q.al am_ze38) (S.sv _ true [_, _, _] am_in38 am_cl38 (h := S.e z (Ev.region_S fun _ z=>S.o q.mv (S.o (q.lvA _ am_ag36 am_cl36) (S.o (q.lvA _ am_ag38 am_cl38) (S.o (q.lvA _ am_ag38 am_cl38) (S.c0 (hF := placed_fun x y (qa, qb, qc) (a, b, c) ‹turnOK x y› (nr1_l.1 ‹nearL [(qa, qb, qc)]›) (‹nearL l› _ (by rw [← hp]; simp))) (h := S.nn (q.bs [[_, _, _]] true am_el136 am_ze38 am_cl38) (S.ap' [_, _, _, _] am_el136 am_ze38 am_cl38 am_by38 (hh := head_own') (hr := (rows_lit [addP (qa, qb, qc) (imP x y (a, b, c))])) (h := S.o q.as (S.e z ?_))))))))))))))); show Ev _ _ _ _; refine Ev.region_S fun _ z=>S.o q.add (S.o q.mv (S.e z (hR1 _ _ (roundU [5, 1, 2] [3, 4, 29, 30] ⟨(pre ++ [(a, b, c)], suf), sucA hp, trivial⟩ muL (keep_c (he := (by simp)) (h := (keep_c (h := (keep_c))))) (slots_c (he := (by congr 2; simp)) (h := (slots_c (he := (by congr 2; simp))))) (.c (.c (.c (.c .n)))))))); skip
  omega
theorem mv_x {b : Bar} {p : P3} {s : Int × Int} (h : s.2 = 120) : movP b p s = (p.1 + dimAt b s.1.toNat, p.2.1, p.2.2) := if_pos h
theorem mv_X {b : Bar} {p : P3} {s : Int × Int} (h : s.2 = 88) : movP b p s = (p.1 - dimAt b s.1.toNat, p.2.1, p.2.2) := (if_neg (by omega)).trans (if_pos h)
theorem mv_y {b : Bar} {p : P3} {s : Int × Int} (h : s.2 = 121) : movP b p s = (p.1, p.2.1 + dimAt b s.1.toNat, p.2.2) := (if_neg (by omega)).trans ((if_neg (by omega)).trans (if_pos h))
theorem mv_Y {b : Bar} {p : P3} {s : Int × Int} (h : s.2 = 89) : movP b p s = (p.1, p.2.1 - dimAt b s.1.toNat, p.2.2) := (if_neg (by omega)).trans ((if_neg (by omega)).trans ((if_neg (by omega)).trans (if_pos h)))
theorem mv_z {b : Bar} {p : P3} {s : Int × Int} (h : s.2 = 122) : movP b p s = (p.1, p.2.1, p.2.2 + dimAt b s.1.toNat) := (if_neg (by omega)).trans ((if_neg (by omega)).trans ((if_neg (by omega)).trans ((if_neg (by omega)).trans (if_pos h))))
theorem way_of {k : Int} {s : Int × Int} (h : s ∈ legsL k) : s.2 = 120 ∨ s.2 = 88 ∨ s.2 = 121 ∨ s.2 = 89 ∨ s.2 = 122 := by
  rcases codes k with e | e | e | e | e | e | e | e | e
  iterate 8
    · rw [e] at h
      revert h s
      decide
  rw [(legsL_none e).1] at h; cases h
theorem path_row {b : Bar} {pre : List (Int × Int)} {s : Int × Int} {x y z : Int} (e : movP b (endG b pre) s = (x, y, z)) : (pathG b pre (0, 0, 0) ++ [(x, y, z)]).map pntC = (pathG b (pre ++ [s]) (0, 0, 0)).map pntC := by
  rw [pathG_snoc, show pre.foldl (movP b) (0, 0, 0) = endG b pre from rfl, e]
theorem path_alen {b : Bar} {pre : List (Int × Int)} {s : Int × Int} {q p : P3} : (pathG b pre p ++ [q]).length = (pathG b (pre ++ [s]) p).length := by
  rw [pathG_len, List.length_append, pathG_len]
  simp
theorem end_row {b : Bar} {pre : List (Int × Int)} {s : Int × Int} {x y z : Int} (e : movP b (endG b pre) s = (x, y, z)) : [[iL x, iL y, iL z]] = [[iL (endG b (pre ++ [s])).1, iL (endG b (pre ++ [s])).2.1, iL (endG b (pre ++ [s])).2.2]] := by
  rw [endG_snoc, e]
theorem end_bd {b : Bar} (h : okBar b) : ∀ pre : List (Int × Int), (∀ s ∈ pre, s ∈ legsL b.code) → (-262144 * (pre.length : Int) ≤ (endG b pre).1 ∧ (endG b pre).1 ≤ 262144 * pre.length) ∧ (-262144 * (pre.length : Int) ≤ (endG b pre).2.1 ∧ (endG b pre).2.1 ≤ 262144 * pre.length) ∧ -262144 * (pre.length : Int) ≤ (endG b pre).2.2 ∧ (endG b pre).2.2 ≤ 262144 * pre.length := by
  refine snoc_ind (fun _ => by simp [endG]) ?_; intro pre s ih hs; have h1 := ih fun t ht => hs t (by simp [ht]); have h2 := hs s (by simp); have hlb := leg_bd b.code s h2; obtain ⟨_, d1, d2⟩ := dim_in h (i := s.1.toNat) (by omega); rw [endG_snoc, List.length_append, List.length_singleton]
  rcases way_of h2 with e | e | e | e | e
  · rw [mv_x e]; dsimp only; omega
  · rw [mv_X e]; dsimp only; omega
  · rw [mv_y e]; dsimp only; omega
  · rw [mv_Y e]; dsimp only; omega
  rw [mv_z e]; dsimp only; omega
theorem shapePath_fun (b : Bar) (hw : b.w) : Fun Tryz.prog 97 [.agg b.c] (Ret (.tup [.sh 3 ((shpV b).map pntC), iL (okE b)]) []) := by
  obtain ⟨hw1, hw2⟩ := id hw; obtain ⟨d1, d2, d3, d4⟩ := dims_eq b.code; refine Fun.of (nt := 71) (rs := [.tmp 2, .tmp 3]) Tryz.func97 rfl rfl rfl rfl rfl (Ev.sr fun _ w=>S.nn (q.bx _ true) (S.o q.as (S.o q.as (S.e w (Ev.seq (Ev.sr fun _ w=>S.o (q.lvA _ am_ag58 am_cl58) (S.c0 (hF := valid_fun _ (by assumption)) (h := S.o q.not (S.e w (Ev.cn (fun c1 => ?_) (fun c1 => ?_)))))))))))
  · refine Ev.sr fun _ w=>S.o q.as (S.o q.as (S.e w (Ev.weaken (Wk.nsh pntC 2 3) (Ev.ret (Ev.p2 ?_))))); rw [shpV, okE, if_neg ‹_›, if_neg ‹_›]
  refine Ev.skip (Ev.sr fun _ w=>S.nn (q.al am_ze38) (S.e w (Ev.sr fun _ w=>S.o (q.lvA _ am_ag38 am_cl38) (S.nn (q.bs [[_, _, _]] true am_el136 am_ze38 am_cl38) (S.o q.as (S.e w (Ev.seq (Ev.sr fun _ w=>S.o (q.fa 3 am_fi58_3 am_cl3) (S.o (q.lv am_ag3) (S.c0 (hF := legs_fun _) (h := S.o (q.lens am_el163) (S.o q.mv (S.e w (Ev.block (Ev.loopU (ι := {p : List (Int × Int) × List (Int × Int) // p.1 ++ p.2 = (legsL b.code) ∧ True}) [0, 2, 1] [1, 4, 16, 17] (fun ⟨(pre, suf), _⟩ => [(18, iL (pre.length : Int)), (5, .als 1 0 (pathG b pre (0, 0, 0)).length)]) (fun ⟨(pre, suf), _⟩ => [(0, ⟨false, 58, 5, [[sL (b.mark), iL (b.size), iL (b.count), iL (b.code), .sh 1 ((b.dims).map intC)]], true⟩), (1, ⟨true, 38, 3, (pathG b pre (0, 0, 0)).map pntC, true⟩), (2, ⟨false, 38, 3, [[iL ((endG b pre).1), iL ((endG b pre).2.1), iL ((endG b pre).2.2)]], true⟩)]) (fun ⟨(pre, suf), _⟩ => suf.length) ⟨([], (legsL b.code)), rfl, trivial⟩ (.c (.c (.c (.c .n)))) (keep_c (h := (keep_c (h := (keep_c))))) (slots_c (h := (slots_c))) ?_))))))))))))))); rintro ⟨⟨pre, suf⟩, hp, hinv⟩ R0 hR0; dsimp only [cA, nA, lC, lN]
  simp only at hp hinv
  have hpl := lenA hp
  rcases suf with _ | ⟨s, suf⟩
  · rw [List.append_nil] at hp; simp only [lN] at hpl; refine Ev.sr fun _ w=>S.o q.lss (S.e w (Ev.ud (fun c2 => ?_) (fun c2 => ?_)))
    · omega
    refine Ev.exit (hR0 _ _ (Ev.sr fun _ w=>S.o q.mv (S.o q.as (S.o q.as (S.e w (Ev.weaken (Wk.frz 2 [_, _]) (Ev.ret (Ev.p2 ?_)))))))); rw [shpV, okE, if_pos ‹_›, if_pos ‹_›, pathOf, ← hp]
  simp only [lC] at hpl; have hidx := getA hp
  have hsm : s ∈ legsL b.code := by rw [← hp]; simp
  have hlb := leg_bd b.code s hsm; have hwy := way_of hsm; obtain ⟨hdi, hd1, hd2⟩ := dim_in ‹okBar b› (i := s.1.toNat) (by omega); have heb := end_bd ‹okBar b› pre (fun t ht => by rw [← hp]; simp [ht]); have hpl6 := pathG_len b pre (0, 0, 0); refine Ev.sr fun _ w=>S.o q.lss (S.e w (Ev.ud (fun c3 => ?_) (fun c3 => ?_)))
  · refine Ev.seq (Ev.block (Ev.sr fun _ w=>S.o (q.ix am_el163 am_cl166 (hl := (by exact ati hidx (by omega)))) (S.o (q.lsA _ am_ag166 am_cl166) (S.nn (q.al am_ze166) (S.sv _ true [_, _, _] am_in166 am_cl166 (h := S.e w (Ev.sr fun _ w=>S.o (q.fa 4 am_fi58_4 am_cl56) (S.o (q.lv am_ag56) (S.o (q.fa 0 am_fi166_0 am_cl3) (S.o (q.lv am_ag3) (S.o (q.ix am_el56 am_cl3 (hl := (by exact ati hdi (by omega)))) (S.o (q.ls am_ag3) (S.o q.as (S.e w (Ev.seq (Ev.sr fun _ w=>S.o (q.fa 1 am_fi166_1 am_cl5) (S.o (q.lv am_ag5) (S.e w (Ev.block (Ev.sr fun _ w=>S.o q.eql (S.o q.as (S.e w (Ev.cd (fun c4 => ?_) (fun c4 => ?_))))))))))))))))))))))))
    · refine Ev.region_S fun _ w=>S.o (q.fa 0 am_fi38_0 am_cl3) (S.o (q.lv am_ag3) (S.o q.mv (S.o q.add (S.o (q.fa 0 am_fi38_0 am_cl3) (S.sv _ true [_, _, _] am_in3 am_cl3 (h := S.e w ?_)))))); show Ev _ _ _ _; refine Ev.region_S fun _ w=>S.o q.mv (S.o (q.lvA _ am_ag38 am_cl38) (S.nn (q.bs [[_, _, _]] true am_el136 am_ze38 am_cl38) (S.ap' [_, _, _, _] am_el136 am_ze38 am_cl38 am_by38 (hh := head_own') (hr := (rows_lit [(⟨_, _, _⟩ : Int × Int × Int)])) (h := S.o q.as (S.e w ?_))))); show Ev _ _ _ _; refine Ev.region_S fun _ w=>S.o q.add (S.o q.mv (S.e w (hR0 _ _ (roundU [0, 5, 2] [1, 4, 16, 17] ⟨(pre ++ [s], suf), sucA hp, trivial⟩ muL (keep_c (h := (keep_c (he := (by exact path_row (mv_x ‹_›))) (h := (keep_c (he := (by exact end_row (mv_x ‹_›)))))))) (slots_c (he := (by congr 2; simp)) (h := (slots_c (he := (by exact congrArg (fun k => AV.als 1 0 k) path_alen))))) (.c (.c (.c (.c .n)))))))); skip
    refine Ev.sr fun _ w=>S.o q.eql (S.o q.as (S.e w (Ev.cd (fun c5 => ?_) (fun c5 => ?_))))
    · refine Ev.region_S fun _ w=>S.o (q.fa 0 am_fi38_0 am_cl3) (S.o (q.lv am_ag3) (S.o q.mv (S.o q.sub (S.o (q.fa 0 am_fi38_0 am_cl3) (S.sv _ true [_, _, _] am_in3 am_cl3 (h := S.e w ?_)))))); show Ev _ _ _ _; refine Ev.region_S fun _ w=>S.o q.mv (S.o (q.lvA _ am_ag38 am_cl38) (S.nn (q.bs [[_, _, _]] true am_el136 am_ze38 am_cl38) (S.ap' [_, _, _, _] am_el136 am_ze38 am_cl38 am_by38 (hh := head_own') (hr := (rows_lit [(⟨_, _, _⟩ : Int × Int × Int)])) (h := S.o q.as (S.e w ?_))))); show Ev _ _ _ _; refine Ev.region_S fun _ w=>S.o q.add (S.o q.mv (S.e w (hR0 _ _ (roundU [0, 5, 2] [1, 4, 16, 17] ⟨(pre ++ [s], suf), sucA hp, trivial⟩ muL (keep_c (h := (keep_c (he := (by exact path_row (mv_X ‹_›))) (h := (keep_c (he := (by exact end_row (mv_X ‹_›)))))))) (slots_c (he := (by congr 2; simp)) (h := (slots_c (he := (by exact congrArg (fun k => AV.als 1 0 k) path_alen))))) (.c (.c (.c (.c .n)))))))); skip
    refine Ev.sr fun _ w=>S.o q.eql (S.o q.as (S.e w (Ev.cd (fun c6 => ?_) (fun c6 => ?_))))
    · refine Ev.region_S fun _ w=>S.o (q.fa 1 am_fi38_1 am_cl3) (S.o (q.lv am_ag3) (S.o q.mv (S.o q.add (S.o (q.fa 1 am_fi38_1 am_cl3) (S.sv _ true [_, _, _] am_in3 am_cl3 (h := S.e w ?_)))))); show Ev _ _ _ _; refine Ev.region_S fun _ w=>S.o q.mv (S.o (q.lvA _ am_ag38 am_cl38) (S.nn (q.bs [[_, _, _]] true am_el136 am_ze38 am_cl38) (S.ap' [_, _, _, _] am_el136 am_ze38 am_cl38 am_by38 (hh := head_own') (hr := (rows_lit [(⟨_, _, _⟩ : Int × Int × Int)])) (h := S.o q.as (S.e w ?_))))); show Ev _ _ _ _; refine Ev.region_S fun _ w=>S.o q.add (S.o q.mv (S.e w (hR0 _ _ (roundU [0, 5, 2] [1, 4, 16, 17] ⟨(pre ++ [s], suf), sucA hp, trivial⟩ muL (keep_c (h := (keep_c (he := (by exact path_row (mv_y ‹_›))) (h := (keep_c (he := (by exact end_row (mv_y ‹_›)))))))) (slots_c (he := (by congr 2; simp)) (h := (slots_c (he := (by exact congrArg (fun k => AV.als 1 0 k) path_alen))))) (.c (.c (.c (.c .n)))))))); skip
    refine Ev.sr fun _ w=>S.o q.eql (S.o q.as (S.e w (Ev.cd (fun c7 => ?_) (fun c7 => ?_))))
    · refine Ev.region_S fun _ w=>S.o (q.fa 1 am_fi38_1 am_cl3) (S.o (q.lv am_ag3) (S.o q.mv (S.o q.sub (S.o (q.fa 1 am_fi38_1 am_cl3) (S.sv _ true [_, _, _] am_in3 am_cl3 (h := S.e w ?_)))))); show Ev _ _ _ _; refine Ev.region_S fun _ w=>S.o q.mv (S.o (q.lvA _ am_ag38 am_cl38) (S.nn (q.bs [[_, _, _]] true am_el136 am_ze38 am_cl38) (S.ap' [_, _, _, _] am_el136 am_ze38 am_cl38 am_by38 (hh := head_own') (hr := (rows_lit [(⟨_, _, _⟩ : Int × Int × Int)])) (h := S.o q.as (S.e w ?_))))); show Ev _ _ _ _; refine Ev.region_S fun _ w=>S.o q.add (S.o q.mv (S.e w (hR0 _ _ (roundU [0, 5, 2] [1, 4, 16, 17] ⟨(pre ++ [s], suf), sucA hp, trivial⟩ muL (keep_c (h := (keep_c (he := (by exact path_row (mv_Y ‹_›))) (h := (keep_c (he := (by exact end_row (mv_Y ‹_›)))))))) (slots_c (he := (by congr 2; simp)) (h := (slots_c (he := (by exact congrArg (fun k => AV.als 1 0 k) path_alen))))) (.c (.c (.c (.c .n)))))))); skip
    refine Ev.sr fun _ w=>S.o q.eql (S.o q.as (S.e w (Ev.cd (fun c8 => ?_) (fun c8 => ?_))))
    · refine Ev.region_S fun _ w=>S.o (q.fa 2 am_fi38_2 am_cl3) (S.o (q.lv am_ag3) (S.o q.mv (S.o q.add (S.o (q.fa 2 am_fi38_2 am_cl3) (S.sv _ true [_, _, _] am_in3 am_cl3 (h := S.e w ?_)))))); show Ev _ _ _ _; refine Ev.region_S fun _ w=>S.o q.mv (S.o (q.lvA _ am_ag38 am_cl38) (S.nn (q.bs [[_, _, _]] true am_el136 am_ze38 am_cl38) (S.ap' [_, _, _, _] am_el136 am_ze38 am_cl38 am_by38 (hh := head_own') (hr := (rows_lit [(⟨_, _, _⟩ : Int × Int × Int)])) (h := S.o q.as (S.e w ?_))))); show Ev _ _ _ _; refine Ev.region_S fun _ w=>S.o q.add (S.o q.mv (S.e w (hR0 _ _ (roundU [0, 5, 2] [1, 4, 16, 17] ⟨(pre ++ [s], suf), sucA hp, trivial⟩ muL (keep_c (h := (keep_c (he := (by exact path_row (mv_z ‹_›))) (h := (keep_c (he := (by exact end_row (mv_z ‹_›)))))))) (slots_c (he := (by congr 2; simp)) (h := (slots_c (he := (by exact congrArg (fun k => AV.als 1 0 k) path_alen))))) (.c (.c (.c (.c .n)))))))); skip
    omega
  omega
theorem isPlace_fun (p : P3) (m : Int) (hm : 0 ≤ m ∧ m ≤ 1000000000) : Fun Tryz.prog 111 [.agg (pntC p), iL m] (Ret (bL (decide (isPl p m))) []) := by
  obtain ⟨a, b, c⟩ := p; refine Fun.of (nt := 26) (rs := [.tmp 4]) Tryz.func111 rfl rfl rfl rfl rfl (Ev.sr fun _ z=>S.nn (q.bx _ true) (S.o q.as (S.e z (Ev.sr fun _ z=>S.o (q.fa 0 am_fi38_0 am_cl3) (S.o (q.lv am_ag3) (S.o (q.fa 1 am_fi38_1 am_cl3) (S.o (q.lv am_ag3) (S.o (q.fa 2 am_fi38_2 am_cl3) (S.o (q.lv am_ag3) (S.o q.min3 (S.o q.mv (S.o q.neg (S.o q.geq (S.bd q.mv (fun c1 => ?_) (fun c1 => ?_)))))))))))))))
  · refine S.o (q.fa 0 am_fi38_0 am_cl3) (S.o (q.lv am_ag3) (S.o (q.fa 1 am_fi38_1 am_cl3) (S.o (q.lv am_ag3) (S.o (q.fa 2 am_fi38_2 am_cl3) (S.o (q.lv am_ag3) (S.o q.max3 (S.o q.mv (S.o q.leq (S.o q.pt (S.o q.as (S.e z (Ev.ret (Ev.p1 ?_))))))))))))); exact dI ⟨fun h => by unfold isPl; dsimp only; omega, fun h => by unfold isPl at h; dsimp only at h; omega⟩
  refine S.s2 (S.s2 (S.s2 (S.s2 (S.sk (S.o q.pf (S.o q.as (S.e z (Ev.ret (Ev.p1 ?_))))))))); exact bF (fun h => by unfold isPl at h; dsimp only at h; omega)
theorem plus_fun (p q : P3) (k : Int) (hp : isPl p 100000000) (hq : isPl q 2097152) (hk : 0 ≤ k ∧ k ≤ 1000) : Fun Tryz.prog 113 [.agg (pntC p), .agg (pntC q), iL k] (Ret (.agg (pntC (plusP p q k))) []) := by
  obtain ⟨a, b, c⟩ := p; obtain ⟨d, e, f⟩ := q
  unfold isPl at hp hq
  dsimp only at hp hq
  have m1 := mulB (a := k) (b := d) (A := 1000) (B := 2097152) (by omega) hq.1; have m2 := mulB (a := k) (b := e) (A := 1000) (B := 2097152) (by omega) hq.2.1; have m3 := mulB (a := k) (b := f) (A := 1000) (B := 2097152) (by omega) hq.2.2; refine Fun.of (nt := 29) (rs := [.cell 6 38]) Tryz.func113 rfl rfl rfl rfl rfl (Ev.sr fun _ z=>S.nn (q.bx _ true) (S.nn (q.bx _ true) (S.nn (q.al am_ze38) (S.e z (Ev.sr fun _ z=>S.o (q.fa 0 am_fi38_0 am_cl3) (S.o (q.lv am_ag3) (S.o q.mv (S.o (q.fa 0 am_fi38_0 am_cl3) (S.o (q.lv am_ag3) (S.o q.mul (S.o q.add (S.o (q.fa 1 am_fi38_1 am_cl3) (S.o (q.lv am_ag3) (S.o q.mv (S.o (q.fa 1 am_fi38_1 am_cl3) (S.o (q.lv am_ag3) (S.o q.mul (S.o q.add (S.o (q.fa 2 am_fi38_2 am_cl3) (S.o (q.lv am_ag3) (S.o q.mv (S.o (q.fa 2 am_fi38_2 am_cl3) (S.o (q.lv am_ag3) (S.o q.mul (S.o q.add (S.o (q.bd _ am_ze38 am_pl38) (S.sv _ true [_, _] am_in38 am_cl38 (h := S.e z (Ev.ret (Ev.retv1 (res_c [_, _, _] am_ag38 am_cl38 res_n) (⟨?_, rfl⟩))))))))))))))))))))))))))))))); rfl
theorem find1_fun (mk : List UInt8) (b : Bar) : Fun Tryz.prog 134 [.agg b.c, .sadr [sL mk] 0] (Ret (bL (decide (b.mark = mk))) []) := by
  refine Fun.of (nt := 8) (rs := [.tmp 3]) Tryz.func134 rfl rfl rfl rfl rfl (Ev.sr fun _ z=>S.nn (q.bx _ true) (S.o q.as (S.e z (Ev.sr fun _ z=>S.o (q.fa 0 am_fi58_0 am_cl9) (S.o (q.lv am_ag9) (S.o (q.ls am_ag9) (S.o q.seqs (S.o q.as (S.e z (Ev.ret (Ev.p1 ?_))))))))))); rfl
theorem laidFind_fun (l : List Bar) (mk : List UInt8) (hlen : l.length ≤ 140737488355328) : Fun Tryz.prog 109 [.sh 5 (l.map Bar.c), sL mk] (Ret (iL (markI l mk)) []) := by
  refine Fun.of (nt := 8) (rs := [.tmp 4]) Tryz.func109 rfl rfl rfl rfl rfl (Ev.sr fun _ z=>S.nn (q.bx _ true) (S.o q.as (S.e z (Ev.sr fun _ z=>S.o q.mv (S.o q.mf (S.c0 (hF := indexFuncBar1 _ _ _ (find1_fun mk) l (by omega)) (h := S.o q.as (S.e z (Ev.ret (Ev.p1 ?_)))))))))); rfl
theorem markI_bd (l : List Bar) (mk : List UInt8) : -1 ≤ markI l mk ∧ markI l mk < (l.length : Int) := by
  have : ∀ (l : List Bar) (k : Int), 0 ≤ k → -1 ≤ idxP (fun b : Bar => decide (b.mark = mk)) l k ∧ idxP (fun b : Bar => decide (b.mark = mk)) l k < k + (l.length : Int) ∨ idxP (fun b : Bar => decide (b.mark = mk)) l k = -1 := by
    intro l
    induction l with
    | nil => intro k hk; exact .inr rfl
    | cons x l ih =>
      intro k hk; rw [idxP]
      split
      · left; simp only [List.length_cons]; omega
      rcases ih (k + 1) (by omega) with h | h
      · left; simp only [List.length_cons]; omega
      exact .inr h
  rcases this l 0 (by omega) with h | h
  · unfold markI; omega
  unfold markI; omega
theorem line_get {l : List Bar} {mk : List UInt8} (h : 0 ≤ markI l mk) : l[(markI l mk).toNat]? = some (lineOf l mk) := by
  have h1 := markI_bd l mk; have e : l[(markI l mk).toNat]? = some (l[(markI l mk).toNat]'(by omega)) := List.getElem?_eq_getElem _; rw [lineOf, e]; rfl
theorem line_mem {l : List Bar} {mk : List UInt8} (h : 0 ≤ markI l mk) : lineOf l mk ∈ l := List.mem_of_getElem? (line_get h)
theorem turned_fun (bars : List Bar) (r : Rn) (hlen : bars.length ≤ 140737488355328) (hw : schedW bars) (h : 0 ≤ markI bars r.mark) : Fun Tryz.prog 112 [.sh 5 (bars.map Bar.c), .agg r.c] (Ret (.sh 3 ((turnedV bars r).map pntC)) []) := by
  have hmb := markI_bd bars r.mark; have hlg := line_get h; have hwl := hw _ (line_mem h); have hsl := shpV_len (lineOf bars r.mark); refine Fun.of (nt := 29) (rs := [.tmp 4]) Tryz.func112 rfl rfl rfl rfl rfl (Ev.sr fun _ z=>S.nn (q.bx _ true) (S.o q.as (S.e z (Ev.sr fun _ z=>S.o q.mv (S.o q.mv (S.o (q.fa 0 am_fi40_0 am_cl9) (S.o (q.lv am_ag9) (S.c0 (hF := laidFind_fun bars r.mark hlen) (h := S.o (q.ix am_el27 am_cl58 (hl := (by exact ati hlg (by omega)))) (S.o (q.lsA _ am_ag58 am_cl58) (S.c0 (hF := shapePath_fun (lineOf bars r.mark) hwl) (h := S.o q.mv (S.o q.ex (S.o q.ex (S.o q.as (S.o q.as (S.e z (Ev.sr fun _ z=>S.o (q.fa 1 am_fi40_1 am_cl36) (S.o (q.lvA _ am_ag36 am_cl36) (S.o (q.bd _ am_ze38 am_pl38) (S.o q.mv (S.c0 (hF := framePath_fun r.tx r.ty (0, 0, 0) (shpV (lineOf bars r.mark)) (by omega)) (h := S.o q.mv (S.o q.ex (S.o q.ex (S.o q.as (S.o q.as (S.e z (Ev.sr fun _ z=>S.o q.mv (S.o q.as (S.e z (Ev.ret (Ev.p1 ?_))))))))))))))))))))))))))))))))); rfl
end Go.Proofs.YtlpgjlnkfgacbaaGreat
