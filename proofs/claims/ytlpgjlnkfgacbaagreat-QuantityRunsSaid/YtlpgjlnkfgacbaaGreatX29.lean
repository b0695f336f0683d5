/-
  Part 29 of the proof: functions walked on the abstract machine.
  Conditions: none.
-/
import Derived.Shelf.Lay
import Derived.Ground.NamesProg
import Derived.Test.YtlpgjlnkfgacbaaGreatX28
set_option linter.unusedSimpArgs false
set_option linter.unusedVariables false
set_option maxRecDepth 100000
set_option maxHeartbeats 1000000
namespace Go.Proofs.YtlpgjlnkfgacbaaGreat
open Go Go.AM
def endsF (f : Int → Int → Int → Int) (b : Bx) : List Int := [f b.lx b.ly b.lz, f b.hx b.hy b.hz]
def inF (f : Int → Int → Int → Int) (h : Bx) (v : Int) : Bool := decide (v ≥ f h.lx h.ly h.lz ∧ v ≤ f h.hx h.hy h.hz)
def ptsF (f : Int → Int → Int → Int) (h : Bx) (l : List Bx) : List Int := l.flatMap fun b => (endsF f b).filter (inF f h)
theorem ptsF_snoc (f : Int → Int → Int → Int) (h : Bx) (l : List Bx) (s : Bx) : ptsF f h (l ++ [s]) = ptsF f h l ++ (endsF f s).filter (inF f h) := by simp [ptsF]
theorem ptsF_len (f : Int → Int → Int → Int) (h : Bx) : ∀ l : List Bx, (ptsF f h l).length ≤ 2 * l.length := by
  refine snoc_ind (Nat.le_refl _) ?_; intro l s ih; have h1 : ((endsF f s).filter (inF f h)).length ≤ 2 := List.length_filter_le _ _; rw [ptsF_snoc, List.length_append, List.length_append, List.length_singleton]; omega
theorem in_t {f : Int → Int → Int → Int} {h : Bx} {v : Int} (h1 : v ≥ f h.lx h.ly h.lz) (h2 : v ≤ f h.hx h.hy h.hz) : inF f h v = true := decide_eq_true ⟨h1, h2⟩
theorem in_f1 {f : Int → Int → Int → Int} {h : Bx} {v : Int} (h1 : ¬ v ≥ f h.lx h.ly h.lz) : inF f h v = false := decide_eq_false fun h => h1 h.1
theorem in_f2 {f : Int → Int → Int → Int} {h : Bx} {v : Int} (h1 : ¬ v ≤ f h.hx h.hy h.hz) : inF f h v = false := decide_eq_false fun h => h1 h.2
theorem two_t {f : Int → Int → Int → Int} {h : Bx} {s : Bx} {k : Nat} {v : Int} (hv : (endsF f s)[k]? = some v) (hi : inF f h v = true) : ((endsF f s).take (k + 1)).filter (inF f h) = ((endsF f s).take k).filter (inF f h) ++ [v] := by
  rw [List.take_add_one, hv, List.filter_append]
  simp [hi]
theorem two_f {f : Int → Int → Int → Int} {h : Bx} {s : Bx} {k : Nat} {v : Int} (hv : (endsF f s)[k]? = some v) (hi : inF f h v = false) : ((endsF f s).take (k + 1)).filter (inF f h) = ((endsF f s).take k).filter (inF f h) := by
  rw [List.take_add_one, hv, List.filter_append]
  simp [hi]
def srt (l : List Int) : List Int := l.mergeSort fun x y => decide (x ≤ y)
theorem srt_mem (l : List Int) (x : Int) : x ∈ srt l ↔ x ∈ l := (List.mergeSort_perm l _).mem_iff
theorem srt_len (l : List Int) : (srt l).length = l.length := List.length_mergeSort l
theorem cmpR_take (l : List Int) : (cmpR l).take (Go.Lib.compact l).length = Go.Lib.compact l := by rw [cmpR, List.take_left]
open Go.Shelf in
shelf_lay Lays.n189 Nm 189 at Tryz as lays189
open Go.Shelf in
shelf_lay Lays2.n20 Nm2 20 at Tryz as lays2_20
theorem sortI2 (l : List Int) (n : Nat) (hn : n = l.length) (hl : l.length ≤ 1000000) : FunR Tryz.prog 79 [.als 0 0 n] [(0, ⟨true, 3, 1, l.map intC, true⟩)] 1 (Ret (.tup []) [(0, ⟨true, 3, 1, (srt l).map intC, true⟩)]) := by
  subst hn
  exact (sortI_R lays189 ⟨_, Tryz.func79, rfl, rfl⟩ l hl).mono fun v objs ⟨l', h, h1, h2⟩ => by subst h; exact ⟨h1, h2⟩
theorem compactI2 (l : List Int) (n : Nat) (hn : n = l.length) (hl : l.length ≤ 1000000) : FunR Tryz.prog 80 [.als 0 0 n] [(0, ⟨true, 3, 1, l.map intC, true⟩)] 1 (Ret (.als 0 0 (Go.Lib.compact l).length) [(0, ⟨true, 3, 1, (cmpR l).map intC, true⟩)]) := by
  subst hn
  exact (compactI_R lays2_20 ⟨_, Tryz.func80, rfl, rfl⟩ l hl).mono fun v objs ⟨l', h, h1, h2⟩ => by subst h; exact ⟨h1, h2⟩
theorem cmpR_len (l : List Int) : (Go.Lib.compact l).length ≤ (cmpR l).length := by rw [cmpR, List.length_append]; omega
def cutV (f : Int → Int → Int → Int) (h : Bx) (l : List Bx) : List Int := Go.Lib.compact (srt (ptsF f h l))
theorem cuts_fun (g : FuncId) (f : Int → Int → Int → Int) (hg : ∀ a b c, Fun Tryz.prog g [.agg [iL a, iL b, iL c]] (Ret (iL (f a b c)) [])) (bs hs : List Bx) (h : Bx) (hbs : bs.length ≤ 20) (hhs : hs.length ≤ 20) :
    Fun Tryz.prog 52 [.agg [.sh 6 (bs.map Bx.c), .sh 6 (hs.map Bx.c)], .agg h.c, .fn (.func g) [] []] (Ret (.sh 1 ((cutV f h (bs ++ hs)).map intC)) []) := by
  have hfl : [bs, hs].flatten = bs ++ hs := by simp
  have hal : (bs ++ hs).length ≤ 40 := by rw [List.length_append]; omega
  have hpl0 := ptsF_len f h (bs ++ hs); have hsl := srt_len (ptsF f h (bs ++ hs)); have hcl := cmpR_len (srt (ptsF f h (bs ++ hs))); have hcb := concatBx_fun [bs, hs] (by simp) (fun x hx => by simp only [List.mem_cons, List.not_mem_nil, or_false] at hx; rcases hx with rfl | rfl <;> omega); rw [hfl] at hcb
  refine Fun.of (nt := 61) (rs := [.tmp 6]) Tryz.func52 rfl rfl rfl rfl rfl (Ev.sr fun _ z=>S.nn (q.bx _ true) (S.nn (q.bx _ true) (S.o q.as (S.e z (Ev.sr fun _ z=>S.o q.as (S.e z (Ev.seq (Ev.sr fun _ z=>S.o (q.fa 0 am_fi24_0 am_cl22) (S.o (q.lv am_ag22) (S.o (q.fa 1 am_fi24_1 am_cl22) (S.o (q.lv am_ag22) (S.nn (q.bs [[_], [_]] true am_el159 am_ze22 am_cl22) (SeqL.weaken (Wk.frzl (f := bxsC) [bs, hs] 17 [_, _]) (S.c1 (hF := hcb) (h := S.o (q.lena am_el22) (S.o q.mv (S.e z (Ev.block (Ev.weaken (Wk.nown intC 7 3 1) (Ev.loopU (ι := {p : List (Bx) × List (Bx) // p.1 ++ p.2 = (bs ++ hs) ∧ True}) [0, 1, 3, 4] [2, 4, 19] (fun ⟨(pre, suf), _⟩ => [(20, iL (pre.length : Int)), (18, .als 2 0 ((bs ++ hs)).length), (7, .als 3 0 (ptsF f h pre).length)]) (fun ⟨(pre, suf), _⟩ => [(0, ⟨false, 24, 2, [[.sh 6 ((bs).map Bx.c), .sh 6 ((hs).map Bx.c)]], true⟩), (1, ⟨false, 75, 6, [[iL (h.lx), iL (h.ly), iL (h.lz), iL (h.hx), iL (h.hy), iL (h.hz)]], true⟩), (2, ⟨true, 75, 6, ((bs ++ hs)).map Bx.c, true⟩), (3, ⟨true, 3, 1, (ptsF f h pre).map intC, true⟩)]) (fun ⟨(pre, suf), _⟩ => suf.length) ⟨([], (bs ++ hs)), rfl, trivial⟩ (.c (.c (.c .n))) (keep_c (h := (keep_c (h := (keep_c (h := (keep_c))))))) (slots_c (h := (slots_c (h := (slots_c))))) ?_)))))))))))))))))))); rintro ⟨⟨pre, suf⟩, hp, hinv⟩ R0 hR0; dsimp only [cA, nA, lC, lN]
  simp only at hp hinv
  have hpl := lenA hp
  rcases suf with _ | ⟨s, suf⟩
  · rw [List.append_nil] at hp; simp only [lN] at hpl; subst hp; refine Ev.sr fun _ z=>S.o q.lss (S.e z (Ev.ud (fun c1 => ?_) (fun c1 => ?_)))
    · omega
    refine Ev.exit (hR0 _ _ (Ev.sr fun _ z=>S.o q.mv (S.cR [3] _ [_, _, _, _] (hob := (keep_c)) (hF := sortI2 (ptsF f h (bs ++ hs)) _ rfl (by omega)) (hn' := below1 (by decide)) (h := S.e z (Ev.sr fun _ z=>S.o q.mv (S.cR [3] _ [_, _, _, _] (hob := (keep_c)) (hF := compactI2 (srt (ptsF f h (bs ++ hs))) _ hsl.symm (by omega)) (hn' := below1 (by decide)) (h := (SeqL.weaken (Wk.frzp (f := intC) (cmpR (srt (ptsF f h (bs ++ hs)))) 60 [_, _, _]) ?_)))))))); rw [cmpR_take]; refine S.o q.as (S.e z (Ev.ret (Ev.p1 ?_))); rfl
  simp only [lC] at hpl; have hidx := getA hp; have hgl := ptsF_len f h pre; refine Ev.sr fun _ z=>S.o q.lss (S.e z (Ev.ud (fun c2 => ?_) (fun c2 => ?_)))
  · refine Ev.seq (Ev.block (Ev.sr fun _ z=>S.o (q.ia am_el22 am_cl75) (S.o (q.lxA [_, _, _, _, _, _] am_ag75 am_cl75 (hl := (by exact at_ hidx (by omega)))) (S.nn (q.al am_ze75) (S.sv _ true [_, _, _, _] am_in75 am_cl75 (h := S.e z (Ev.sr fun _ z=>S.o (q.fa 0 am_fi75_0 am_cl38) (S.o (q.lvA _ am_ag38 am_cl38) (S.o (q.fa 3 am_fi75_1 am_cl38) (S.o (q.lvA _ am_ag38 am_cl38) (S.nn (q.bs [[_, _, _], [_, _, _]] true am_el136 am_ze38 am_cl38) (S.o (q.lena am_el136) (S.o q.mv (S.e z (Ev.block (Ev.loopU (ι := {k : Nat // k ≤ 2}) [0, 1, 2, 4, 5, 3] [2, 4, 19, 20, 29] (fun ⟨k, _⟩ => [(30, iL (k : Int)), (18, .als 2 0 ((bs ++ hs)).length), (28, .als 4 0 ([((s.lx, s.ly, s.lz) : Int × Int × Int), (s.hx, s.hy, s.hz)]).length), (7, .als 5 0 (ptsF f h pre ++ ((endsF f s).take k).filter (inF f h)).length)]) (fun ⟨k, _⟩ => [(0, ⟨false, 24, 2, [[.sh 6 ((bs).map Bx.c), .sh 6 ((hs).map Bx.c)]], true⟩), (1, ⟨false, 75, 6, [[iL (h.lx), iL (h.ly), iL (h.lz), iL (h.hx), iL (h.hy), iL (h.hz)]], true⟩), (2, ⟨true, 75, 6, ((bs ++ hs)).map Bx.c, true⟩), (3, ⟨false, 75, 6, [[iL (s.lx), iL (s.ly), iL (s.lz), iL (s.hx), iL (s.hy), iL (s.hz)]], true⟩), (4, ⟨true, 38, 3, ([((s.lx, s.ly, s.lz) : Int × Int × Int), (s.hx, s.hy, s.hz)]).map pntC, true⟩), (5, ⟨true, 3, 1, (ptsF f h pre ++ ((endsF f s).take k).filter (inF f h)).map intC, true⟩)]) (fun ⟨k, _⟩ => 2 - k) ⟨0, by decide⟩ (.c (.c (.c (.c (.c .n))))) (keep_c (h := (keep_c (h := (keep_c (h := (keep_c (h := (keep_c (h := (keep_c (he := (by simp))))))))))))) (slots_c (h := (slots_c (h := (slots_c (h := (slots_c (he := (by refine congrArg (AV.als _ 0) ?_; simp))))))))) ?_))))))))))))))))
    rintro ⟨k, hk⟩ R2 hR2; dsimp only [cA, nA, lC, lN]; have hgk : (((endsF f s).take k).filter (inF f h)).length ≤ 2 := Nat.le_trans (List.length_filter_le _ _) (by rw [List.length_take]; exact Nat.min_le_right _ _)
    have hk3 : k = 2 ∨ k = 0 ∨ k = 1 := by omega
    rcases hk3 with hk3 | hk3 | hk3
    · skip; refine Ev.sr fun _ z=>S.o q.lss (S.e z (Ev.ud (fun c3 => ?_) (fun c3 => ?_)))
      · omega
      refine Ev.exit (hR2 _ _ (Ev.region_S fun _ z=>S.o q.add (S.o q.mv (S.e z (hR0 _ _ (roundU [0, 1, 2, 5] [2, 4, 19] ⟨(pre ++ [s], suf), sucA hp, trivial⟩ muL (keep_c (h := (keep_c (h := (keep_c (h := (keep_c (he := (by rw [ptsF_snoc, hk3]; rfl))))))))) (slots_c (he := (by congr 2; simp)) (h := (slots_c (h := (slots_c (he := (by refine congrArg (AV.als _ 0) ?_; (rw [ptsF_snoc, hk3]; rfl)))))))) (.c (.c (.c .n))))))))); skip
    · have hidx2 : [((s.lx, s.ly, s.lz) : Int × Int × Int), (s.hx, s.hy, s.hz)][k]? = some (s.lx, s.ly, s.lz) := by rw [hk3]; rfl
      obtain ⟨v, hvv⟩ : ∃ v, v = f s.lx s.ly s.lz := ⟨_, rfl⟩
      have hv : (endsF f s)[k]? = some v := by rw [hvv, hk3]; rfl
      refine Ev.sr fun _ z=>S.o q.lss (S.e z (Ev.ud (fun c4 => ?_) (fun c4 => ?_)))
      · refine Ev.seq (Ev.block (Ev.sr fun _ z=>S.o (q.ia am_el136 am_cl38) (S.o (q.lxA [_, _, _] am_ag38 am_cl38 (hl := (by exact at_ hidx2 (by omega)))) (S.nn (q.al am_ze38) (S.sv _ true [_, _, _, _, _, _] am_in38 am_cl38 (h := S.e z (Ev.sr fun _ z=>S.o q.mv (S.o (q.lvA _ am_ag38 am_cl38) (S.c0 (hF := hg _ _ _) (h := S.o q.as (S.e z ?_))))))))))); rw [← hvv]; refine Ev.sr fun _ z=>S.o q.mv (S.o q.mv (S.o (q.fa 0 am_fi75_0 am_cl38) (S.o (q.lvA _ am_ag38 am_cl38) (S.c0 (hF := hg _ _ _) (h := S.o q.geq (S.bd q.mv (fun c5 => ?_) (fun c5 => ?_)))))))
        · refine S.o q.mv (S.o q.mv (S.o (q.fa 3 am_fi75_1 am_cl38) (S.o (q.lvA _ am_ag38 am_cl38) (S.c0 (hF := hg _ _ _) (h := S.o q.leq (S.o q.pt (S.e z (Ev.cd (fun c6 => ?_) (fun c6 => ?_)))))))))
          · refine Ev.region_S fun _ z=>S.o q.mv (S.o q.mv (S.nn (q.bs [[_]] true am_el56 am_ze3 am_cl3) (S.ap' [_, _, _, _, _, _, _] am_el56 am_ze3 am_cl3 am_by3 (hh := head_own') (hr := (rows_lit [v])) (h := S.o q.as (S.e z ?_))))); show Ev _ _ _ _; refine Ev.region_S fun _ z=>S.o q.add (S.o q.mv (S.e z (hR2 _ _ (roundU [0, 1, 2, 3, 4, 8] [2, 4, 19, 20, 29] ⟨k + 1, by omega⟩ ?_ (keep_c (h := (keep_c (h := (keep_c (h := (keep_c (h := (keep_c (h := (keep_c (he := (by rw [two_t hv (in_t ‹_› ‹_›), ← List.append_assoc]))))))))))))) (slots_c (h := (slots_c (h := (slots_c (h := (slots_c (he := (by refine congrArg (AV.als _ 0) ?_; rw [two_t hv (in_t ‹_› ‹_›), ← List.append_assoc]))))))))) (.c (.c (.c (.c (.c .n))))))))); skip; all_goals (dsimp only; omega)
          refine Ev.skip (Ev.region_S fun _ z=>S.o q.add (S.o q.mv (S.e z (hR2 _ _ (roundU [0, 1, 2, 3, 4, 5] [2, 4, 19, 20, 29] ⟨k + 1, by omega⟩ ?_ (keep_c (h := (keep_c (h := (keep_c (h := (keep_c (h := (keep_c (h := (keep_c (he := (by rw [two_f hv (in_f2 ‹_›)]))))))))))))) (slots_c (h := (slots_c (h := (slots_c (h := (slots_c (he := (by refine congrArg (AV.als _ 0) ?_; rw [two_f hv (in_f2 ‹_›)]))))))))) (.c (.c (.c (.c (.c .n)))))))))); skip; all_goals (dsimp only; omega)
        refine S.s2 (S.s2 (S.s2 (S.o q.pf (S.e z (Ev.cf (Ev.skip (Ev.region_S fun _ z=>S.o q.add (S.o q.mv (S.e z (hR2 _ _ (roundU [0, 1, 2, 3, 4, 5] [2, 4, 19, 20, 29] ⟨k + 1, by omega⟩ ?_ (keep_c (h := (keep_c (h := (keep_c (h := (keep_c (h := (keep_c (h := (keep_c (he := (by rw [two_f hv (in_f1 ‹_›)]))))))))))))) (slots_c (h := (slots_c (h := (slots_c (h := (slots_c (he := (by refine congrArg (AV.als _ 0) ?_; rw [two_f hv (in_f1 ‹_›)]))))))))) (.c (.c (.c (.c (.c .n)))))))))))))))); skip; all_goals (dsimp only; omega)
      omega
    have hidx2 : [((s.lx, s.ly, s.lz) : Int × Int × Int), (s.hx, s.hy, s.hz)][k]? = some (s.hx, s.hy, s.hz) := by rw [hk3]; rfl
    obtain ⟨v, hvv⟩ : ∃ v, v = f s.hx s.hy s.hz := ⟨_, rfl⟩
    have hv : (endsF f s)[k]? = some v := by rw [hvv, hk3]; rfl
    refine Ev.sr fun _ z=>S.o q.lss (S.e z (Ev.ud (fun c7 => ?_) (fun c7 => ?_)))
    · refine Ev.seq (Ev.block (Ev.sr fun _ z=>S.o (q.ia am_el136 am_cl38) (S.o (q.lxA [_, _, _] am_ag38 am_cl38 (hl := (by exact at_ hidx2 (by omega)))) (S.nn (q.al am_ze38) (S.sv _ true [_, _, _, _, _, _] am_in38 am_cl38 (h := S.e z (Ev.sr fun _ z=>S.o q.mv (S.o (q.lvA _ am_ag38 am_cl38) (S.c0 (hF := hg _ _ _) (h := S.o q.as (S.e z ?_))))))))))); rw [← hvv]; refine Ev.sr fun _ z=>S.o q.mv (S.o q.mv (S.o (q.fa 0 am_fi75_0 am_cl38) (S.o (q.lvA _ am_ag38 am_cl38) (S.c0 (hF := hg _ _ _) (h := S.o q.geq (S.bd q.mv (fun c8 => ?_) (fun c8 => ?_)))))))
      · refine S.o q.mv (S.o q.mv (S.o (q.fa 3 am_fi75_1 am_cl38) (S.o (q.lvA _ am_ag38 am_cl38) (S.c0 (hF := hg _ _ _) (h := S.o q.leq (S.o q.pt (S.e z (Ev.cd (fun c9 => ?_) (fun c9 => ?_)))))))))
        · refine Ev.region_S fun _ z=>S.o q.mv (S.o q.mv (S.nn (q.bs [[_]] true am_el56 am_ze3 am_cl3) (S.ap' [_, _, _, _, _, _, _] am_el56 am_ze3 am_cl3 am_by3 (hh := head_own') (hr := (rows_lit [v])) (h := S.o q.as (S.e z ?_))))); show Ev _ _ _ _; refine Ev.region_S fun _ z=>S.o q.add (S.o q.mv (S.e z (hR2 _ _ (roundU [0, 1, 2, 3, 4, 8] [2, 4, 19, 20, 29] ⟨k + 1, by omega⟩ ?_ (keep_c (h := (keep_c (h := (keep_c (h := (keep_c (h := (keep_c (h := (keep_c (he := (by rw [two_t hv (in_t ‹_› ‹_›), ← List.append_assoc]))))))))))))) (slots_c (h := (slots_c (h := (slots_c (h := (slots_c (he := (by refine congrArg (AV.als _ 0) ?_; rw [two_t hv (in_t ‹_› ‹_›), ← List.append_assoc]))))))))) (.c (.c (.c (.c (.c .n))))))))); skip; all_goals (dsimp only; omega)
        refine Ev.skip (Ev.region_S fun _ z=>S.o q.add (S.o q.mv (S.e z (hR2 _ _ (roundU [0, 1, 2, 3, 4, 5] [2, 4, 19, 20, 29] ⟨k + 1, by omega⟩ ?_ (keep_c (h := (keep_c (h := (keep_c (h := (keep_c (h := (keep_c (h := (keep_c (he := (by rw [two_f hv (in_f2 ‹_›)]))))))))))))) (slots_c (h := (slots_c (h := (slots_c (h := (slots_c (he := (by refine congrArg (AV.als _ 0) ?_; rw [two_f hv (in_f2 ‹_›)]))))))))) (.c (.c (.c (.c (.c .n)))))))))); skip; all_goals (dsimp only; omega)
      refine S.s2 (S.s2 (S.s2 (S.o q.pf (S.e z (Ev.cf (Ev.skip (Ev.region_S fun _ z=>S.o q.add (S.o q.mv (S.e z (hR2 _ _ (roundU [0, 1, 2, 3, 4, 5] [2, 4, 19, 20, 29] ⟨k + 1, by omega⟩ ?_ (keep_c (h := (keep_c (h := (keep_c (h := (keep_c (h := (keep_c (h := (keep_c (he := (by rw [two_f hv (in_f1 ‹_›)]))))))))))))) (slots_c (h := (slots_c (h := (slots_c (h := (slots_c (he := (by refine congrArg (AV.als _ 0) ?_; rw [two_f hv (in_f1 ‹_›)]))))))))) (.c (.c (.c (.c (.c .n)))))))))))))))); skip; all_goals (dsimp only; omega)
    omega
  omega
theorem srt_le (l : List Int) : (srt l).Pairwise (fun a b => a ≤ b) := by
  have h := List.pairwise_mergeSort (le := fun x y : Int => decide (x ≤ y)) (fun a b c h1 h2 => by simp only [decide_eq_true_eq] at *; omega) (fun a b => by simp only [Bool.or_eq_true, decide_eq_true_eq]; omega) l; exact h.imp fun h => of_decide_eq_true h
theorem get_bang {l : List Int} {j : Nat} (h : j < l.length) : l.toArray[j]! = l[j] := by
  simp [h]
theorem keep_iff {l : List Int} {j : Nat} (h : j < l.length) : Go.Lib.keeps l.toArray j = true ↔ j = 0 ∨ ∃ p, l[j - 1]? = some p ∧ p ≠ l[j] := by
  unfold Go.Lib.keeps
  rw [decide_eq_true_eq, get_bang h, get_bang (show j - 1 < l.length by omega)]; refine or_congr Iff.rfl ⟨fun hne => ⟨_, List.getElem?_eq_getElem (by omega), fun e => hne e.symm⟩, ?_⟩; rintro ⟨p, h1, h2⟩ e; rw [List.getElem?_eq_getElem (by omega)] at h1; exact h2 (by rw [← Option.some.inj h1, e])
theorem le_at {l : List Int} (h : l.Pairwise (fun a b => a ≤ b)) {i j : Nat} (hi : i ≤ j) (hj : j < l.length) : l[i] ≤ l[j] := by
  rcases Nat.lt_or_eq_of_le hi with h1 | rfl
  · exact List.pairwise_iff_getElem.1 h i j (by omega) hj h1
  exact Int.le_refl _
theorem compact_asc {l : List Int} (h : l.Pairwise (fun a b => a ≤ b)) : (Go.Lib.compact l).Pairwise (fun a b => a < b) := by
  unfold Go.Lib.compact Go.Lib.compactUpTo
  rw [List.pairwise_map]; refine ((List.pairwise_lt_range (n := l.length)).filter (Go.Lib.keeps l.toArray)).imp_of_mem ?_; intro i j hi hj hij; obtain ⟨hj1, hj2⟩ := List.mem_filter.1 hj; have hjl := List.mem_range.1 hj1; rw [get_bang (show i < l.length by omega), get_bang hjl]
  rcases (keep_iff hjl).1 hj2 with e | ⟨p, h1, h2⟩
  · omega
  rw [List.getElem?_eq_getElem (show j - 1 < l.length by omega)] at h1; have e := Option.some.inj h1; have g1 := le_at h (show i ≤ j - 1 by omega) (show j - 1 < l.length by omega); have g2 := le_at h (show j - 1 ≤ j by omega) hjl; omega
theorem compact_mem {l : List Int} (x : Int) : x ∈ Go.Lib.compact l ↔ x ∈ l := by
  unfold Go.Lib.compact Go.Lib.compactUpTo
  rw [List.mem_map]
  constructor
  · rintro ⟨j, hj, rfl⟩; have h1 := List.mem_range.1 (List.mem_filter.1 hj).1; rw [get_bang h1]; exact List.getElem_mem _
  intro hx; obtain ⟨j, hj, e⟩ := List.getElem_of_mem hx
  have key : ∀ n j, j < n → (hj : j < l.length) → l[j] = x → ∃ a, a ∈ (List.range l.length).filter (Go.Lib.keeps l.toArray) ∧ l.toArray[a]! = x := by
    intro n
    induction n with
    | zero => intro j h; omega
    | succ n ih =>
      intro j hn hj e
      by_cases hk : Go.Lib.keeps l.toArray j = true
      · exact ⟨j, List.mem_filter.2 ⟨List.mem_range.2 hj, hk⟩, by rw [get_bang hj]; exact e⟩
      have h0 : j ≠ 0 := fun h0 => hk ((keep_iff hj).2 (.inl h0)); refine ih (j - 1) (by omega) (by omega) ?_
      by_cases hp : l[j - 1] = l[j]
      · rw [hp]; exact e
      exact absurd ((keep_iff hj).2 (.inr ⟨_, List.getElem?_eq_getElem (show j - 1 < l.length by omega), hp⟩)) hk
  exact key (j + 1) j (by omega) hj e
def nxS (last a n : Int) : Int := if n > last ∧ n < a then n else a
def nxF (hi last : Int) (l : List Int) : Int := l.foldl (nxS last) hi
theorem nxF_snoc (hi last : Int) (l : List Int) (n : Int) : nxF hi last (l ++ [n]) = nxS last (nxF hi last l) n := by simp [nxF]
theorem nxF_spec (hi last : Int) : ∀ l : List Int, (nxF hi last l = hi ∨ (nxF hi last l ∈ l ∧ nxF hi last l > last)) ∧ nxF hi last l ≤ hi ∧ ∀ p ∈ l, p > last → nxF hi last l ≤ p := by
  refine snoc_ind ⟨.inl rfl, Int.le_refl _, fun p hp => by cases hp⟩ ?_; intro l n ih; obtain ⟨h1, h2, h3⟩ := ih; rw [nxF_snoc]
  by_cases h : n > last ∧ n < nxF hi last l
  · rw [nxS, if_pos h]; refine ⟨.inr ⟨by simp, h.1⟩, by omega, fun p hp hl => ?_⟩
    rcases List.mem_append.1 hp with hp | hp
    · have := h3 p hp hl; omega
    rw [List.mem_singleton] at hp; omega
  rw [nxS, if_neg h]; refine ⟨?_, h2, fun p hp hl => ?_⟩
  · rcases h1 with h1 | h1
    · exact .inl h1
    exact .inr ⟨by simp [h1.1], h1.2⟩
  rcases List.mem_append.1 hp with hp | hp
  · exact h3 p hp hl
  rw [List.mem_singleton] at hp; subst hp; omega
structure CutOK (T pts : List Int) (lo hi : Int) : Prop where
  asc : T.Pairwise (fun a b => a < b)
  mem : ∀ x, x ∈ T ↔ x ∈ pts ∧ lo ≤ x ∧ x ≤ hi
  lo_ : lo ∈ pts
  hi_ : hi ∈ pts
  lt : lo < hi
theorem asc_lt {T : List Int} (h : T.Pairwise (fun a b => a < b)) {i j : Nat} {a b : Int} (hi : T[i]? = some a) (hj : T[j]? = some b) : i < j ↔ a < b := by
  obtain ⟨h1, rfl⟩ := List.getElem?_eq_some_iff.1 hi; obtain ⟨h2, rfl⟩ := List.getElem?_eq_some_iff.1 hj; have key := List.pairwise_iff_getElem.1 h
  constructor
  · exact fun e => key i j h1 h2 e
  intro e
  rcases Nat.lt_trichotomy i j with g | g | g
  · exact g
  · subst g; omega
  have := key j i h2 h1 g; omega
theorem CutOK.at0 {T pts : List Int} {lo hi : Int} (h : CutOK T pts lo hi) : T[0]? = some lo := by
  have hm := (h.mem lo).2 ⟨h.lo_, Int.le_refl _, by have := h.lt; omega⟩; obtain ⟨j, hj, e⟩ := List.getElem_of_mem hm; have h0 : T[0]? = some (T[0]'(by omega)) := List.getElem?_eq_getElem _; have hb := ((h.mem _).1 (List.mem_of_getElem? h0)).2.1
  have hj' : T[j]? = some lo := by rw [← e]; exact List.getElem?_eq_getElem _
  by_cases hz : j = 0
  · subst hz; exact hj'
  have := (asc_lt h.asc h0 hj').1 (by omega); omega
theorem CutOK.atl {T pts : List Int} {lo hi : Int} (h : CutOK T pts lo hi) : T[T.length - 1]? = some hi ∧ 2 ≤ T.length := by
  have hm := (h.mem hi).2 ⟨h.hi_, by have := h.lt; omega, Int.le_refl _⟩; obtain ⟨j, hj, e⟩ := List.getElem_of_mem hm; have h0 : T[T.length - 1]? = some (T[T.length - 1]'(by omega)) := List.getElem?_eq_getElem _; have hb := ((h.mem _).1 (List.mem_of_getElem? h0)).2.2
  have hj' : T[j]? = some hi := by rw [← e]; exact List.getElem?_eq_getElem _
  have hj0 : j ≠ 0 := fun e => by
    subst e; rw [h.at0] at hj'; have := Option.some.inj hj'; have := h.lt; omega
  refine ⟨?_, by omega⟩
  by_cases hz : j = T.length - 1
  · rw [← hz]; exact hj'
  have := (asc_lt h.asc hj' h0).1 (by omega); omega
theorem CutOK.next {T pts : List Int} {lo hi : Int} (h : CutOK T pts lo hi) {k : Nat} {last : Int} (hk : T[k]? = some last) (hl : last < hi) : T[k + 1]? = some (nxF hi last pts) := by
  obtain ⟨g1, g2⟩ := h.atl; have hk1 := (asc_lt h.asc hk g1).2 hl; have e1 : T[k + 1]? = some (T[k + 1]'(by omega)) := List.getElem?_eq_getElem _
  generalize T[k + 1]'(by omega) = t at e1
  obtain ⟨m1, m2, m3⟩ := (h.mem t).1 (List.mem_of_getElem? e1); obtain ⟨s1, s2, s3⟩ := nxF_spec hi last pts; have hlt : last < t := (asc_lt h.asc hk e1).1 (by omega)
  have hr : last < nxF hi last pts := by rcases s1 with e | e <;> omega
  obtain ⟨b1, b2, b3⟩ := (h.mem last).1 (List.mem_of_getElem? hk); have hrm : nxF hi last pts ∈ T := (h.mem _).2 ⟨by rcases s1 with e | e; rw [e]; exact h.hi_; exact e.1, by omega, s2⟩; have hle := s3 t m1 hlt; obtain ⟨j, hj, e⟩ := List.getElem_of_mem hrm
  have hj' : T[j]? = some (nxF hi last pts) := by rw [← e]; exact List.getElem?_eq_getElem _
  have hjk := (asc_lt h.asc hk hj').2 hr
  by_cases hz : j = k + 1
  · rw [← hz]; exact hj'
  have := (asc_lt h.asc e1 hj').1 (by omega); omega
def sgs (l : List Int) (n : Nat) : List (Int × Int) := (List.range n).map fun i => ((l[i]?).getD 0, (l[i + 1]?).getD 0)
theorem sgs_snoc (l : List Int) (n : Nat) : sgs l (n + 1) = sgs l n ++ [((l[n]?).getD 0, (l[n + 1]?).getD 0)] := by simp [sgs, List.range_succ]
def bxOf (x y z : Int × Int) : Bx := ⟨x.1, y.1, z.1, x.2, y.2, z.2⟩
def cellsZ (p : Bx → Bool) (x y : Int × Int) (Z : List (Int × Int)) : List Bx := (Z.map (bxOf x y)).filter p
def cellsY (p : Bx → Bool) (x : Int × Int) (Y Z : List (Int × Int)) : List Bx := Y.flatMap fun y => cellsZ p x y Z
def cellsX (p : Bx → Bool) (X Y Z : List (Int × Int)) : List Bx := X.flatMap fun x => cellsY p x Y Z
theorem cellsX_snoc (p : Bx → Bool) (X Y Z : List (Int × Int)) (x : Int × Int) : cellsX p (X ++ [x]) Y Z = cellsX p X Y Z ++ cellsY p x Y Z := by simp [cellsX]
theorem cellsY_snoc (p : Bx → Bool) (x : Int × Int) (Y Z : List (Int × Int)) (y : Int × Int) : cellsY p x (Y ++ [y]) Z = cellsY p x Y Z ++ cellsZ p x y Z := by simp [cellsY]
theorem cellsZ_t {p : Bx → Bool} {x y z : Int × Int} {Z : List (Int × Int)} (h : p (bxOf x y z) = true) : cellsZ p x y (Z ++ [z]) = cellsZ p x y Z ++ [bxOf x y z] := by simp [cellsZ, h]
theorem cellsZ_f {p : Bx → Bool} {x y z : Int × Int} {Z : List (Int × Int)} (h : p (bxOf x y z) = false) : cellsZ p x y (Z ++ [z]) = cellsZ p x y Z := by simp [cellsZ, h]
def volB (b : Bx) : Int := (b.hx - b.lx) * (b.hy - b.ly) * (b.hz - b.lz)
def sumV (l : List Bx) : Int := (l.map volB).sum
theorem sumV_snoc (l : List Bx) (b : Bx) : sumV (l ++ [b]) = sumV l + volB b := by simp [sumV]
theorem sumV_app (l m : List Bx) : sumV (l ++ m) = sumV l + sumV m := by simp [sumV]
def upS (l : List (Int × Int)) : Prop := ∀ s ∈ l, s.1 < s.2
def lenS (l : List (Int × Int)) : Int := (l.map fun s => s.2 - s.1).sum
theorem lenS_snoc (l : List (Int × Int)) (s : Int × Int) : lenS (l ++ [s]) = lenS l + (s.2 - s.1) := by simp [lenS]
theorem sumZ_le {p : Bx → Bool} {x y : Int × Int} (hx : x.1 < x.2) (hy : y.1 < y.2) : ∀ {Z : List (Int × Int)}, upS Z → 0 ≤ sumV (cellsZ p x y Z) ∧ sumV (cellsZ p x y Z) ≤ (x.2 - x.1) * (y.2 - y.1) * lenS Z := by
  intro Z; refine snoc_ind (P := fun Z => upS Z → 0 ≤ sumV (cellsZ p x y Z) ∧ sumV (cellsZ p x y Z) ≤ (x.2 - x.1) * (y.2 - y.1) * lenS Z) (fun _ => by simp [sumV, cellsZ, lenS]) ?_ Z; intro Z z ih h; obtain ⟨h1, h2⟩ := ih fun t ht => h t (by simp [ht]); have h3 := h z (by simp); have h4 : 0 ≤ (x.2 - x.1) * (y.2 - y.1) * (z.2 - z.1) := Int.mul_nonneg (Int.mul_nonneg (by omega) (by omega)) (by omega); rw [lenS_snoc, Int.mul_add]
  by_cases hp : p (bxOf x y z) = true
  · rw [cellsZ_t hp, sumV_snoc, show volB (bxOf x y z) = (x.2 - x.1) * (y.2 - y.1) * (z.2 - z.1) from rfl]; omega
  rw [cellsZ_f (by simpa using hp)]; omega
theorem sumY_le {p : Bx → Bool} {x : Int × Int} (hx : x.1 < x.2) {Z : List (Int × Int)} (hZ : upS Z) : ∀ {Y : List (Int × Int)}, upS Y → 0 ≤ sumV (cellsY p x Y Z) ∧ sumV (cellsY p x Y Z) ≤ (x.2 - x.1) * lenS Y * lenS Z := by
  intro Y; refine snoc_ind (P := fun Y => upS Y → 0 ≤ sumV (cellsY p x Y Z) ∧ sumV (cellsY p x Y Z) ≤ (x.2 - x.1) * lenS Y * lenS Z) (fun _ => by simp [sumV, cellsY, lenS]) ?_ Y; intro Y y ih h; obtain ⟨h1, h2⟩ := ih fun t ht => h t (by simp [ht]); obtain ⟨h3, h4⟩ := sumZ_le (p := p) hx (h y (by simp)) hZ; rw [cellsY_snoc, sumV_app, lenS_snoc, Int.mul_add, Int.add_mul]; omega
theorem sumX_le {p : Bx → Bool} {Y Z : List (Int × Int)} (hY : upS Y) (hZ : upS Z) : ∀ {X : List (Int × Int)}, upS X → 0 ≤ sumV (cellsX p X Y Z) ∧ sumV (cellsX p X Y Z) ≤ lenS X * lenS Y * lenS Z := by
  intro X; refine snoc_ind (P := fun X => upS X → 0 ≤ sumV (cellsX p X Y Z) ∧ sumV (cellsX p X Y Z) ≤ lenS X * lenS Y * lenS Z) (fun _ => by simp [sumV, cellsX, lenS]) ?_ X; intro X x ih h; obtain ⟨h1, h2⟩ := ih fun t ht => h t (by simp [ht]); obtain ⟨h3, h4⟩ := sumY_le (p := p) (h x (by simp)) hZ hY; rw [cellsX_snoc, sumV_app, lenS_snoc, Int.add_mul, Int.add_mul]; omega
theorem sgs_up {T : List Int} (h : T.Pairwise (fun a b => a < b)) {n : Nat} (hn : n < T.length) : upS (sgs T n) := by
  intro s hs; obtain ⟨i, hi, rfl⟩ := List.mem_map.1 hs; have hi2 := List.mem_range.1 hi; have e1 : T[i]? = some (T[i]'(by omega)) := List.getElem?_eq_getElem _; have e2 : T[i + 1]? = some (T[i + 1]'(by omega)) := List.getElem?_eq_getElem _; rw [e1, e2]; exact (asc_lt h e1 e2).1 (by omega)
theorem sgs_lenS {T : List Int} : ∀ {n : Nat}, n < T.length → lenS (sgs T n) = (T[n]?).getD 0 - (T[0]?).getD 0 := by
  intro n
  induction n with
  | zero => intro _; simp [sgs, lenS]
  | succ n ih =>
    intro h; rw [sgs_snoc, lenS_snoc, ih (by omega)]; omega
theorem CutOK.segs {T pts : List Int} {lo hi : Int} (h : CutOK T pts lo hi) : upS (sgs T (T.length - 1)) ∧ lenS (sgs T (T.length - 1)) = hi - lo := by
  obtain ⟨g1, g2⟩ := h.atl; refine ⟨sgs_up h.asc (by omega), ?_⟩; rw [sgs_lenS (by omega), g1, h.at0]; rfl
def ptsA (f : Int → Int → Int → Int) (l : List Bx) : List Int := l.flatMap (endsF f)
theorem ptsF_mem (f : Int → Int → Int → Int) (h : Bx) (l : List Bx) (x : Int) : x ∈ ptsF f h l ↔ x ∈ ptsA f l ∧ f h.lx h.ly h.lz ≤ x ∧ x ≤ f h.hx h.hy h.hz := by
  unfold ptsF ptsA inF
  simp only [List.mem_flatMap, List.mem_filter, decide_eq_true_eq]
  constructor
  · rintro ⟨b, hb, h1, h2, h3⟩; exact ⟨⟨b, hb, h1⟩, h2, h3⟩
  rintro ⟨⟨b, hb, h1⟩, h2, h3⟩; exact ⟨b, hb, h1, h2, h3⟩
theorem cut_okF {f : Int → Int → Int → Int} {h : Bx} {l : List Bx} (h1 : f h.lx h.ly h.lz ∈ ptsA f l) (h2 : f h.hx h.hy h.hz ∈ ptsA f l) (h3 : f h.lx h.ly h.lz < f h.hx h.hy h.hz) : CutOK (cutV f h l) (ptsA f l) (f h.lx h.ly h.lz) (f h.hx h.hy h.hz) :=
  ⟨compact_asc (srt_le _), fun x => by rw [cutV, compact_mem, srt_mem, ptsF_mem], h1, h2, h3⟩
def fX (a b c : Int) : Int := a
def fY (a b c : Int) : Int := b
def fZ (a b c : Int) : Int := c
theorem hull_in (b0 : Bx) : ∀ l : List Bx, b0 ∈ l → (∃ b ∈ l, (hullG b0 l).lx = b.lx) ∧ (∃ b ∈ l, (hullG b0 l).ly = b.ly) ∧ (∃ b ∈ l, (hullG b0 l).lz = b.lz) ∧ (∃ b ∈ l, (hullG b0 l).hx = b.hx) ∧ (∃ b ∈ l, (hullG b0 l).hy = b.hy) ∧ ∃ b ∈ l, (hullG b0 l).hz = b.hz := by
  have key : ∀ l : List Bx, (∃ b ∈ b0 :: l, (hullG b0 l).lx = b.lx) ∧ (∃ b ∈ b0 :: l, (hullG b0 l).ly = b.ly) ∧ (∃ b ∈ b0 :: l, (hullG b0 l).lz = b.lz) ∧ (∃ b ∈ b0 :: l, (hullG b0 l).hx = b.hx) ∧ (∃ b ∈ b0 :: l, (hullG b0 l).hy = b.hy) ∧ ∃ b ∈ b0 :: l, (hullG b0 l).hz = b.hz := by
    refine snoc_ind ⟨⟨b0, by simp, rfl⟩, ⟨b0, by simp, rfl⟩, ⟨b0, by simp, rfl⟩, ⟨b0, by simp, rfl⟩, ⟨b0, by simp, rfl⟩, ⟨b0, by simp, rfl⟩⟩ ?_; intro l s ih
    have up : ∀ b, b ∈ b0 :: l → b ∈ b0 :: (l ++ [s]) := fun b hb => by
      rcases List.mem_cons.1 hb with rfl | hb
      · simp
      simp [hb]
    have hs : s ∈ b0 :: (l ++ [s]) := by simp
    obtain ⟨⟨x1, m1, e1⟩, ⟨x2, m2, e2⟩, ⟨x3, m3, e3⟩, ⟨x4, m4, e4⟩, ⟨x5, m5, e5⟩, ⟨x6, m6, e6⟩⟩ := ih; rw [hullG_snoc]
    unfold bumpB
    dsimp only
    rw [e1, e2, e3, e4, e5, e6]; refine ⟨?_, ?_, ?_, ?_, ?_, ?_⟩
    · rcases Int.le_total x1.lx s.lx with g | g
      · exact ⟨x1, up _ m1, Int.min_eq_left g⟩
      exact ⟨s, hs, Int.min_eq_right g⟩
    · rcases Int.le_total x2.ly s.ly with g | g
      · exact ⟨x2, up _ m2, Int.min_eq_left g⟩
      exact ⟨s, hs, Int.min_eq_right g⟩
    · rcases Int.le_total x3.lz s.lz with g | g
      · exact ⟨x3, up _ m3, Int.min_eq_left g⟩
      exact ⟨s, hs, Int.min_eq_right g⟩
    · rcases Int.le_total x4.hx s.hx with g | g
      · exact ⟨s, hs, Int.max_eq_right g⟩
      exact ⟨x4, up _ m4, Int.max_eq_left g⟩
    · rcases Int.le_total x5.hy s.hy with g | g
      · exact ⟨s, hs, Int.max_eq_right g⟩
      exact ⟨x5, up _ m5, Int.max_eq_left g⟩
    rcases Int.le_total x6.hz s.hz with g | g
    · exact ⟨s, hs, Int.max_eq_right g⟩
    exact ⟨x6, up _ m6, Int.max_eq_left g⟩
  intro l hb
  have dn : ∀ b, b ∈ b0 :: l → b ∈ l := fun b h => by
    rcases List.mem_cons.1 h with rfl | h
    · exact hb
    exact h
  obtain ⟨⟨x1, m1, e1⟩, ⟨x2, m2, e2⟩, ⟨x3, m3, e3⟩, ⟨x4, m4, e4⟩, ⟨x5, m5, e5⟩, ⟨x6, m6, e6⟩⟩ := key l; exact ⟨⟨x1, dn _ m1, e1⟩, ⟨x2, dn _ m2, e2⟩, ⟨x3, dn _ m3, e3⟩, ⟨x4, dn _ m4, e4⟩, ⟨x5, dn _ m5, e5⟩, ⟨x6, dn _ m6, e6⟩⟩
theorem hull_le (b0 : Bx) : ∀ l : List Bx, ((hullG b0 l).lx ≤ b0.lx ∧ (hullG b0 l).ly ≤ b0.ly ∧ (hullG b0 l).lz ≤ b0.lz) ∧ b0.hx ≤ (hullG b0 l).hx ∧ b0.hy ≤ (hullG b0 l).hy ∧ b0.hz ≤ (hullG b0 l).hz := by
  refine snoc_ind ⟨⟨Int.le_refl _, Int.le_refl _, Int.le_refl _⟩, Int.le_refl _, Int.le_refl _, Int.le_refl _⟩ ?_; intro l s ih; rw [hullG_snoc]
  unfold bumpB
  dsimp only
  omega
structure HullOK (bs : List Bx) (h : Bx) : Prop where
  lx : fX h.lx h.ly h.lz ∈ ptsA fX bs
  ly : fY h.lx h.ly h.lz ∈ ptsA fY bs
  lz : fZ h.lx h.ly h.lz ∈ ptsA fZ bs
  hx : fX h.hx h.hy h.hz ∈ ptsA fX bs
  hy : fY h.hx h.hy h.hz ∈ ptsA fY bs
  hz : fZ h.hx h.hy h.hz ∈ ptsA fZ bs
  lt : h.lx < h.hx ∧ h.ly < h.hy ∧ h.lz < h.hz
  bd : (-1048576 ≤ h.lx ∧ h.hx ≤ 1048576) ∧ (-1048576 ≤ h.ly ∧ h.hy ≤ 1048576) ∧ -1048576 ≤ h.lz ∧ h.hz ≤ 1048576
theorem hull_ok {bs hs : List Bx} (h : solOK bs hs) : HullOK bs (hullOf bs) := by
  obtain ⟨⟨h1, h2⟩, h3, h4, h5⟩ := h; obtain ⟨b0, hb0⟩ : ∃ b, bs[0]? = some b := ⟨_, List.getElem?_eq_getElem (by omega)⟩
  have he : hullOf bs = hullG b0 bs := by rw [hullOf, hb0]; rfl
  have hm := List.mem_of_getElem? hb0; obtain ⟨⟨x1, m1, e1⟩, ⟨x2, m2, e2⟩, ⟨x3, m3, e3⟩, ⟨x4, m4, e4⟩, ⟨x5, m5, e5⟩, ⟨x6, m6, e6⟩⟩ := hull_in b0 bs hm; obtain ⟨⟨l1, l2, l3⟩, l4, l5, l6⟩ := hull_le b0 bs; obtain ⟨t1, t2, t3, t4⟩ := h4 b0 hm; have o1 := (h4 x1 m1).1; have o2 := (h4 x2 m2).1; have o3 := (h4 x3 m3).1; have o4 := (h4 x4 m4).1; have o5 := (h4 x5 m5).1; have o6 := (h4 x6 m6).1
  unfold okBx at o1 o2 o3 o4 o5 o6
  rw [he]; refine ⟨?_, ?_, ?_, ?_, ?_, ?_, ?_, ?_⟩
  · exact List.mem_flatMap.2 ⟨x1, m1, by rw [show fX (hullG b0 bs).lx _ _ = x1.lx from e1]; simp [endsF, fX]⟩
  · exact List.mem_flatMap.2 ⟨x2, m2, by rw [show fY _ (hullG b0 bs).ly _ = x2.ly from e2]; simp [endsF, fY]⟩
  · exact List.mem_flatMap.2 ⟨x3, m3, by rw [show fZ _ _ (hullG b0 bs).lz = x3.lz from e3]; simp [endsF, fZ]⟩
  · exact List.mem_flatMap.2 ⟨x4, m4, by rw [show fX (hullG b0 bs).hx _ _ = x4.hx from e4]; simp [endsF, fX]⟩
  · exact List.mem_flatMap.2 ⟨x5, m5, by rw [show fY _ (hullG b0 bs).hy _ = x5.hy from e5]; simp [endsF, fY]⟩
  · exact List.mem_flatMap.2 ⟨x6, m6, by rw [show fZ _ _ (hullG b0 bs).hz = x6.hz from e6]; simp [endsF, fZ]⟩
  · omega
  omega
theorem ptsA_app (f : Int → Int → Int → Int) (l m : List Bx) (x : Int) (h : x ∈ ptsA f l) : x ∈ ptsA f (l ++ m) := by
  unfold ptsA at *
  rw [List.flatMap_append]; exact List.mem_append_left _ h
theorem cuts_ok {bs hs : List Bx} (h : solOK bs hs) : CutOK (cutV fX (hullOf bs) (bs ++ hs)) (ptsA fX (bs ++ hs)) (hullOf bs).lx (hullOf bs).hx ∧ CutOK (cutV fY (hullOf bs) (bs ++ hs)) (ptsA fY (bs ++ hs)) (hullOf bs).ly (hullOf bs).hy ∧ CutOK (cutV fZ (hullOf bs) (bs ++ hs)) (ptsA fZ (bs ++ hs)) (hullOf bs).lz (hullOf bs).hz := by
  have g := hull_ok h; exact ⟨cut_okF (ptsA_app _ _ _ _ g.lx) (ptsA_app _ _ _ _ g.hx) g.lt.1, cut_okF (ptsA_app _ _ _ _ g.ly) (ptsA_app _ _ _ _ g.hy) g.lt.2.1, cut_okF (ptsA_app _ _ _ _ g.lz) (ptsA_app _ _ _ _ g.hz) g.lt.2.2⟩
theorem cut_len {f : Int → Int → Int → Int} {h : Bx} {bs hs : List Bx} (hb : bs.length ≤ 20) (hh : hs.length ≤ 20) : (cutV f h (bs ++ hs)).length ≤ 80 := by
  have h1 := cmpR_len (srt (ptsF f h (bs ++ hs))); have h2 := compact_len (srt (ptsF f h (bs ++ hs))); have h3 := srt_len (ptsF f h (bs ++ hs)); have h4 := ptsF_len f h (bs ++ hs); rw [List.length_append] at h4
  unfold cutV
  omega
def sgA (l : List Int) (n : Nat) : Int × Int := ((l[n]?).getD 0, (l[n + 1]?).getD 0)
def cellsA (p : Bx → Bool) (xs ys zs : List Int) (i k j : Nat) : List Bx :=
  cellsX p (sgs xs (i - 1)) (sgs ys (ys.length - 1)) (sgs zs (zs.length - 1)) ++ (cellsY p (sgA xs (i - 1)) (sgs ys (k - 1)) (sgs zs (zs.length - 1)) ++ cellsZ p (sgA xs (i - 1)) (sgA ys (k - 1)) (sgs zs (j - 1)))
def cellsAll (p : Bx → Bool) (xs ys zs : List Int) : List Bx := cellsX p (sgs xs (xs.length - 1)) (sgs ys (ys.length - 1)) (sgs zs (zs.length - 1))
section
variable {p : Bx → Bool} {xs ys zs : List Int} {i k j : Nat}
theorem cA_n (i : Nat) : cellsA p xs ys zs i 1 1 = cellsX p (sgs xs (i - 1)) (sgs ys (ys.length - 1)) (sgs zs (zs.length - 1)) := by
  unfold cellsA
  show _ ++ ([] ++ []) = _
  simp
theorem cA_end : cellsA p xs ys zs xs.length 1 1 = cellsAll p xs ys zs := cA_n _
theorem cA_z (hk : 1 ≤ k) : cellsA p xs ys zs i k zs.length = cellsA p xs ys zs i (k + 1) 1 := by
  obtain ⟨k, rfl⟩ : ∃ n, k = n + 1 := ⟨k - 1, by omega⟩
  have e : cellsY p (sgA xs (i - 1)) (sgs ys (k + 1)) (sgs zs (zs.length - 1)) = cellsY p (sgA xs (i - 1)) (sgs ys k) (sgs zs (zs.length - 1)) ++ cellsZ p (sgA xs (i - 1)) (sgA ys k) (sgs zs (zs.length - 1)) := by
    rw [sgs_snoc, cellsY_snoc]; rfl
  unfold cellsA
  simp only [Nat.add_sub_cancel]; rw [e]
  show _ = _ ++ ((_ ++ _) ++ [])
  rw [List.append_nil]
theorem cA_y (hi : 1 ≤ i) : cellsA p xs ys zs i ys.length 1 = cellsA p xs ys zs (i + 1) 1 1 := by
  obtain ⟨i, rfl⟩ : ∃ n, i = n + 1 := ⟨i - 1, by omega⟩
  have e : cellsX p (sgs xs (i + 1)) (sgs ys (ys.length - 1)) (sgs zs (zs.length - 1)) = cellsX p (sgs xs i) (sgs ys (ys.length - 1)) (sgs zs (zs.length - 1)) ++ cellsY p (sgA xs i) (sgs ys (ys.length - 1)) (sgs zs (zs.length - 1)) := by
    rw [sgs_snoc, cellsX_snoc]; rfl
  rw [cA_n]
  unfold cellsA
  simp only [Nat.add_sub_cancel]; rw [e]
  show _ ++ (_ ++ []) = _
  rw [List.append_nil]
theorem cA_t (hj : 1 ≤ j) (h : p (bxOf (sgA xs (i - 1)) (sgA ys (k - 1)) (sgA zs (j - 1))) = true) : cellsA p xs ys zs i k (j + 1) = cellsA p xs ys zs i k j ++ [bxOf (sgA xs (i - 1)) (sgA ys (k - 1)) (sgA zs (j - 1))] := by
  obtain ⟨j, rfl⟩ : ∃ n, j = n + 1 := ⟨j - 1, by omega⟩
  unfold cellsA
  simp only [Nat.add_sub_cancel] at h ⊢; rw [sgs_snoc, show ((zs[j]?).getD 0, (zs[j + 1]?).getD 0) = sgA zs j from rfl, cellsZ_t h, List.append_assoc, List.append_assoc]
theorem cA_f (hj : 1 ≤ j) (h : p (bxOf (sgA xs (i - 1)) (sgA ys (k - 1)) (sgA zs (j - 1))) = false) : cellsA p xs ys zs i k (j + 1) = cellsA p xs ys zs i k j := by
  obtain ⟨j, rfl⟩ : ∃ n, j = n + 1 := ⟨j - 1, by omega⟩
  unfold cellsA
  simp only [Nat.add_sub_cancel] at h ⊢; rw [sgs_snoc, show ((zs[j]?).getD 0, (zs[j + 1]?).getD 0) = sgA zs j from rfl, cellsZ_f h]
theorem sgs_pre {l : List Int} {n m : Nat} (h : n ≤ m) : ∃ t, sgs l m = sgs l n ++ t := by
  refine ⟨(sgs l m).drop n, ?_⟩
  have : sgs l n = (sgs l m).take n := by
    unfold sgs
    rw [← List.map_take, List.take_range, Nat.min_eq_left h]
  rw [this, List.take_append_drop]
theorem cA_pre (hi : 1 ≤ i) (hi2 : i < xs.length) (hk : 1 ≤ k) (hk2 : k < ys.length) (hj2 : j ≤ zs.length) : ∃ t, cellsAll p xs ys zs = cellsA p xs ys zs i k j ++ t := by
  obtain ⟨t1, h1⟩ := sgs_pre (l := zs) (n := j - 1) (m := zs.length - 1) (by omega); obtain ⟨t2, h2⟩ := sgs_pre (l := ys) (n := k) (m := ys.length - 1) (by omega); obtain ⟨t3, h3⟩ := sgs_pre (l := xs) (n := i) (m := xs.length - 1) (by omega)
  have a1 : ∃ t, cellsA p xs ys zs i k zs.length = cellsA p xs ys zs i k j ++ t := ⟨cellsZ p (sgA xs (i - 1)) (sgA ys (k - 1)) t1, by
    unfold cellsA
    rw [show cellsZ p (sgA xs (i - 1)) (sgA ys (k - 1)) (sgs zs (zs.length - 1)) = cellsZ p (sgA xs (i - 1)) (sgA ys (k - 1)) (sgs zs (j - 1)) ++ cellsZ p (sgA xs (i - 1)) (sgA ys (k - 1)) t1 by rw [h1]; simp [cellsZ]]
    simp only [List.append_assoc]⟩
  have a2 : ∃ t, cellsA p xs ys zs i ys.length 1 = cellsA p xs ys zs i (k + 1) 1 ++ t := ⟨cellsY p (sgA xs (i - 1)) t2 (sgs zs (zs.length - 1)), by
    unfold cellsA
    simp only [Nat.add_sub_cancel]; rw [show cellsY p (sgA xs (i - 1)) (sgs ys (ys.length - 1)) (sgs zs (zs.length - 1)) = cellsY p (sgA xs (i - 1)) (sgs ys k) (sgs zs (zs.length - 1)) ++ cellsY p (sgA xs (i - 1)) t2 (sgs zs (zs.length - 1)) by rw [h2]; simp [cellsY]]
    show _ ++ (_ ++ []) = _ ++ (_ ++ []) ++ _
    simp only [List.append_nil, List.append_assoc]⟩
  have a3 : ∃ t, cellsAll p xs ys zs = cellsA p xs ys zs (i + 1) 1 1 ++ t := ⟨cellsX p t3 (sgs ys (ys.length - 1)) (sgs zs (zs.length - 1)), by
    rw [cA_n]; simp only [Nat.add_sub_cancel]
    unfold cellsAll
    rw [h3]
    simp [cellsX]⟩
  obtain ⟨u1, g1⟩ := a1; obtain ⟨u2, g2⟩ := a2; obtain ⟨u3, g3⟩ := a3; rw [cA_z hk] at g1; rw [cA_y hi] at g2; exact ⟨u1 ++ u2 ++ u3, by rw [g3, g2, g1]; simp only [List.append_assoc]⟩
end
theorem indexFuncBx1 (g : FuncId) (c0 : List AV) (p : Bx → Bool) (hg : ∀ s, Fun Tryz.prog g [.agg (Bx.c s), .sadr c0 0] (Ret (bL (p s)) [])) (l : List (Bx)) (hlen : l.length ≤ 140737488355328) :
    Fun Tryz.prog 76 [.sh 6 (l.map Bx.c), .fn (.func g) [] [.sadr c0 0]] (Ret (iL (idxP p l 0)) []) := by
  refine Fun.of (nt := 19) (rs := [.tmp 4]) Tryz.func76 rfl rfl rfl rfl rfl (Ev.sr fun _ z=>S.o q.as (S.e z (Ev.seq (Ev.sr fun _ z=>S.o q.mv (S.o (q.lens am_el22) (S.o q.mv (S.e z (Ev.block (Ev.loopU (ι := {q : List (Bx) × List (Bx) // q.1 ++ q.2 = l ∧ ∀ x ∈ q.1, p x = false}) [] [0, 1, 7] (fun ⟨(pre, suf), _⟩ => [(8, iL (pre.length : Int))]) (fun ⟨(pre, suf), _⟩ => []) (fun ⟨(pre, suf), _⟩ => suf.length) ⟨([], l), rfl, fun x hx => by simp at hx⟩ (.c (.c (.c .n))) keep_n (slots_c) ?_))))))))); rintro ⟨⟨pre, suf⟩, hp, hinv⟩ R0 hR0; dsimp only [cA, nA, lC, lN]
  simp only at hp hinv
  have hpl := lenA hp
  rcases suf with _ | ⟨s, suf⟩
  · rw [List.append_nil] at hp; subst hp; simp only [List.length_nil] at hpl; refine Ev.sr fun _ z=>S.o q.lss (S.e z (Ev.ud (fun c1 => ?_) (fun c1 => ?_)))
    · omega
    refine Ev.exit (hR0 _ _ (Ev.sr fun _ z=>S.o q.as (S.e z (Ev.ret (Ev.p1 ?_)))))
    congr 2; rw [idxP_none p pre 0 hinv]
  simp only [lC] at hpl; have hidx := getA hp; refine Ev.sr fun _ z=>S.o q.lss (S.e z (Ev.ud (fun c3 => ?_) (fun c3 => ?_)))
  · refine Ev.seq (Ev.block (Ev.sr fun _ z=>S.o q.mv (S.o q.as (S.e z (Ev.sr fun _ z=>S.o q.mv (S.o q.mv (S.o q.mv (S.o (q.ix am_el22 am_cl75 (hl := (by exact ati hidx (by omega)))) (S.o (q.lsA _ am_ag75 am_cl75) (S.c0 (hF := hg s) (h := S.e z (Ev.c (fun c4 => ?_) (fun c4 => ?_)))))))))))))
    · refine Ev.sr fun _ z=>S.o q.mv (S.o q.as (S.e z (Ev.ret (hR0 _ _ (Ev.p1 ?_)))))
      congr 2; rw [← hp, idxP_append p pre _ 0 hinv, idxP, if_pos ‹_›]; omega
    refine Ev.skip (Ev.region_S fun _ z=>S.o q.add (S.o q.mv (S.e z (hR0 _ _ (roundU [] [0, 1, 7] ⟨(pre ++ [s], suf), sucA hp, ?_⟩ muL keep_n (slots_c (he := (by simp))) (.c (.c (.c .n))))))))
    intro x hx; simp only [List.mem_append, List.mem_singleton] at hx; rcases hx with hx | rfl
    · exact hinv x hx
    · assumption
  omega
theorem containsFuncBx1 (g : FuncId) (c0 : List AV) (p : Bx → Bool) (hg : ∀ s, Fun Tryz.prog g [.agg (Bx.c s), .sadr c0 0] (Ret (bL (p s)) [])) (l : List (Bx)) (hlen : l.length ≤ 140737488355328) :
    Fun Tryz.prog 50 [.sh 6 (l.map Bx.c), .fn (.func g) [] [.sadr c0 0]] (Ret (bL (decide (∃ x ∈ l, p x = true))) []) := by
  have hd : (decide (∃ x ∈ l, p x = true)) = decide (0 ≤ idxP p l 0) := by simp only [idxP_nonneg p l 0 (Int.le_refl _)]
  rw [hd]; refine Fun.of (nt := 9) (rs := [.tmp 4]) Tryz.func50 rfl rfl rfl rfl rfl (Ev.sr fun _ z=>S.o q.as (S.e z (Ev.sr fun _ z=>S.o q.mv (S.o q.mv (S.c0 (hF := indexFuncBx1 g c0 p hg l hlen) (h := S.o q.geq (S.o q.as (S.e z (Ev.ret (Ev.p1 ?_)))))))))); rfl
theorem boxContG_fun (a b : Bx) : Fun Tryz.prog 57 [.agg a.c, .agg b.c] (Ret (.tup [bL (decide ((okBx a ∧ okBx b) ∧ contP a b)), iL (if okBx a ∧ okBx b then 0 else 1)]) []) := by
  have q0 : okBx a ∧ okBx b → decide ((okBx a ∧ okBx b) ∧ contP a b) = decide (contP a b) ∧ (if okBx a ∧ okBx b then (0 : Int) else 1) = 0 := fun h => ⟨decide_eq_decide.2 ⟨fun g => g.2, fun g => ⟨h, g⟩⟩, if_pos h⟩; have q1 : ¬ (okBx a ∧ okBx b) → decide ((okBx a ∧ okBx b) ∧ contP a b) = false ∧ (if okBx a ∧ okBx b then (0 : Int) else 1) = 1 := fun h => ⟨decide_eq_false fun g => h g.1, if_neg h⟩; refine Fun.of (nt := 17) (rs := [.tmp 4, .tmp 5]) Tryz.func57 rfl rfl rfl rfl rfl (Ev.sr fun _ z=>S.nn (q.bx _ true) (S.nn (q.bx _ true) (S.o q.as (S.o q.as (S.e z (Ev.seq (Ev.sr fun _ z=>S.o (q.lvA _ am_ag75 am_cl75) (S.c0 (hF := boxValid_fun a) (h := S.o q.not (S.bn q.mv (fun c1 => ?_) (fun c1 => ?_)))))))))))
  · refine S.s2 (S.sk (S.o q.pt (S.e z (Ev.ct (Ev.sr fun _ z=>S.o q.as (S.o q.as (S.e z (Ev.ret (Ev.p2 ?_))))))))); rw [(q1 (fun h => absurd h.1 ‹_›)).1, (q1 (fun h => absurd h.1 ‹_›)).2]
  refine S.o (q.lvA _ am_ag75 am_cl75) (S.c0 (hF := boxValid_fun b) (h := S.o q.not (S.o q.pf (S.e z (Ev.cn (fun c2 => ?_) (fun c2 => ?_))))))
  · refine Ev.sr fun _ z=>S.o q.as (S.o q.as (S.e z (Ev.ret (Ev.p2 ?_)))); rw [(q1 (fun h => absurd h.2 ‹_›)).1, (q1 (fun h => absurd h.2 ‹_›)).2]
  refine Ev.skip (Ev.sr fun _ z=>S.o (q.lvA _ am_ag75 am_cl75) (S.o (q.lvA _ am_ag75 am_cl75) (S.c0 (hF := boxcont_fun a b) (h := S.o q.as (S.o q.as (S.e z (Ev.ret (Ev.p2 ?_)))))))); rw [(q0 ⟨‹_›, ‹_›⟩).1, (q0 ⟨‹_›, ‹_›⟩).2]
theorem each4a (p b : Bx) {V : Bool} (hc : Fun Tryz.prog 57 [.agg b.c, .agg p.c] (Ret (.tup [bL V, iL 0]) [])) : Fun Tryz.prog 56 [.agg b.c, .sadr p.c 0] (Ret (bL V) []) := by
  refine Fun.of (nt := 17) (rs := [.tmp 3]) Tryz.func56 rfl rfl rfl rfl rfl (Ev.sr fun _ z=>S.nn (q.bx _ true) (S.o q.as (S.e z (Ev.sr fun _ z=>S.o (q.lvA _ am_ag75 am_cl75) (S.o (q.lsA _ am_ag75 am_cl75) (S.c0 (hF := hc) (h := S.o q.mv (S.o q.ex (S.o q.ex (S.o q.as (S.o q.as (S.e z (Ev.sr fun _ z=>S.o q.mv (S.o q.eql (S.bd q.mv (fun c1 => ?_) (fun c1 => ?_))))))))))))))))
  · refine S.o q.mv (S.o q.pt (S.o q.as (S.e z (Ev.ret (Ev.p1 ?_))))); rfl
  omega
theorem each4b (p b : Bx) (hc : Fun Tryz.prog 57 [.agg b.c, .agg p.c] (Ret (.tup [bL false, iL 1]) [])) : Fun Tryz.prog 56 [.agg b.c, .sadr p.c 0] (Ret (bL false) []) := by
  refine Fun.of (nt := 17) (rs := [.tmp 3]) Tryz.func56 rfl rfl rfl rfl rfl (Ev.sr fun _ z=>S.nn (q.bx _ true) (S.o q.as (S.e z (Ev.sr fun _ z=>S.o (q.lvA _ am_ag75 am_cl75) (S.o (q.lsA _ am_ag75 am_cl75) (S.c0 (hF := hc) (h := S.o q.mv (S.o q.ex (S.o q.ex (S.o q.as (S.o q.as (S.e z (Ev.sr fun _ z=>S.o q.mv (S.o q.eql (S.bd q.mv (fun c1 => ?_) (fun c1 => ?_))))))))))))))))
  · omega
  refine S.sk (S.o q.pf (S.o q.as (S.e z (Ev.ret (Ev.p1 ?_))))); rfl
def inB (c x : Bx) : Bool := decide ((okBx x ∧ okBx c) ∧ contP x c)
def opB (c x : Bx) : Bool := decide (opensP x c)
theorem each4G_fun (p b : Bx) : Fun Tryz.prog 56 [.agg b.c, .sadr p.c 0] (Ret (bL (inB p b)) []) := by
  have e1 : okBx b ∧ okBx p → (if okBx b ∧ okBx p then (0 : Int) else 1) = 0 := fun h => if_pos h; have e2 : ¬ (okBx b ∧ okBx p) → (if okBx b ∧ okBx p then (0 : Int) else 1) = 1 := fun h => if_neg h; have e3 : ¬ (okBx b ∧ okBx p) → inB p b = false := fun h => decide_eq_false fun g => h g.1; have hc := boxContG_fun b p
  unfold inB at e3 ⊢
  by_cases hok : okBx b ∧ okBx p
  · rw [e1 hok] at hc; exact each4a p b hc
  rw [e2 hok, e3 hok] at hc; rw [e3 hok]; exact each4b p b hc
def inP (bs hs : List Bx) (c : Bx) : Bool := decide ((∃ x ∈ bs, inB c x = true) ∧ ¬ ∃ x ∈ hs, opB c x = true)
theorem inP_t {bs hs : List Bx} {c : Bx} (h1 : ∃ x ∈ bs, inB c x = true) (h2 : ¬ ∃ x ∈ hs, opB c x = true) : inP bs hs c = true := decide_eq_true ⟨h1, h2⟩
theorem inP_f1 {bs hs : List Bx} {c : Bx} (h1 : ¬ ∃ x ∈ bs, inB c x = true) : inP bs hs c = false := decide_eq_false fun h => h1 h.1
theorem inP_f2 {bs hs : List Bx} {c : Bx} (h1 : ∃ x ∈ hs, opB c x = true) : inP bs hs c = false := decide_eq_false fun h => h.2 h1
def bxV (b : Bx) : Value := .agg #[.int .i64 b.lx, .int .i64 b.ly, .int .i64 b.lz, .int .i64 b.hx, .int .i64 b.hy, .int .i64 b.hz]
theorem sgA_at {l : List Int} {n : Nat} {a b : Int} (h1 : 1 ≤ n) (ha : l[n - 1]? = some a) (hb : l[n]? = some b) : sgA l (n - 1) = (a, b) := by
  unfold sgA
  rw [Nat.sub_add_cancel h1, ha, hb]; rfl
theorem two_at {l : List Int} {n : Nat} (h1 : 1 ≤ n) (h2 : n < l.length) : ∃ a b, l[n]? = some b ∧ l[((n : Int) - 1).toNat]? = some a ∧ sgA l (n - 1) = (a, b) := by
  have ha : l[n - 1]? = some (l[n - 1]'(by omega)) := List.getElem?_eq_getElem _; have hb : l[n]? = some (l[n]'h2) := List.getElem?_eq_getElem _; exact ⟨_, _, hb, by rw [show ((n : Int) - 1).toNat = n - 1 by omega]; exact ha, sgA_at h1 ha hb⟩
theorem pre_next {T : Type} {all pre t : List T} {c : T} (h : all = (pre ++ [c]) ++ t) : ∃ rest, all = pre ++ c :: rest := ⟨t, by rw [h]; simp⟩
def Pfx (all pre : List Bx) (x : Bx) : Prop := ∃ rest, all = pre ++ x :: rest
def cellsV (bs hs : List Bx) : List Bx := cellsAll (inP bs hs) (cutV fX (hullOf bs) (bs ++ hs)) (cutV fY (hullOf bs) (bs ++ hs)) (cutV fZ (hullOf bs) (bs ++ hs))
theorem each_seq (bs hs : List Bx) (hok : solOK bs hs) : SeqA Tryz.prog 28 [.agg [.sh 6 (bs.map Bx.c), .sh 6 (hs.map Bx.c)]] (fun b : Bx => #[bxV b]) (fun l => l = cellsV bs hs) (fun _ => True) (Pfx (cellsV bs hs)) := by
  obtain ⟨⟨hb1, hb2⟩, hh2, hbo, hho⟩ := id hok; have hhf := hull_fun bs (by omega) hb1 (fun b hb => (hbo b hb).1); obtain ⟨c1, c2, c3⟩ := cuts_ok hok; have x2 := c1.atl.2; have y2 := c2.atl.2; have z2 := c3.atl.2; have x3 := cut_len (f := fX) (h := hullOf bs) hb2 hh2; have y3 := cut_len (f := fY) (h := hullOf bs) hb2 hh2; have z3 := cut_len (f := fZ) (h := hullOf bs) hb2 hh2; have kx := cuts_fun 53 fX each1_fun bs hs (hullOf bs) hb2 hh2; have ky := cuts_fun 54 fY each2_fun bs hs (hullOf bs) hb2 hh2; have kz := cuts_fun 55 fZ each3_fun bs hs (hullOf bs) hb2 hh2
  unfold cellsV
  obtain ⟨H, hH⟩ : ∃ H, H = hullOf bs := ⟨_, rfl⟩; rw [← hH] at hhf kx ky kz x2 y2 z2 x3 y3 z3 ⊢; obtain ⟨xs, hxs⟩ : ∃ l, l = cutV fX H (bs ++ hs) := ⟨_, rfl⟩; obtain ⟨ys, hys⟩ : ∃ l, l = cutV fY H (bs ++ hs) := ⟨_, rfl⟩; obtain ⟨zs, hzs⟩ : ∃ l, l = cutV fZ H (bs ++ hs) := ⟨_, rfl⟩; rw [← hxs] at kx x2 x3 ⊢; rw [← hys] at ky y2 y3 ⊢; rw [← hzs] at kz z2 z3 ⊢; clear c1 c2 c3 hxs hys hzs hH; obtain ⟨P, hP⟩ : ∃ P, P = inP bs hs := ⟨_, rfl⟩; rw [← hP]; refine SeqA.of (nt := 95) Tryz.func28 rfl rfl rfl rfl rfl ?_; intro l0 S0 J hRnd; dsimp only [cA, nA]; refine EvY.sr fun _ z=>S.nn (q.bx _ true) (S.e z (EvY.sr fun _ z=>S.o (q.fa 0 am_fi24_0 am_cl22) (S.o (q.lv am_ag22) (S.c0 (hF := hhf) (h := S.o q.mv (S.o q.ex (S.o q.ex (S.nn (q.al am_ze75) (S.sv _ true [_] am_in75 am_cl75 (h := S.o q.as (S.e z (EvY.seq (EvY.sr fun _ z=>S.o q.mv (S.o q.neq (S.e z (EvY.cn (fun c1 => ?_) (fun c1 => ?_)))))))))))))))))
  · omega
  refine EvY.skip (EvY.sr fun _ z=>S.o (q.lvA _ am_ag24 am_cl24) (S.o (q.lvA _ am_ag75 am_cl75) (S.c0 (hF := kx) (h := S.o q.as (S.e z (EvY.sr fun _ z=>S.o (q.lvA _ am_ag24 am_cl24) (S.o (q.lvA _ am_ag75 am_cl75) (S.c0 (hF := ky) (h := S.o q.as (S.e z (EvY.sr fun _ z=>S.o (q.lvA _ am_ag24 am_cl24) (S.o (q.lvA _ am_ag75 am_cl75) (S.c0 (hF := kz) (h := S.o q.as (S.e z (EvY.sr fun _ z=>S.o q.as (S.e z (EvY.block (EvY.loopU (κ := {i : Nat // 1 ≤ i ∧ i ≤ xs.length}) (fun p => (true, cellsA P xs ys zs p.1 1 1)) [0, 1] [1, 2, 6, 7, 8] (fun ⟨i, _⟩ => [(9, iL (i : Int))]) (fun ⟨i, _⟩ => [(0, ⟨false, 24, 2, [[.sh 6 ((bs).map Bx.c), .sh 6 ((hs).map Bx.c)]], true⟩), (1, ⟨false, 75, 6, [[iL (H.lx), iL (H.ly), iL (H.lz), iL (H.hx), iL (H.hy), iL (H.hz)]], true⟩)]) (fun ⟨i, _⟩ => xs.length - i) ⟨1, by decide, by omega⟩ (.c (.c (.c (.c (.c .n))))) (keep_c (h := (keep_c))) (slots_c) rfl ?_))))))))))))))))))); rintro ⟨i, hi1, hi2⟩ R0 hR0
  try dsimp only [cA, nA, lC, lN]
  try dsimp only
  by_cases hil : i < xs.length
  rotate_left
  · have hie : i = xs.length := by omega
    refine EvY.seq (EvY.sr fun _ z=>S.o q.mv (S.o q.mv (S.o (q.lens am_el56) (S.o q.lss (S.e z (EvY.cd (fun c2 => ?_) (fun c2 => ?_)))))))
    · omega
    refine EvY.exit (hR0 _ _ _ ?_); exact ⟨.inl rfl, fun _ => (by rw [hie]; exact cA_end), fun h => by cases h⟩
  skip; refine EvY.seq (EvY.sr fun _ z=>S.o q.mv (S.o q.mv (S.o (q.lens am_el56) (S.o q.lss (S.e z (EvY.cd (fun c3 => ?_) (fun c3 => ?_)))))))
  · refine EvY.skip (EvY.seq (EvY.block (EvY.sr fun _ z=>S.o q.as (S.e z (EvY.block (EvY.loopU (κ := {k : Nat // 1 ≤ k ∧ k ≤ ys.length}) (fun p => (true, cellsA P xs ys zs i p.1 1)) [0, 1] [1, 2, 6, 7, 8, 9] (fun ⟨k, _⟩ => [(10, iL (k : Int))]) (fun ⟨k, _⟩ => [(0, ⟨false, 24, 2, [[.sh 6 ((bs).map Bx.c), .sh 6 ((hs).map Bx.c)]], true⟩), (1, ⟨false, 75, 6, [[iL (H.lx), iL (H.ly), iL (H.lz), iL (H.hx), iL (H.hy), iL (H.hz)]], true⟩)]) (fun ⟨k, _⟩ => ys.length - k) ⟨1, by decide, by omega⟩ (.c (.c (.c (.c (.c (.c .n)))))) (keep_c (h := (keep_c))) (slots_c) rfl ?_)))))); rintro ⟨k, hk1, hk2⟩ R2 hR2
    try dsimp only [cA, nA, lC, lN]
    try dsimp only
    by_cases hkl : k < ys.length
    rotate_left
    · have hke : k = ys.length := by omega
      refine EvY.seq (EvY.sr fun _ z=>S.o q.mv (S.o q.mv (S.o (q.lens am_el56) (S.o q.lss (S.e z (EvY.cd (fun c4 => ?_) (fun c4 => ?_)))))))
      · omega
      refine EvY.exit (hR2 _ _ _ (EvY.region_S fun _ z=>S.o q.mv (S.o q.add (S.o q.as (S.e z (hR0 _ _ _ (roundYU [0, 1] [1, 2, 6, 7, 8] ⟨i + 1, by omega, by omega⟩ ?_ (keep_c (h := (keep_c))) (slots_c) (.c (.c (.c (.c (.c .n))))) (by rw [hke]; exact congrArg (Prod.mk true) (cA_y hi1))))))))); skip; all_goals (dsimp only; omega)
    skip; refine EvY.seq (EvY.sr fun _ z=>S.o q.mv (S.o q.mv (S.o (q.lens am_el56) (S.o q.lss (S.e z (EvY.cd (fun c5 => ?_) (fun c5 => ?_)))))))
    · refine EvY.skip (EvY.seq (EvY.block (EvY.sr fun _ z=>S.o q.as (S.e z (EvY.block (EvY.loopU (κ := {j : Nat // 1 ≤ j ∧ j ≤ zs.length}) (fun p => (true, cellsA P xs ys zs i k p.1)) [0, 1] [1, 2, 6, 7, 8, 9, 10] (fun ⟨j, _⟩ => [(11, iL (j : Int))]) (fun ⟨j, _⟩ => [(0, ⟨false, 24, 2, [[.sh 6 ((bs).map Bx.c), .sh 6 ((hs).map Bx.c)]], true⟩), (1, ⟨false, 75, 6, [[iL (H.lx), iL (H.ly), iL (H.lz), iL (H.hx), iL (H.hy), iL (H.hz)]], true⟩)]) (fun ⟨j, _⟩ => zs.length - j) ⟨1, by decide, by omega⟩ (.c (.c (.c (.c (.c (.c (.c .n))))))) (keep_c (h := (keep_c))) (slots_c) rfl ?_)))))); rintro ⟨j, hj1, hj2⟩ R4 hR4
      try dsimp only [cA, nA, lC, lN]
      try dsimp only
      by_cases hjl : j < zs.length
      rotate_left
      · have hje : j = zs.length := by omega
        refine EvY.seq (EvY.sr fun _ z=>S.o q.mv (S.o q.mv (S.o (q.lens am_el56) (S.o q.lss (S.e z (EvY.cd (fun c6 => ?_) (fun c6 => ?_)))))))
        · omega
        refine EvY.exit (hR4 _ _ _ (EvY.region_S fun _ z=>S.o q.mv (S.o q.add (S.o q.as (S.e z (hR2 _ _ _ (roundYU [0, 1] [1, 2, 6, 7, 8, 9] ⟨k + 1, by omega, by omega⟩ ?_ (keep_c (h := (keep_c))) (slots_c) (.c (.c (.c (.c (.c (.c .n)))))) (by rw [hje]; exact congrArg (Prod.mk true) (cA_z hk1))))))))); skip; all_goals (dsimp only; omega)
      obtain ⟨xa, xb, ux1, ux2, ux3⟩ := two_at hi1 hil; obtain ⟨ya, yb, uy1, uy2, uy3⟩ := two_at hk1 hkl; obtain ⟨za, zb, uz1, uz2, uz3⟩ := two_at hj1 hjl; obtain ⟨c, hc⟩ : ∃ c : Bx, c = ⟨xa, ya, za, xb, yb, zb⟩ := ⟨_, rfl⟩
      have hce : bxOf (sgA xs (i - 1)) (sgA ys (k - 1)) (sgA zs (j - 1)) = c := by rw [ux3, uy3, uz3, hc]; rfl
      have ht1 : (∃ x ∈ bs, inB c x = true) → (¬ ∃ x ∈ hs, opB c x = true) → cellsA P xs ys zs i k (j + 1) = cellsA P xs ys zs i k j ++ [c] := fun h1 h2 => by have := cA_t (p := P) (xs := xs) (ys := ys) (zs := zs) (i := i) (k := k) hj1 (by rw [hce, hP]; exact inP_t h1 h2); rwa [hce] at this
      have ht2 : (¬ ∃ x ∈ bs, inB c x = true) → cellsA P xs ys zs i k (j + 1) = cellsA P xs ys zs i k j := fun h1 => cA_f hj1 (by rw [hce, hP]; exact inP_f1 h1); have ht3 : (∃ x ∈ hs, opB c x = true) → cellsA P xs ys zs i k (j + 1) = cellsA P xs ys zs i k j := fun h1 => cA_f hj1 (by rw [hce, hP]; exact inP_f2 h1)
      have hpx : (∃ x ∈ bs, inB c x = true) → (¬ ∃ x ∈ hs, opB c x = true) → Pfx (cellsAll P xs ys zs) (cellsA P xs ys zs i k j) c := fun h1 h2 => by
        obtain ⟨t, h3⟩ := cA_pre (p := P) (zs := zs) (j := j + 1) hi1 hil hk1 hkl (by omega); rw [ht1 h1 h2] at h3; exact pre_next h3
      clear ux3 uy3 uz3; refine EvY.seq (EvY.sr fun _ z=>S.o q.mv (S.o q.mv (S.o (q.lens am_el56) (S.o q.lss (S.e z (EvY.cd (fun c7 => ?_) (fun c7 => ?_)))))))
      · refine EvY.skip (EvY.seq (EvY.block (EvY.sm (tbs [(0, 0), (0, 0), (2, 2), (3, 7), (4, 15), (0, 0), (0, 0), (7, 64), (8, 224), (9, 480), (0, 0), (0, 0), (12, 2048), (13, 7168), (14, 15360), (15, 32767), (0, 0), (0, 0), (18, 196608), (19, 458752), (0, 0), (0, 0), (22, 3145728), (23, 7340032), (0, 0), (0, 0), (26, 50331648), (27, 117440512), (28, 268369920), (29, 536870911), (0, 0), (31, 2147483647)]) 31 fun _ z=>M.o q.mv (M.o q.mv (M.o q.sub (M.o (q.ix am_el56 am_cl3 (hl := (by exact ati ux2 (by omega)))) (M.o (q.ls am_ag3) (M.o q.mv (M.o q.mv (M.o q.sub (M.o (q.ix am_el56 am_cl3 (hl := (by exact ati uy2 (by omega)))) (M.o (q.ls am_ag3) (M.o q.mv (M.o q.mv (M.o q.sub (M.o (q.ix am_el56 am_cl3 (hl := (by exact ati uz2 (by omega)))) (M.o (q.ls am_ag3) (M.o (q.bd _ am_ze38 am_pl38) (M.o q.mv (M.o q.mv (M.o (q.ix am_el56 am_cl3 (hl := (by exact ati ux1 (by omega)))) (M.o (q.ls am_ag3) (M.o q.mv (M.o q.mv (M.o (q.ix am_el56 am_cl3 (hl := (by exact ati uy1 (by omega)))) (M.o (q.ls am_ag3) (M.o q.mv (M.o q.mv (M.o (q.ix am_el56 am_cl3 (hl := (by exact ati uz1 (by omega)))) (M.o (q.ls am_ag3) (M.o (q.bd _ am_ze38 am_pl38) (M.o (q.bd _ am_ze75 am_pl75) (M.nn [_] (q.al am_ze75) (h := M.end [_, _, _] (h := S.sv _ true [_, _] am_in75 am_cl75 (h := S.e z ?_)))))))))))))))))))))))))))))))))))); obtain ⟨c1, c2, c3, c4, c5, c6⟩ := c
        injection hc with g1 g2 g3 g4 g5 g6
        subst g1 g2 g3 g4 g5 g6; refine EvY.sr fun _ z=>S.o (q.fa 0 am_fi24_0 am_cl22) (S.o (q.lv am_ag22) (S.o q.mf (S.c0 (hF := containsFuncBx1 _ _ (inB ⟨c1, c2, c3, c4, c5, c6⟩) (fun s => each4G_fun ⟨c1, c2, c3, c4, c5, c6⟩ s) bs (by omega)) (h := S.o q.as (S.e z (EvY.seq (EvY.sr fun _ z=>S.o q.mv (S.o q.not (S.bn q.mv (fun c8 => ?_) (fun c8 => ?_))))))))))
        · refine S.s2 (S.s2 (S.o q.pt (S.e z (EvY.ct (EvY.exit (EvY.region_S fun _ z=>S.o q.mv (S.o q.add (S.o q.as (S.e z (hR4 _ _ _ (roundYU [0, 1] [1, 2, 6, 7, 8, 9, 10] ⟨j + 1, by omega, by omega⟩ ?_ (keep_c (h := (keep_c))) (slots_c) (.c (.c (.c (.c (.c (.c (.c .n))))))) (by exact congrArg (Prod.mk true) (ht2 ‹_›).symm)))))))))))); skip; all_goals (dsimp only; omega)
        refine S.o (q.fa 1 am_fi24_1 am_cl22) (S.o (q.lv am_ag22) (S.o q.mf (S.c0 (hF := containsFuncBx1 _ _ (opB ⟨c1, c2, c3, c4, c5, c6⟩) (fun s => each5_fun ⟨c1, c2, c3, c4, c5, c6⟩ s) hs (by omega)) (h := S.o q.pf (S.e z (EvY.cd (fun c9 => ?_) (fun c9 => ?_)))))))
        · refine EvY.exit (EvY.region_S fun _ z=>S.o q.mv (S.o q.add (S.o q.as (S.e z (hR4 _ _ _ (roundYU [0, 1] [1, 2, 6, 7, 8, 9, 10] ⟨j + 1, by omega, by omega⟩ ?_ (keep_c (h := (keep_c))) (slots_c) (.c (.c (.c (.c (.c (.c (.c .n))))))) (by exact congrArg (Prod.mk true) (ht3 ‹_›).symm))))))); skip; all_goals (dsimp only; omega)
        refine EvY.skip (EvY.yieldT hRnd 2 ⟨c1, c2, c3, c4, c5, c6⟩ (hpx ‹_› ‹_›) rfl fun _ z=>?_); simp only [List.take_succ_cons, List.take_zero]; refine S.o q.mv (S.o (q.lvA _ am_ag75 am_cl75) (S.e z (⟨rfl, ⟨[_], rfl, rfl⟩, Nat.le_of_ble_eq_true rfl, ?_, ?_⟩)))
        · refine SeqL.k fun _ z=>?_; simp only [List.drop_succ_cons, List.drop_zero, St.put]; refine S.o q.nott (S.e z (EvY.cf (EvY.skip (EvY.region_S fun _ z=>S.o q.mv (S.o q.add (S.o q.as (S.e z (hR4 _ _ _ (roundYU [0, 1] [1, 2, 6, 7, 8, 9, 10] ⟨j + 1, by omega, by omega⟩ ?_ (keep_c (h := (keep_c))) (slots_c) (.c (.c (.c (.c (.c (.c (.c .n))))))) (by exact congrArg (Prod.mk true) (ht1 ‹_› ‹_›).symm)))))))))); skip; all_goals (dsimp only; omega)
        refine SeqL.k fun _ z=>?_; simp only [List.drop_succ_cons, List.drop_zero, St.put]; refine S.o q.notf (S.e z (EvY.ct (EvY.ret (hR4 _ _ _ (hR2 _ _ _ (hR0 _ _ _ ?_)))))); exact ⟨.inr rfl, fun h => (by cases h), fun _ => trivial⟩
      omega
    omega
  omega
theorem volume1_seq (bs hs : List Bx) (hok : solOK bs hs) : SeqR Tryz.prog 27 [.sadr [.sh 6 (bs.map Bx.c), .sh 6 (hs.map Bx.c)] 0] [] 0 (fun b : Bx => #[bxV b]) (fun l => l = cellsV bs hs) (fun _ => True) (Pfx (cellsV bs hs)) := by
  refine SeqR.of_handS (nt := 6) 2 Tryz.func27 rfl rfl rfl rfl rfl rfl rfl (each_seq bs hs hok) ?_; intro l K hK; simp only [List.take_succ_cons, List.take_zero]; exact S.o (q.lsA _ am_ag24 am_cl24) (S.o q.mv (S.end (hK _ ⟨rfl, rfl, rfl⟩)))
theorem cells_mem {p : Bx → Bool} {X Y Z : List (Int × Int)} {b : Bx} (h : b ∈ cellsX p X Y Z) : ∃ x ∈ X, ∃ y ∈ Y, ∃ z ∈ Z, b = bxOf x y z := by
  unfold cellsX cellsY cellsZ at h
  simp only [List.mem_flatMap, List.mem_filter, List.mem_map] at h; obtain ⟨x, hx, y, hy, ⟨z, hz, e⟩, _⟩ := h; exact ⟨x, hx, y, hy, z, hz, e.symm⟩
theorem CutOK.seg {T pts : List Int} {lo hi : Int} (h : CutOK T pts lo hi) {s : Int × Int} (hs : s ∈ sgs T (T.length - 1)) : s.1 < s.2 ∧ lo ≤ s.1 ∧ s.2 ≤ hi := by
  refine ⟨h.segs.1 s hs, ?_⟩; have h2 := h.atl.2; obtain ⟨i, hi, rfl⟩ := List.mem_map.1 hs; have hi2 := List.mem_range.1 hi; have e1 : T[i]? = some (T[i]'(by omega)) := List.getElem?_eq_getElem _; have e2 : T[i + 1]? = some (T[i + 1]'(by omega)) := List.getElem?_eq_getElem _; rw [e1, e2]; exact ⟨((h.mem _).1 (List.mem_of_getElem? e1)).2.1, ((h.mem _).1 (List.mem_of_getElem? e2)).2.2⟩
theorem cell_bd {bs hs : List Bx} (h : solOK bs hs) {b : Bx} (hb : b ∈ cellsV bs hs) : (-1048576 ≤ b.lx ∧ b.lx < b.hx ∧ b.hx ≤ 1048576) ∧ (-1048576 ≤ b.ly ∧ b.ly < b.hy ∧ b.hy ≤ 1048576) ∧ -1048576 ≤ b.lz ∧ b.lz < b.hz ∧ b.hz ≤ 1048576 := by
  obtain ⟨c1, c2, c3⟩ := cuts_ok h; have g := (hull_ok h).bd; obtain ⟨x, hx, y, hy, z, hz, rfl⟩ := cells_mem hb; have s1 := c1.seg hx; have s2 := c2.seg hy; have s3 := c3.seg hz
  unfold bxOf
  dsimp only
  omega
theorem vol_nn {b : Bx} (h1 : b.lx < b.hx) (h2 : b.ly < b.hy) (h3 : b.lz < b.hz) : 0 ≤ volB b := Int.mul_nonneg (Int.mul_nonneg (by omega) (by omega)) (by omega)
theorem sum_nn : ∀ {l : List Bx}, (∀ b ∈ l, 0 ≤ volB b) → 0 ≤ sumV l
  | [], _ => Int.le_refl _
  | a :: l, h => by
    have h1 := h a (by simp); have h2 := sum_nn (l := l) fun b hb => h b (by simp [hb])
    have e : sumV (a :: l) = volB a + sumV l := by simp [sumV]
    omega
theorem cells_le {bs hs : List Bx} (h : solOK bs hs) : 0 ≤ sumV (cellsV bs hs) ∧ sumV (cellsV bs hs) ≤ 9223372036854775808 := by
  obtain ⟨c1, c2, c3⟩ := cuts_ok h; have g := (hull_ok h).bd; have gl := (hull_ok h).lt; obtain ⟨u1, l1⟩ := c1.segs; obtain ⟨u2, l2⟩ := c2.segs; obtain ⟨u3, l3⟩ := c3.segs; have hs := sumX_le (p := inP bs hs) u2 u3 u1; rw [l1, l2, l3] at hs; have m1 := mul_bd (k := (hullOf bs).hx - (hullOf bs).lx) (a := (hullOf bs).hy - (hullOf bs).ly) (K := 2097152) (A := 2097152) (by omega) (by omega) (by omega) (by omega); have m2 := mul_bd (k := ((hullOf bs).hx - (hullOf bs).lx) * ((hullOf bs).hy - (hullOf bs).ly)) (a := (hullOf bs).hz - (hullOf bs).lz) (K := 4398046511104) (A := 2097152) m1.1 (by have := m1.2; omega) (by omega) (by omega)
  unfold cellsV cellsAll
  omega
theorem pfx_bd {bs hs : List Bx} (h : solOK bs hs) {pre : List Bx} {b : Bx} (hb : Pfx (cellsV bs hs) pre b) : 0 ≤ sumV pre ∧ 0 ≤ volB b ∧ sumV pre + volB b ≤ 9223372036854775808 ∧ b ∈ cellsV bs hs ∧ ∀ x ∈ pre, x ∈ cellsV bs hs := by
  obtain ⟨rest, e⟩ := hb
  have hv : ∀ x ∈ cellsV bs hs, 0 ≤ volB x := fun x hx => by
    obtain ⟨⟨_, g1, _⟩, ⟨_, g2, _⟩, _, g3, _⟩ := cell_bd h hx; exact vol_nn g1 g2 g3
  have h1 := cells_le h
  have m1 : b ∈ cellsV bs hs := by rw [e]; simp
  have m2 : ∀ x ∈ pre, x ∈ cellsV bs hs := fun x hx => by rw [e]; simp [hx]
  have n1 := sum_nn (l := pre) fun x hx => hv x (m2 x hx); have n2 := sum_nn (l := rest) fun x hx => hv x (by rw [e]; simp [hx]); have n3 := hv b m1
  have e2 : sumV (cellsV bs hs) = sumV pre + (volB b + sumV rest) := by
    rw [e, sumV_app]
    simp [sumV]
  exact ⟨n1, n3, by omega, m1, m2⟩
def volE (bs hs : List Bx) : Int := if solOK bs hs then (if sumV (cellsV bs hs) > 1152921504606846976 then 5 else 0) else 1
def volV (bs hs : List Bx) : Int := if volE bs hs = 0 then sumV (cellsV bs hs) else 0
theorem vol_1 {bs hs : List Bx} (h : ¬ solOK bs hs) : volV bs hs = 0 ∧ volE bs hs = 1 := by
  have e : volE bs hs = 1 := if_neg h; exact ⟨if_neg (by omega), e⟩
theorem vol_5 {bs hs : List Bx} (h : solOK bs hs) (h2 : sumV (cellsV bs hs) > 1152921504606846976) : volV bs hs = 0 ∧ volE bs hs = 5 := by
  have e : volE bs hs = 5 := (if_pos h).trans (if_pos h2); exact ⟨if_neg (by omega), e⟩
theorem vol_0 {bs hs : List Bx} (h : solOK bs hs) (h2 : ¬ sumV (cellsV bs hs) > 1152921504606846976) : volV bs hs = sumV (cellsV bs hs) ∧ volE bs hs = 0 := by
  have e : volE bs hs = 0 := (if_pos h).trans (if_neg h2); exact ⟨if_pos e, e⟩
theorem volume_fun (bs hs : List Bx) (hb : bs.length ≤ 140737488355328) (hh : hs.length ≤ 140737488355328) : Fun Tryz.prog 9 [.agg [.sh 6 (bs.map Bx.c), .sh 6 (hs.map Bx.c)]] (Ret (.tup [iL (volV bs hs), iL (volE bs hs)]) []) := by
  refine Fun.ofT (nt := 43) (rs := [.tmp 2, .tmp 3]) Tryz.func9 rfl rfl rfl rfl rfl (EvT.sr fun K hK => S.nn (q.bx _ true) (S.o q.as (S.o q.as (S.e hK (EvT.split (Ev.sr fun K hK => S.o (q.lvA _ am_ag24 am_cl24) (S.c0 (hF := solValid_fun bs hs (by omega) (by omega)) (h := S.o q.not (S.e hK (Ev.cn (fun c1 => ?_) (fun c1 => ?_)))))))))))
  · refine Ev.sr fun K hK => S.o q.as (S.o q.as (S.e hK (Ev.ret (Ev.p2 ?_)))); rw [(vol_1 ‹¬ solOK bs hs›).1, (vol_1 ‹¬ solOK bs hs›).2]
  refine Ev.skip ?_; have hok : solOK bs hs := ‹_›; refine EvT.sr fun K hK => S.nn (q.al am_ze81) (S.e hK (EvT.ofB (EvB.weaken (Wk.frzv 1 [_]) (EvB.sr fun K hK => S.o q.mf (S.e hK (EvB.weaken (WkU [1] [] [(9, .fn (.func 27) [] [.sadr [.sh 6 (bs.map Bx.c), .sh 6 (hs.map Bx.c)] 0]), (4, .adr 0 0 0)] [(0, ⟨false, 81, 1, [[.lit (.int .u64 (sumV []))]], true⟩)] .n (keep_c) (slots_c (h := (slots_c)))) ?_)))))); dsimp only [cA, nA, lC, lN]; refine EvB.rangeA (α := Bx) (enc := bxV) (N := Pfx (cellsV bs hs)) (K := 1) [] (fun pre => [(0, ⟨false, 81, 1, [[.lit (.int .u64 (sumV pre))]], true⟩)]) (fun _ _ => False) (volume1_seq bs hs hok) rfl rfl rfl (by decide) keep_n (h0_app (m := []) rfl) (fun pre r hr => by rcases r with _ | _ | _ | r <;> first | exact ⟨_, rfl⟩ | omega) (stays.c (stays.nil 1) rfl) (by decide) ?_ ?_ ?_
  · intro l0 m0 pre x hlen
    try dsimp only
    obtain ⟨n1, n2, n3, n4, n5⟩ := pfx_bd hok hlen; have n6 := cell_bd hok n4; clear n4 n5; obtain ⟨x1, x2, x3, x4, x5, x6⟩ := x
    unfold volB at n2 n3
    dsimp only at n2 n3 n6
    have n7 := mul_bd (k := x4 - x1) (a := x5 - x2) (K := 2097152) (A := 2097152) (by omega) (by omega) (by omega) (by omega); obtain ⟨n7a, n7b⟩ := n7; refine EvI.weaken (Wk.unlit 10 [.int .i64 x1, .int .i64 x2, .int .i64 x3, .int .i64 x4, .int .i64 x5, .int .i64 x6] rfl) ?_
    try dsimp only [List.map_cons, List.map_nil]
    refine EvI.region_S fun K hK => S.nn (q.al am_ze75) (S.sv _ true [_] am_in75 am_cl75 (h := S.e hK (⟨rfl, rfl, ?_⟩))); refine EvI.block (EvI.region_S fun K hK => S.o (q.lv am_ag81) (S.o (q.fa 3 am_fi75_1 am_cl38) (S.o (q.fa 3 am_fi38_0 am_cl3) (S.o (q.lv am_ag3) (S.o (q.fa 0 am_fi75_0 am_cl38) (S.o (q.fa 0 am_fi38_0 am_cl3) (S.o (q.lv am_ag3) (S.o q.sub (S.o (q.cvu am_un81 am_us3) (S.o (q.fa 3 am_fi75_1 am_cl38) (S.o (q.fa 4 am_fi38_1 am_cl3) (S.o (q.lv am_ag3) (S.o (q.fa 0 am_fi75_0 am_cl38) (S.o (q.fa 1 am_fi38_1 am_cl3) (S.o (q.lv am_ag3) (S.o q.sub (S.o (q.cvu am_un81 am_us3) (S.o qu.mulB (S.o (q.fa 3 am_fi75_1 am_cl38) (S.o (q.fa 5 am_fi38_2 am_cl3) (S.o (q.lv am_ag3) (S.o (q.fa 0 am_fi75_0 am_cl38) (S.o (q.fa 2 am_fi38_2 am_cl3) (S.o (q.lv am_ag3) (S.o q.sub (S.o (q.cvu am_un81 am_us3) (S.o qu.mulB (S.o qu.addB (S.sv _ true [_] am_in81 am_cl81 (h := S.e hK (roundQ_n (QX := fun _ _ => False) [0] (kR_c (he := (by rw [sumV_snoc]; rfl)) (h := kR_n)) (by decide) (by decide) (leadsB rfl))))))))))))))))))))))))))))))))
  · intro pre hS
    try dsimp only
    subst hS; have hcl := cells_le hok; refine Ev.seq (Ev.sr fun K hK => S.o (q.lv am_ag81) (S.o q.gtr (S.e hK (Ev.cd (fun c2 => ?_) (fun c2 => ?_)))))
    · refine Ev.sr fun K hK => S.o q.as (S.o q.as (S.e hK (Ev.ret (Ev.p2 ?_)))); rw [(vol_5 hok ‹_›).1, (vol_5 hok ‹_›).2]
    refine Ev.skip (Ev.sr fun K hK => S.o (q.lv am_ag81) (S.o (q.cvi am_un3 am_us81) (S.o q.as (S.o q.as (S.e hK (Ev.ret (Ev.p2 ?_))))))); rw [(vol_0 hok ‹_›).1, (vol_0 hok ‹_›).2]
  exact fun _ _ _ h => h.elim
def laidX (bars : List Bar) (l : List Rn) (d : Int) : Int := l.foldl (fun a r => if d = 0 ∨ (lineOf bars r.mark).size = d then a + r.n * oneOf (lineOf bars r.mark) else a) 0
theorem laidX_snoc (bars : List Bar) (l : List Rn) (s : Rn) (d : Int) : laidX bars (l ++ [s]) d = if d = 0 ∨ (lineOf bars s.mark).size = d then laidX bars l d + s.n * oneOf (lineOf bars s.mark) else laidX bars l d := by simp [laidX]
theorem laidX_bd {bars : List Bar} (d : Int) : ∀ l : List Rn, runsOK bars l → 0 ≤ laidX bars l d ∧ laidX bars l d ≤ 10343154 * cntS l := by
  refine snoc_ind (fun _ => ⟨Int.le_refl _, Int.le_refl _⟩) ?_; intro l s ih h; obtain ⟨i1, i2⟩ := ih fun r hr => h r (by simp [hr]); obtain ⟨h1, h2⟩ := h s (by simp); obtain ⟨h3, h4, _, _⟩ := barMass_bd h1; rw [laidX_snoc, cnt_snoc]; have h5 := Int.mul_nonneg h2 h3; have h6 := Int.mul_le_mul_of_nonneg_left h4 h2
  split <;> omega
theorem laidX_0 {bars : List Bar} : ∀ l : List Rn, runsOK bars l → laidX bars l 0 = laidT bars l := by
  refine snoc_ind (fun _ => by simp [laidX, laidT, laidAt, laidM, sizes, sumI]) ?_; intro l s ih h; have h1 := ih fun r hr => h r (by simp [hr]); obtain ⟨h2, _⟩ := h s (by simp)
  obtain ⟨_, _, _, _, h5⟩ := at_step (f := laidM bars l) (g := laidM bars (l ++ [s])) h2.2.1 (v := s.n * oneOf (lineOf bars s.mark)) fun d => by
    rw [laidM_snoc]
  rw [laidX_snoc, if_pos (.inl rfl), h1]; exact h5.symm
def frD (n v : Nat) : Int × Int := (((n / Nat.gcd n v : Nat) : Int), ((v / Nat.gcd n v : Nat) : Int))
def shR (x : Det) : (Int × Int) × Int := if detOK x then (if volE x.mem.bs x.mem.hs = 0 then (if volV x.mem.bs x.mem.hs = 0 then ((0, 0), 16) else (frD (laidT x.bars x.runs).toNat (volV x.mem.bs x.mem.hs).toNat, 0)) else ((0, 0), volE x.mem.bs x.mem.hs)) else ((0, 0), 1)
theorem sh_1 {x : Det} (h : ¬ detOK x) : shR x = ((0, 0), 1) := if_neg h
theorem sh_2 {x : Det} (h : detOK x) (h2 : ¬ volE x.mem.bs x.mem.hs = 0) : shR x = ((0, 0), volE x.mem.bs x.mem.hs) := (if_pos h).trans (if_neg h2)
theorem sh_3 {x : Det} (h : detOK x) (h2 : volE x.mem.bs x.mem.hs = 0) (h3 : volV x.mem.bs x.mem.hs = 0) : shR x = ((0, 0), 16) := ((if_pos h).trans (if_pos h2)).trans (if_pos h3)
theorem sh_4 {x : Det} (h : detOK x) (h2 : volE x.mem.bs x.mem.hs = 0) (h3 : ¬ volV x.mem.bs x.mem.hs = 0) : shR x = (frD (laidT x.bars x.runs).toNat (volV x.mem.bs x.mem.hs).toNat, 0) := ((if_pos h).trans (if_pos h2)).trans (if_neg h3)
theorem vol_bd {bs hs : List Bx} (h : solOK bs hs) (h2 : volE bs hs = 0) : 0 ≤ volV bs hs ∧ volV bs hs ≤ 1152921504606846976 := by
  have h1 := cells_le h
  by_cases h3 : sumV (cellsV bs hs) > 1152921504606846976
  · have := (vol_5 h h3).2; omega
  rw [(vol_0 h h3).1]; omega
theorem laidT_bd {bars : List Bar} {runs : List Rn} (h : laidOK bars runs) : 0 ≤ laidT bars runs ∧ laidT bars runs ≤ 20686308000 := by
  have hr := laid_runs h; rw [← laidX_0 runs hr]; have h1 := laidX_bd (bars := bars) 0 runs hr; have h2 := h.2.2.2; omega
theorem share_no (x : Det) (n : Int) (hlf : Fun Tryz.prog 6 [.agg x.c] (Ret (.tup [iL n, iL 1]) [])) : Fun Tryz.prog 8 [.agg x.c] (Ret (.tup [.agg (pairC (0, 0)), iL 1]) []) := by
  refine Fun.of (nt := 37) (rs := [.cell 2 48, .tmp 3]) Tryz.func8 rfl rfl rfl rfl rfl (Ev.sr fun _ z=>S.nn (q.bx _ true) (S.nn (q.al am_ze48) (S.o q.as (S.e z (Ev.sr fun _ z=>S.o (q.lvA _ am_ag34 am_cl34) (S.c0 (hF := hlf) (h := S.o q.mv (S.o q.ex (S.o q.ex (S.o q.as (S.o q.as (S.e z (Ev.seq (Ev.sr fun _ z=>S.o q.mv (S.o q.neq (S.e z (Ev.cn (fun c1 => ?_) (fun c1 => ?_))))))))))))))))))
  · refine Ev.sr fun _ z=>S.o (q.bd _ am_ze48 am_pl48) (S.o q.mv (S.sv _ true [_] am_in48 am_cl48 (h := S.o q.as (S.e z (Ev.ret (Ev.retv2 (res_c [_, _] am_ag48 am_cl48 (res_t res_n)) (⟨?_, rfl⟩))))))); rfl
  omega
theorem share_ok (x : Det) (n v e : Int) (hlf : Fun Tryz.prog 6 [.agg x.c] (Ret (.tup [iL n, iL 0]) [])) (hvf : Fun Tryz.prog 9 [.agg [.sh 6 (x.mem.bs.map Bx.c), .sh 6 (x.mem.hs.map Bx.c)]] (Ret (.tup [iL v, iL e]) []))
    (hvb : e = 0 → 0 ≤ v ∧ v ≤ 1152921504606846976) (hlb : 0 ≤ n ∧ n ≤ 20686308000) {R : (Int × Int) × Int} (s2 : ¬ e = 0 → R = ((0, 0), e)) (s3 : e = 0 → v = 0 → R = ((0, 0), 16)) (s4 : e = 0 → ¬ v = 0 → R = (frD n.toNat v.toNat, 0)) :
    Fun Tryz.prog 8 [.agg x.c] (Ret (.tup [.agg (pairC R.1), iL R.2]) []) := by
  obtain ⟨N, rfl⟩ := Int.eq_ofNat_of_zero_le hlb.1; refine Fun.of (nt := 37) (rs := [.cell 2 48, .tmp 3]) Tryz.func8 rfl rfl rfl rfl rfl (Ev.sr fun _ z=>S.nn (q.bx _ true) (S.nn (q.al am_ze48) (S.o q.as (S.e z (Ev.sr fun _ z=>S.o (q.lvA _ am_ag34 am_cl34) (S.c0 (hF := hlf) (h := S.o q.mv (S.o q.ex (S.o q.ex (S.o q.as (S.o q.as (S.e z (Ev.seq (Ev.sr fun _ z=>S.o q.mv (S.o q.neq (S.e z (Ev.cn (fun c1 => ?_) (fun c1 => ?_))))))))))))))))))
  · omega
  refine Ev.skip (Ev.sr fun _ z=>S.o (q.fa 0 am_fi34_0 am_cl26) (S.o (q.fa 1 am_fi26_1 am_cl24) (S.o (q.lvA _ am_ag24 am_cl24) (S.c0 (hF := hvf) (h := S.o q.mv (S.o q.ex (S.o q.ex (S.o q.as (S.o q.as (S.e z (Ev.seq (Ev.block (Ev.sr fun _ z=>S.o q.mv (S.o q.neq (S.o q.as (S.e z (Ev.cn (fun c2 => ?_) (fun c2 => ?_))))))))))))))))))
  · refine Ev.sr fun _ z=>S.o (q.bd _ am_ze48 am_pl48) (S.o q.mv (S.sv _ true [_] am_in48 am_cl48 (h := S.o q.as (S.e z (Ev.ret (Ev.retv2 (res_c [_, _] am_ag48 am_cl48 (res_t res_n)) (⟨?_, rfl⟩))))))); rw [s2 ‹_›]; rfl
  refine Ev.sr fun _ z=>S.o q.mv (S.o q.eql (S.o q.as (S.e z (Ev.cd (fun c3 => ?_) (fun c3 => ?_)))))
  · refine Ev.sr fun _ z=>S.o (q.bd _ am_ze48 am_pl48) (S.sv _ true [_] am_in48 am_cl48 (h := S.o q.as (S.e z (Ev.ret (Ev.retv2 (res_c [_, _] am_ag48 am_cl48 (res_t res_n)) (⟨?_, rfl⟩)))))); rw [s3 ‹_› ‹_›]; rfl
  refine Ev.skip ?_; obtain ⟨hv0, hv1⟩ := hvb ‹_›; obtain ⟨V, rfl⟩ := Int.eq_ofNat_of_zero_le hv0; refine Ev.sr fun _ z=>S.o q.mv (S.o q.mv (S.c0 (hF := rtMake_fun N V (by omega) (by omega) (by omega)) (h := S.o q.ex (S.o q.ex (S.sv _ true [_] am_in48 am_cl48 (h := S.o q.as (S.e z (Ev.ret (Ev.retv2 (res_c [_, _] am_ag48 am_cl48 (res_t res_n)) (⟨?_, rfl⟩)))))))))); rw [s4 ‹_› ‹_›]; rfl
theorem share_fun (x : Det) (hw : x.w) : Fun Tryz.prog 8 [.agg x.c] (Ret (.tup [.agg (pairC (shR x).1), iL (shR x).2]) []) := by
  have hlf := Laid_fun x hw; have hvf := volume_fun x.mem.bs x.mem.hs hw.1.2.1 hw.1.2.2
  by_cases hd : detOK x
  · have hvb := fun h => vol_bd (bs := x.mem.bs) (hs := x.mem.hs) hd.1.1.2.1 h; have hlb := laidT_bd hd.1.2.1; rw [show detV x (laidT x.bars x.runs) = laidT x.bars x.runs from if_pos hd, show detE x = 0 from if_pos hd] at hlf; have s2 := sh_2 hd; have s3 := sh_3 hd; have s4 := sh_4 hd; clear hd; exact share_ok x _ _ _ hlf hvf hvb hlb s2 s3 s4
  rw [show detE x = 1 from if_neg hd] at hlf; rw [sh_1 hd]; exact share_no x _ hlf
def Det.bare (x : Det) : Det := ⟨x.mem, x.bars, [], [], x.dems, x.rule⟩
def Det.more (x : Det) (r : Rn) : Det := ⟨x.mem, x.bars, x.runs ++ [r], x.laps, x.dems, x.rule⟩
theorem bare_w {x : Det} (h : x.w) : x.bare.w := ⟨h.1, h.2.1, ⟨by show 0 ≤ _; omega, fun r hr => by cases hr⟩, by show 0 ≤ _; omega, h.2.2.2.2⟩
theorem more_w {x : Det} {r : Rn} (h : x.w) (hl : x.runs.length ≤ 1000) (hr : r.mark.length ≤ 140737488355328) : (x.more r).w := by
  refine ⟨h.1, h.2.1, ⟨?_, fun s hs => ?_⟩, h.2.2.2⟩
  · show (x.runs ++ [r]).length ≤ _
    rw [List.length_append, List.length_singleton]; omega
  rcases List.mem_append.1 hs with hs | hs
  · exact h.2.2.1.2 s hs
  rw [List.mem_singleton] at hs; rw [hs]; exact hr
theorem bare_ok {x : Det} (h : detOK x) : detOK x.bare := by
  obtain ⟨⟨h1, h2, h3, h4, h5⟩, h6⟩ := h; exact ⟨⟨h1, ⟨h2.1, by show 0 ≤ 60; omega, fun r hr => (by cases hr), by show (0 : Int) ≤ 2000; omega⟩, h3, h4, by show 0 ≤ 1000; omega⟩, (fun j hj => by cases hj), List.Pairwise.nil⟩
theorem bare_T (bars : List Bar) : laidT bars [] = 0 := by rw [laidT, laidAt_nil]; rfl
theorem sm_copy {x : Det} (h : smDet x) : (x.mem.bs.length ≤ 1000 ∧ x.mem.hs.length ≤ 1000) ∧ x.bars.length ≤ 1000 ∧ (∀ b ∈ x.bars, b.dims.length ≤ 1000000) ∧ x.runs.length ≤ 1000 ∧ x.laps.length ≤ 10000 ∧ x.dems.length ≤ 1000 ∧ ∀ d ∈ x.dems, d.steps.length ≤ 1000 := by
  obtain ⟨_, ⟨h1, h2⟩, ⟨h3, h4, h5, _⟩, h6, h7⟩ := h
  unfold smLen at h1 h2
  refine ⟨⟨by omega, by omega⟩, by omega, fun b hb => ?_, by omega, by omega, ?_, fun d hd => ?_⟩
  · have := (h5 b hb).1; omega
  · have := h6.1; omega
  have := h6.2 d hd; omega
def lineM (x : Det) (r : Rn) : Bar := lineOf x.bars r.mark
theorem more_ok {x : Det} {r : Rn} (h : detOK x) (h2 : detOK (x.more r)) : okSched x.bars ∧ 0 ≤ markI x.bars r.mark ∧ okBar (lineM x r) ∧ (1 ≤ r.n ∧ r.n ≤ 1000) ∧ laidT x.bars (x.runs ++ [r]) = laidT x.bars x.runs + r.n * oneOf (lineM x r) := by
  have hl := h2.1.2.1; have hr : rightP x.bars r := hl.2.2.1 r (by show r ∈ x.runs ++ [r]; simp); have e := laidX_0 (x.runs ++ [r]) (bars := x.bars) (laid_runs hl); rw [laidX_snoc, if_pos (.inl rfl), laidX_0 _ (laid_runs h.1.2.1)] at e; exact ⟨hl.1, hr.1, hl.1.2.1 _ (line_mem hr.1), hr.2.2.1, e.symm⟩
theorem runs_eq {n m : Int} {r : Rn} {b : Bar} (h : m = n + r.n * oneOf b) (hn : 1 ≤ r.n ∧ r.n ≤ 1000) (hb : okBar b) : (m - n) * b.count = barMass b * r.n ∧ (-9223372036854775808 ≤ m - n ∧ m - n ≤ 9223372036854775807) ∧ (-9223372036854775808 ≤ (m - n) * b.count ∧ (m - n) * b.count ≤ 9223372036854775807) ∧ -9223372036854775808 ≤ barMass b * r.n ∧ barMass b * r.n ≤ 9223372036854775807 := by
  obtain ⟨h1, h2, h3, h4⟩ := barMass_bd hb
  have e1 : m - n = r.n * oneOf b := by omega
  have e2 : r.n * oneOf b * b.count = barMass b * r.n := by unfold barMass; ac_rfl
  rw [e1, e2]; have h5 := mul_bd (k := r.n) (a := oneOf b) (K := 1000) (A := 10343154) (by omega) hn.2 h1 h2; have h6 := mul_bd (k := r.n) (a := barMass b) (K := 1000) (A := 1000 * 10343154) (by omega) hn.2 h3 h4; rw [Int.mul_comm] at h6; exact ⟨rfl, by omega, by omega, by omega⟩
theorem sh_ok {x : Det} (hd : detOK x) (h : (shR x).2 = 0) : ∃ V : Nat, volE x.mem.bs x.mem.hs = 0 ∧ volV x.mem.bs x.mem.hs = (V : Int) ∧ 0 < V ∧ V ≤ 1152921504606846976 ∧ shR x = (frD (laidT x.bars x.runs).toNat V, 0) := by
  by_cases h1 : volE x.mem.bs x.mem.hs = 0
  · by_cases h2 : volV x.mem.bs x.mem.hs = 0
    · rw [sh_3 hd h1 h2] at h
      cases h
    obtain ⟨h3, h4⟩ := vol_bd hd.1.1.2.1 h1; obtain ⟨V, hV⟩ := Int.eq_ofNat_of_zero_le h3; refine ⟨V, h1, hV, by omega, by omega, ?_⟩; rw [sh_4 hd h1 h2, hV]; rfl
  rw [sh_2 hd h1] at h; exact absurd h h1
theorem equalStep_fun (a b : List (Int × Int)) (ha : a.length ≤ 140737488355328) (hb : b.length ≤ 140737488355328) : Fun Tryz.prog 16 [.sh 2 (a.map pairC), .sh 2 (b.map pairC)] (Ret (bL (decide (a = b))) []) := by
  refine Fun.of (nt := 26) (rs := [.tmp 4]) Tryz.func16 rfl rfl rfl rfl rfl (Ev.sr fun _ k=>S.o q.as (S.e k (Ev.seq (Ev.sr fun _ k=>S.o q.mv (S.o (q.lens am_el60) (S.o q.mv (S.o (q.lens am_el60) (S.o q.neq (S.e k (Ev.cn (fun c1 => ?_) (fun c1 => ?_)))))))))))
  · refine Ev.sr fun _ k=>S.o q.as (S.e k (Ev.ret (Ev.p1 ?_))); exact bF (fun h => by subst h; omega)
  refine Ev.skip (Ev.seq (Ev.sr fun _ k=>S.o q.mv (S.o (q.lens am_el60) (S.o q.mv (S.e k (Ev.block (Ev.loopU (ι := {q : List (Int × Int) × List (Int × Int) // q.1 ++ q.2 = a ∧ b.take q.1.length = q.1}) [] [0, 1, 12] (fun ⟨(pre, suf), _⟩ => [(13, iL (pre.length : Int))]) (fun ⟨(pre, suf), _⟩ => []) (fun ⟨(pre, suf), _⟩ => suf.length) ⟨([], a), rfl, rfl⟩ (.c (.c (.c .n))) keep_n (slots_c) ?_))))))); rintro ⟨⟨pre, suf⟩, hp, hinv⟩ R0 hR0; dsimp only [cA, nA, lC, lN]
  simp only at hp hinv
  have hpl := lenA hp
  rcases suf with _ | ⟨s, suf⟩
  · rw [List.append_nil] at hp; subst hp; simp only [List.length_nil] at hpl; refine Ev.sr fun _ k=>S.o q.lss (S.e k (Ev.ud (fun c2 => ?_) (fun c2 => ?_)))
    · omega
    refine Ev.exit (hR0 _ _ (Ev.sr fun _ k=>S.o q.as (S.e k (Ev.ret (Ev.p1 ?_))))); exact bT (hinv.symm.trans (List.take_of_length_le (by omega)))
  simp only [lC] at hpl; have hidx := getA hp; obtain ⟨s2, hidx2⟩ : ∃ s2, b[pre.length]? = some s2 := ⟨_, List.getElem?_eq_getElem (by omega)⟩; refine Ev.sr fun _ k=>S.o q.lss (S.e k (Ev.ud (fun c4 => ?_) (fun c4 => ?_)))
  · refine Ev.seq (Ev.block (Ev.sr fun _ k=>S.o q.mv (S.o q.as (S.e k (Ev.sm (tbs [(0, 0), (0, 0), (2, 3), (3, 7), (0, 0), (0, 0), (6, 48), (7, 112), (8, 255)]) 9 fun _ k=>M.o q.mv (M.o q.mv (M.o (q.ix am_el60 am_cl67 (hl := (by exact ati hidx (by omega)))) (M.o (q.lsA _ am_ag67 am_cl67) (M.o q.mv (M.o q.mv (M.o (q.ix am_el60 am_cl67 (hl := (by exact ati hidx2 (by omega)))) (M.o (q.lsA _ am_ag67 am_cl67) (M.o (q.sneq am_eq67 (am_sq67 _ _ _ _)) (M.end [] (h := S.e k (Ev.c (fun c5 => ?_) (fun c5 => ?_)))))))))))))))))
    · refine Ev.sr fun _ k=>S.o q.as (S.e k (Ev.ret (hR0 _ _ (Ev.p1 ?_)))); exact bF (fun h => by subst h; rw [hidx] at hidx2; cases hidx2; simp at *)
    refine Ev.skip (Ev.region_S fun _ k=>S.o q.add (S.o q.mv (S.e k (hR0 _ _ (roundU [] [0, 1, 12] ⟨(pre ++ [s], suf), sucA hp, ?_⟩ muL keep_n (slots_c (he := (by simp))) (.c (.c (.c .n)))))))); simp only [List.length_append, List.length_cons, List.length_nil, Nat.zero_add]; rw [List.take_add_one, hinv, hidx2]
    simp at *
    obtain ⟨x1, x2⟩ := s; obtain ⟨y1, y2⟩ := s2
    simp_all
  omega
def demoL : List Bar := [⟨[98], 16, 1, 0, [1000]⟩, ⟨[97], 12, 2, 0, [1000]⟩]
theorem example_fun : Fun Tryz.prog 14 [] (Ret (.sh 5 (demoL.map Bar.c)) []) := by
  refine Fun.of (nt := 6) (rs := [.tmp 0]) Tryz.func14 rfl rfl rfl rfl rfl (Ev.sr fun _ k=>S.o q.as (S.e k (Ev.sr fun _ k=>S.nn (q.bs [[_]] true am_el56 am_ze3 am_cl3) (SeqL.weaken (Wk.frzl (f := intC) [_] 1 []) (S.o (q.bd _ am_ze58 am_pl58) (S.nn (q.bs [[_]] true am_el56 am_ze3 am_cl3) (SeqL.weaken (Wk.frzl (f := intC) [_] 3 []) (S.o (q.bd _ am_ze58 am_pl58) (S.nn (q.bs [[_, _, _, _, _], [_, _, _, _, _]] true am_el27 am_ze58 am_cl58) (S.o q.as (S.e k (Ev.weaken (Wk.frzl (f := Bar.c) [(⟨_, _, _, _, _⟩ : Bar), (⟨_, _, _, _, _⟩ : Bar)] 0 []) (Ev.ret (Ev.p1 ?_)))))))))))))); rfl
theorem demo_w : schedW demoL := by
  intro b hb; simp only [demoL, List.mem_cons, List.not_mem_nil, or_false] at hb
  rcases hb with rfl | rfl <;> exact ⟨by decide, by decide⟩
theorem demo_masses : Fun Tryz.prog 13 [.sh 5 (demoL.map Bar.c)] (Ret (.tup [.sh 2 (([(12, 1776), (16, 1578)] : List (Int × Int)).map pairC), iL 0]) []) := by
  have h := Masses_fun demoL (by decide) demo_w
  rwa [show massesV demoL = [(12, 1776), (16, 1578)] by decide +kernel, show schedE demoL = 0 by decide +kernel] at h
theorem demo_total : Fun Tryz.prog 15 [.sh 5 (demoL.map Bar.c)] (Ret (.tup [iL 3354, iL 0]) []) := by
  have h := Total_fun demoL (by decide) demo_w
  rwa [show totV demoL = 3354 by decide +kernel, show schedE demoL = 0 by decide +kernel] at h
theorem awake_fun : Fun Tryz.prog 4 [] (Ret (bL true) []) := by
  refine Fun.of (nt := 32) (rs := [.tmp 0]) Tryz.func4 rfl rfl rfl rfl rfl (Ev.sr fun _ k=>S.o q.as (S.e k (Ev.sr fun _ k=>S.c0 (hF := example_fun) (h := S.c0 (hF := demo_masses) (h := S.o q.mv (S.o q.ex (S.o q.ex (S.o q.as (S.o q.as (S.e k (Ev.sr fun _ k=>S.c0 (hF := example_fun) (h := S.c0 (hF := demo_total) (h := S.o q.mv (S.o q.ex (S.o q.ex (S.o q.as (S.o q.as (S.e k (Ev.sr fun _ k=>S.o q.mv (S.o q.eql (S.bd q.mv (fun c1 => ?_) (fun c1 => ?_))))))))))))))))))))))
  · refine S.o q.mv (S.o (q.bd _ am_ze67 am_pl67) (S.o (q.bd _ am_ze67 am_pl67) (S.nn (q.bs [[_, _], [_, _]] true am_el60 am_ze67 am_cl67) (S.c0 (hF := equalStep_fun _ [(12, 1776), (16, 1578)] (by decide) (by decide)) (h := S.o q.pt (S.bd q.mv (fun c2 => ?_) (fun c2 => ?_)))))))
    · refine S.o q.mv (S.o q.eql (S.o q.pt (S.bd q.mv (fun c3 => ?_) (fun c3 => ?_))))
      · refine S.o q.mv (S.o q.eql (S.o q.pt (S.o q.as (S.e k (Ev.ret (Ev.p1 ?_)))))); rfl
      omega
    contradiction
  omega
end Go.Proofs.YtlpgjlnkfgacbaaGreat
