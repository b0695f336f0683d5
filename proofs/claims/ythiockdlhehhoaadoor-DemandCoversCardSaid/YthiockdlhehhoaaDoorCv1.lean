/-
  The envelope is nowhere less than a demand in it: plain laws.
  Conditions: none.
-/
import Derived.Test.YthiockdlhehhoaaDoorEn1
import Derived.Test.YthiockdlhehhoaaDoorEn2
import Derived.Test.YthiockdlhehhoaaDoorAmRound
import Derived.Test.YthiockdlhehhoaaDoorAmTwo
import Derived.Test.YthiockdlhehhoaaDoorAmSet
import Derived.Test.YthiockdlhehhoaaDoorAmArr
import Derived.Test.YthiockdlhehhoaaDoorDm8
namespace Go.Proofs.YthiockdlhehhoaaDoor
open Go Go.AM
set_option linter.unusedSimpArgs false
set_option linter.unusedVariables false
set_option maxRecDepth 100000
set_option maxHeartbeats 1000000
/-! The places of two lists, each once, ascending. -/
def nextX : List (Int × Int) → List (Int × Int) → Int
  | [], [] => 0
  | [], q :: _ => q.1
  | p :: _, [] => p.1
  | p :: _, q :: _ => min p.1 q.1
def dropX (x : Int) : List (Int × Int) → List (Int × Int)
  | [] => []
  | s :: l => if s.1 = x then l else s :: l
def Brk : List (Int × Int) → List (Int × Int) → List Int → Prop
  | a, b, [] => a = [] ∧ b = []
  | a, b, x :: xs => ¬ (a = [] ∧ b = []) ∧ x = nextX a b ∧ Brk (dropX x a) (dropX x b) xs
def hd0 (l : List (Int × Int)) : Int × Int := l.headD (0, 0)
theorem hd_get {l : List (Int × Int)} (h : 0 < l.length) : l[0]? = some (hd0 l) := by
  cases l with
  | nil => simp at h
  | cons s l => rfl
theorem nx_m {a b : List (Int × Int)} {p q : Int × Int} (h : a[0]? = some p) (h' : b[0]? = some q) : min p.1 q.1 = nextX a b := by
  cases a <;> cases b <;> simp_all [nextX]
theorem nx_a {a b : List (Int × Int)} {p : Int × Int} (h : b.length = 0) (h' : a[0]? = some p) : p.1 = nextX a b := by
  rw [List.eq_nil_of_length_eq_zero h]
  cases a <;> simp_all [nextX]
theorem nx_b {a b : List (Int × Int)} {p : Int × Int} (h : a.length = 0) (h' : b[0]? = some p) : p.1 = nextX a b := by
  rw [List.eq_nil_of_length_eq_zero h]
  cases b <;> simp_all [nextX]
theorem dx_n {x : Int} {l : List (Int × Int)} (h : l.length = 0) : dropX x l = l := by
  rw [List.eq_nil_of_length_eq_zero h]; rfl
theorem dx_t {x : Int} {l : List (Int × Int)} {p : Int × Int} (h : l[0]? = some p) (e : p.1 = x) : dropX x l = l.drop 1 := by
  cases l with
  | nil => simp at h
  | cons s l => simp only [List.length_cons, List.getElem?_cons_zero, Option.some.injEq] at h; subst h; rw [dropX, if_pos e]; rfl
theorem dx_f {x : Int} {l : List (Int × Int)} {p : Int × Int} (h : l[0]? = some p) (e : ¬ p.1 = x) : dropX x l = l := by
  cases l with
  | nil => simp at h
  | cons s l => simp only [List.length_cons, List.getElem?_cons_zero, Option.some.injEq] at h; subst h; rw [dropX, if_neg e]
theorem dx_len (x : Int) (l : List (Int × Int)) : (dropX x l).length ≤ l.length := by
  cases l with
  | nil => exact Nat.le_refl _
  | cons s l => rw [dropX]; split <;> simp
theorem dx_lt {x : Int} {a b : List (Int × Int)} (h : 0 < a.length + b.length) (e : x = nextX a b) : (dropX x a).length + (dropX x b).length < a.length + b.length := by
  have h1 := dx_len x a
  have h2 := dx_len x b
  rcases a with _ | ⟨p, a⟩ <;> rcases b with _ | ⟨q, b⟩
  · simp at h
  · rw [nextX] at e; rw [e]; simp [dropX]
  · rw [nextX] at e; rw [e]; simp [dropX]
  · rw [nextX] at e
    rcases Int.le_total p.1 q.1 with h3 | h3
    · have : dropX x (p :: a) = a := by rw [dropX, if_pos (by omega)]
      rw [this] at h1 ⊢
      simp only [List.length_cons] at *
      omega
    · have : dropX x (q :: b) = b := by rw [dropX, if_pos (by omega)]
      rw [this] at h2 ⊢
      simp only [List.length_cons] at *
      omega
theorem brk_step {a b a' b' : List (Int × Int)} {pre : List Int} {x : Int} (hinv : (∀ xs, Brk a' b' xs → Brk a b (pre ++ xs)) ∧ pre.length + a'.length + b'.length ≤ a.length + b.length) (h : 0 < a'.length + b'.length) (e : x = nextX a' b') :
    (∀ xs, Brk (dropX x a') (dropX x b') xs → Brk a b (pre ++ [x] ++ xs)) ∧ (pre ++ [x]).length + (dropX x a').length + (dropX x b').length ≤ a.length + b.length := by
  refine ⟨fun xs hx => ?_, ?_⟩
  · rw [List.append_assoc]
    refine hinv.1 _ ⟨fun hn => ?_, e, hx⟩
    rw [hn.1, hn.2] at h
    simp at h
  · have := dx_lt h e
    rw [List.length_append, List.length_singleton]
    omega
/-! Short steps. -/
def shortG : Int → List (Int × Int) → List (Int × Int)
  | _, [] => []
  | v, s :: l => if s.2 = v then shortG v l else s :: shortG s.2 l
theorem shortG_len : ∀ (l : List (Int × Int)) (v : Int), (shortG v l).length ≤ l.length
  | [], _ => Nat.le_refl _
  | s :: l, v => by
    rw [shortG]
    split
    · have := shortG_len l v; simp only [List.length_cons]; omega
    · have := shortG_len l s.2; simp only [List.length_cons]; omega
theorem shortG_sub : ∀ (l : List (Int × Int)) (v : Int), (shortG v l).Sublist l
  | [], _ => List.Sublist.refl _
  | s :: l, v => by
    rw [shortG]
    split
    · exact (shortG_sub l v).cons _
    · exact (shortG_sub l s.2).cons_cons _
def lastV (pre : List (Int × Int)) : Int := ((pre.getLast?).map (·.2)).getD 0
theorem lastV_snoc (pre : List (Int × Int)) (s : Int × Int) : lastV (pre ++ [s]) = s.2 := by simp [lastV]
theorem shortG_app : ∀ (l m : List (Int × Int)) (v : Int), shortG v (l ++ m) = shortG v l ++ shortG (((l.getLast?).map (·.2)).getD v) m
  | [], m, v => by simp [shortG]
  | s :: l, m, v => by
    have e : ((((s :: l).getLast?).map (·.2)).getD v) = (((l.getLast?).map (·.2)).getD s.2) := by
      rcases l with _ | ⟨t, l⟩
      · rfl
      · rw [List.getLast?_cons_cons]
        cases h : (t :: l).getLast? with
        | none => simp at h
        | some z => rfl
    rw [List.cons_append, shortG, shortG, e]
    split
    · rename_i h
      rw [shortG_app l m v, h]
    · rw [shortG_app l m s.2]; rfl
theorem short_snoc_t {pre : List (Int × Int)} {s : Int × Int} (h : ¬ s.2 = lastV pre) : shortG 0 (pre ++ [s]) = shortG 0 pre ++ [s] := by
  rw [shortG_app]
  unfold lastV at h
  rw [shortG, if_neg h, shortG]
theorem short_snoc_f {pre : List (Int × Int)} {s : Int × Int} (h : s.2 = lastV pre) : shortG 0 (pre ++ [s]) = shortG 0 pre := by
  rw [shortG_app]
  unfold lastV at h
  rw [shortG, if_pos h, shortG, List.append_nil]

theorem topL_mono0 : ∀ (m : List Dem) (y : Int), 0 ≤ topL m y := by
  refine snoc_ind (fun y => by simp [topL]) ?_
  intro m d ih y
  have := ih y
  rw [topL_snoc]
  omega

theorem shortG_idem : ∀ (l : List (Int × Int)) (v : Int), shortG v (shortG v l) = shortG v l
  | [], _ => rfl
  | s :: l, v => by
    rw [shortG]
    split
    · exact shortG_idem l v
    · rename_i h
      rw [shortG, if_neg h, shortG_idem l s.2]
theorem shortG_map (f : Int → Int) : ∀ (xs : List Int) (v : Int), shortG v (xs.map fun x => (x, f x)) = envL f v xs
  | [], _ => rfl
  | x :: xs, v => by
    rw [List.map_cons, shortG, envL]
    by_cases h : f x = v
    · rw [if_pos h, if_pos h, shortG_map f xs v, List.nil_append, h]
    · rw [if_neg h, if_neg h, shortG_map f xs (f x)]; rfl
theorem env_short (f : Int → Int) (xs : List Int) : shortG 0 (envL f 0 xs) = envL f 0 xs := by rw [← shortG_map, shortG_idem]
theorem shortG_at (y : Int) : ∀ (l : List (Int × Int)) (v : Int), l.Pairwise (fun p q => p.1 < q.1) → atF v (shortG v l) y = atF v l y
  | [], _, _ => rfl
  | s :: l, v, h => by
    have h1 := List.pairwise_cons.1 h
    rw [shortG, atF]
    split
    · rename_i e
      rw [shortG_at y l v h1.2]
      split
      · rw [e]
      · rfl
    · rw [atF]
      split
      · exact shortG_at y l s.2 h1.2
      · rename_i hy
        rw [atF_or' y l v fun t ht => by have := h1.1 t ht; omega, atF_or' y _ v fun t ht => by have := h1.1 t ((shortG_sub l s.2).subset ht); omega]
/-- A function that changes at some places alone, told at these. -/
theorem at_map {f : Int → Int} {P : List Int} {y : Int} (h0 : (∀ z ∈ P, y < z) → f y = 0) (h1 : ∀ x, x ≤ y → (∀ z ∈ P, ¬ (x < z ∧ z ≤ y)) → f y = f x) :
    ∀ Q : List Int, asc Q → (∀ z ∈ P, z ≤ y → z ∈ Q) → atF 0 (Q.map fun x => (x, f x)) y = f y := by
  refine snoc_ind (fun _ h => ?_) ?_
  · refine (h0 fun z hz => ?_).symm
    rcases Int.lt_or_le y z with h2 | h2
    · exact h2
    · exact absurd (h z hz h2) (by simp)
  · intro Q x ih ha h
    have ha2 := List.pairwise_append.1 ha
    rw [List.map_append, List.map_singleton, atF_snoc]
    by_cases hxy : x ≤ y
    · rw [if_pos hxy]
      refine (h1 x hxy fun z hz hzz => ?_).symm
      rcases List.mem_append.1 (h z hz hzz.2) with h3 | h3
      · have := ha2.2.2 z h3 x (by simp); omega
      · have := List.mem_singleton.1 h3; omega
    · rw [if_neg hxy]
      refine ih ha2.1 fun z hz hzy => ?_
      rcases List.mem_append.1 (h z hz hzy) with h3 | h3
      · exact h3
      · have := List.mem_singleton.1 h3; omega
theorem topL_at (m : List Dem) (y : Int) : atF 0 ((plc m).map fun x => (x, topL m x)) y = topL m y := by
  obtain ⟨a1, a2⟩ := plc_spec m
  refine at_map (P := plc m) (fun h => topL_zero m fun d hd => atF_or' y _ _ fun s hs => h _ ((a2 _).2 (mem_froms.2 ⟨d, hd, s, hs, rfl⟩))) (fun x hxy h => topL_same m fun d hd => atF_same hxy _ _ fun s hs => h _ ((a2 _).2 (mem_froms.2 ⟨d, hd, s, hs, rfl⟩))) (plc m) a1 fun z hz _ => hz
theorem env_pw (m : List Dem) : ((plc m).map fun x => (x, topL m x)).Pairwise fun p q => p.1 < q.1 := by
  rw [List.pairwise_map]
  exact (plc_spec m).1
theorem env_at (l : List Dem) (z : Bx) (y : Int) : atF 0 (envR l z) y = topV l z y := by
  have h := shortG_at y _ 0 (env_pw (inL l z))
  rw [shortG_map, topL_at] at h
  exact h
theorem env_steps {l : List Dem} {z : Bx} (h : okDems l) (h2 : (envR l z).length ≤ 200) : okSteps (envR l z) := by
  have hs : (envR l z).Sublist ((plc (inL l z)).map fun x => (x, topL (inL l z) x)) := by
    have := shortG_sub ((plc (inL l z)).map fun x => (x, topL (inL l z) x)) 0
    rwa [shortG_map] at this
  refine ⟨h2, fun s hss => ?_, (env_pw _).sublist hs⟩
  obtain ⟨x, hx, rfl⟩ := List.mem_map.1 (hs.subset hss)
  have hd := okTop (z := z) h
  have h3 := topL_bd x (inL l z) hd
  obtain ⟨d, hdm, s, hsm, e⟩ := mem_froms.1 (((plc_spec (inL l z)).2 x).1 hx)
  have h4 := ((hd d hdm).2.2.2.1 s hsm).1
  rw [e] at h4
  exact ⟨h4, h3⟩
theorem topL_mem (y : Int) : ∀ m : List Dem, (∀ d ∈ m, atF 0 d.steps y ≤ topL m y) ∧ (topL m y = 0 ∨ ∃ d ∈ m, atF 0 d.steps y = topL m y) := by
  refine snoc_ind ⟨fun d hd => (by cases hd), .inl rfl⟩ ?_
  intro m d ih
  rw [topL_snoc]
  refine ⟨fun e he => ?_, ?_⟩
  · rcases List.mem_append.1 he with he | he
    · have := ih.1 e he; omega
    · rw [List.mem_singleton] at he; subst he; omega
  · rcases Int.le_total (topL m y) (atF 0 d.steps y) with h | h
    · exact .inr ⟨d, by simp, by omega⟩
    · rcases ih.2 with h2 | ⟨e, he, h2⟩
      · exact .inl (by have := topL_mono0 m y; omega)
      · exact .inr ⟨e, by simp [he], by omega⟩
theorem topV_ge {l : List Dem} {z : Bx} {y : Int} {d : Dem} (hd : d ∈ l) (hi : inB d.zone z) : atF 0 d.steps y ≤ topV l z y := (topL_mem y _).1 d (List.mem_filter.2 ⟨hd, decide_eq_true hi⟩)
theorem topV_some (l : List Dem) (z : Bx) (y : Int) : topV l z y = 0 ∨ ∃ d ∈ l, inB d.zone z ∧ atF 0 d.steps y = topV l z y := by
  rcases (topL_mem y (inL l z)).2 with h | ⟨d, hd, h⟩
  · exact .inl h
  · obtain ⟨h1, h2⟩ := List.mem_filter.1 hd
    exact .inr ⟨d, h1, of_decide_eq_true h2, h⟩
def wideB (z : Bx) (k : Int) : Bx := ⟨z.lx, max (-1048576) (z.ly - k), max (-1048576) (z.lz - k), z.hx, min 1048576 (z.hy + k), min 1048576 (z.hz + k)⟩
theorem wide_ok {z : Bx} {k : Int} (h : okBx z) (hk : 0 ≤ k ∧ k ≤ 255) : okBx (wideB z k) ∧ ∀ a : Bx, okBx a → inB a z → inB a (wideB z k) := by
  unfold okBx at h
  refine ⟨?_, fun a ha hi => ?_⟩
  · unfold okBx wideB
    refine ⟨h.1, ⟨?_, ?_, ?_⟩, ?_, ?_, ?_⟩ <;> dsimp only <;> omega
  · unfold inB at hi ⊢
    unfold wideB
    refine ⟨⟨?_, ?_⟩, ?_, ?_⟩ <;> dsimp only <;> omega
theorem cov_ge {l : List Dem} {z : Bx} {k : Int} (hok : okDems l) (h : okBx z) (hk : 0 ≤ k ∧ k ≤ 255) (y : Int) : atF 0 (envR l z) y ≤ atF 0 (envR l (wideB z k)) y := by
  rw [env_at, env_at]
  rcases topV_some l z y with h1 | ⟨d, hd, hi, h1⟩
  · rw [h1]; exact topL_mono0 _ y
  · rw [← h1]; exact topV_ge hd ((wide_ok h hk).2 _ (hok.2.1 d hd).2.1 hi)
theorem env_bad {l : List Dem} {z : Bx} (h : okDems l ∧ okBx z) (h2 : ¬ envE l z = 0) : envV l z = [] ∧ envE l z = 4 := by
  by_cases h3 : (envR l z).length ≤ 200
  · exact absurd (env_ok h h3).2 h2
  · exact env_full h h3
theorem env_good {l : List Dem} {z : Bx} (h : okDems l ∧ okBx z) (h2 : envE l z = 0) : envV l z = envR l z ∧ okSteps (envR l z) := by
  by_cases h3 : (envR l z).length ≤ 200
  · exact ⟨(env_ok h h3).1, env_steps h.1 h3⟩
  · have := (env_full h h3).2; omega

end Go.Proofs.YthiockdlhehhoaaDoor
namespace Go.Proofs.YthiockdlhehhoaaDoor
open Go Go.AM
set_option linter.unusedSimpArgs false
set_option linter.unusedVariables false
set_option maxRecDepth 100000
set_option maxHeartbeats 1000000
theorem short_fun (l : List (Int × Int)) (hlen : l.length ≤ 1000000) : Fun Tryd.prog 32 [.sh 2 (l.map pairC)] (Ret (.sh 2 ((shortG 0 l).map pairC)) []) := by
  have hsl := shortG_len
  refine Fun.of (nt := 25) (rs := [.tmp 2]) Tryd.func32 rfl rfl rfl rfl rfl ?_
  refine Ev.sr fun K hK => S.o q.as (S.end (hK _ ?_))
  clear hK K
  refine Ev.sr fun K hK => S.o q.as (S.end (hK _ ?_))
  clear hK K
  refine Ev.sr fun K hK => S.o q.as (S.end (hK _ ?_))
  clear hK K
  refine Ev.seq ?_
  refine Ev.sr fun K hK => S.o q.mv (S.o (q.lens am_el31) (S.o q.mv (S.end (hK _ ?_))))
  clear hK K
  refine Ev.block ?_
  refine Ev.weaken (Wk.nown pairC 3 40 2) ?_
  refine Ev.loopU (ι := {p : List (Int × Int) × List (Int × Int) // p.1 ++ p.2 = l ∧ True}) [0] [2, 7, 8] (fun ⟨(pre, suf), _⟩ => [(9, .lit (.int .i64 ((pre.length : Int)))), (4, .lit (.int .i64 (lastV pre))), (3, .als 0 0 (shortG 0 pre).length)]) (fun ⟨(pre, suf), _⟩ => [(0, ⟨true, 40, 2, (shortG 0 pre).map pairC, true⟩)]) (fun ⟨(pre, suf), _⟩ => suf.length) ⟨([], l), rfl, trivial⟩ (.c (.c (.c .n))) (keep_c (he := (by first | rfl | (rw [short_snoc_t (by assumption), List.map_append] <;> rfl) | (rw [short_snoc_f (by assumption)]; done) | (simp; done))) (h := keep_n)) (slots_c (he := (by first | rfl | (rw [lastV_snoc]; done) | (rw [short_snoc_t (by assumption), List.length_append] <;> rfl) | (rw [short_snoc_f (by assumption)]; done) | (simp; done) | (congr 2; omega))) (h := (slots_c (he := (by first | rfl | (rw [lastV_snoc]; done) | (rw [short_snoc_t (by assumption), List.length_append] <;> rfl) | (rw [short_snoc_f (by assumption)]; done) | (simp; done) | (congr 2; omega))) (h := (slots_c (he := (by first | rfl | (rw [lastV_snoc]; done) | (rw [short_snoc_t (by assumption), List.length_append] <;> rfl) | (rw [short_snoc_f (by assumption)]; done) | (simp; done) | (congr 2; omega))) (h := trivial)))))) ?_
  rintro ⟨⟨pre, suf⟩, hp, hinv⟩ R0 hR0
  dsimp only [List.cons_append, List.nil_append, List.length_cons, List.length_nil]
  simp only at hp hinv
  have hpl : pre.length + suf.length = (l).length := by rw [← hp, List.length_append]
  rcases suf with _ | ⟨s, suf⟩
  · rw [List.append_nil] at hp; simp only [List.length_nil] at hpl
    refine Ev.sr fun K hK => S.o q.lss (S.end (hK _ ?_))
    clear hK K
    refine Ev.ud (fun c1 => ?_) (fun c1 => ?_)
    · first | omega | contradiction | (exfalso; simp at *; done)
    · first
    | (first | omega | contradiction)
    | refine Ev.exit ?_
      refine hR0 _ _ ?_
      show Ev _ _ _ _
      refine Ev.sr fun K hK => S.o q.mv (S.o q.as (S.end (hK _ ?_)))
      clear hK K
      refine Ev.weaken (Wk.frz 2 []) ?_
      refine Ev.ret ?_
      refine Ev.ret1 ?_
      refine ⟨?_, rfl⟩
      (rw [← hp]; done)
  · simp only [List.length_cons] at hpl
    have hidx : l[pre.length]? = some s := by rw [← hp]; simp
    obtain ⟨sx, sy⟩ := s
    have hpq := hsl pre 0
    refine Ev.sr fun K hK => S.o q.lss (S.end (hK _ ?_))
    clear hK K
    refine Ev.ud (fun c2 => ?_) (fun c2 => ?_)
    · first
    | (first | omega | contradiction)
    | refine Ev.seq ?_
      refine Ev.block ?_
      refine Ev.sr fun K hK => S.o (q.ix am_el31 am_cl40 (hl := (by first | exact ati hidx (by omega) | exact atig (by omega)))) (S.o (q.lsA [_, _] am_ag40 am_cl40) (S.nn (q.al am_ze40) (S.sv [_, _] true [_] am_in40 am_cl40 (h := S.end (hK _ ?_)))))
      clear hK K
      refine Ev.seq ?_
      refine Ev.sr fun K hK => S.o (q.fa 1 am_fi40_1 am_cl3) (S.o (q.lv am_ag3) (S.o q.mv (S.o q.neq (S.end (hK _ ?_)))))
      clear hK K
      refine Ev.cn (fun c3 => ?_) (fun c3 => ?_)
      · first
      | (first | omega | contradiction)
      | refine Ev.region_S fun K hK => S.o q.mv (S.o (q.lvA [_, _] am_ag40 am_cl40) (S.nn (q.bs [[_, _]] true am_el31 am_ze40 am_cl40) (S.ap' [_, _] am_el31 am_ze40 am_cl40 am_by40 (hh := head_own') (hr := (rows_lit [(⟨_, _⟩ : Int × Int)])) (h := S.o q.as (S.end (hK _ ?_))))))
        clear hK K
        show Ev _ _ _ _
        refine Ev.region_S fun K hK => S.o (q.fa 1 am_fi40_1 am_cl3) (S.o (q.lv am_ag3) (S.o q.as (S.end (hK _ ?_))))
        clear hK K
        show Ev _ _ _ _
        refine Ev.region_S fun K hK => S.o q.add (S.o q.mv (S.end (hK _ ?_)))
        clear hK K
        refine hR0 _ _ ?_
        refine roundU [3] [2, 7, 8] ⟨(pre ++ [(sx, sy)], suf), by rw [← hp]; simp, ?_⟩ ?_ (keep_c (he := (by first | rfl | (rw [short_snoc_t (by assumption), List.map_append] <;> rfl) | (rw [short_snoc_f (by assumption)]; done) | (simp; done))) (h := keep_n)) (slots_c (he := (by first | rfl | (rw [lastV_snoc]; done) | (rw [short_snoc_t (by assumption), List.length_append] <;> rfl) | (rw [short_snoc_f (by assumption)]; done) | (simp; done) | (congr 2; omega))) (h := (slots_c (he := (by first | rfl | (rw [lastV_snoc]; done) | (rw [short_snoc_t (by assumption), List.length_append] <;> rfl) | (rw [short_snoc_f (by assumption)]; done) | (simp; done) | (congr 2; omega))) (h := (slots_c (he := (by first | rfl | (rw [lastV_snoc]; done) | (rw [short_snoc_t (by assumption), List.length_append] <;> rfl) | (rw [short_snoc_f (by assumption)]; done) | (simp; done) | (congr 2; omega))) (h := trivial)))))) (.c (.c (.c .n)))
        trivial
        all_goals (dsimp only; simp only [List.length_cons]; omega)
      · first
      | (first | omega | contradiction)
      | refine Ev.skip ?_
        show Ev _ _ _ _
        refine Ev.region_S fun K hK => S.o (q.fa 1 am_fi40_1 am_cl3) (S.o (q.lv am_ag3) (S.o q.as (S.end (hK _ ?_))))
        clear hK K
        show Ev _ _ _ _
        refine Ev.region_S fun K hK => S.o q.add (S.o q.mv (S.end (hK _ ?_)))
        clear hK K
        refine hR0 _ _ ?_
        refine roundU [0] [2, 7, 8] ⟨(pre ++ [(sx, sy)], suf), by rw [← hp]; simp, ?_⟩ ?_ (keep_c (he := (by first | rfl | (rw [short_snoc_t (by assumption), List.map_append] <;> rfl) | (rw [short_snoc_f (by assumption)]; done) | (simp; done))) (h := keep_n)) (slots_c (he := (by first | rfl | (rw [lastV_snoc]; done) | (rw [short_snoc_t (by assumption), List.length_append] <;> rfl) | (rw [short_snoc_f (by assumption)]; done) | (simp; done) | (congr 2; omega))) (h := (slots_c (he := (by first | rfl | (rw [lastV_snoc]; done) | (rw [short_snoc_t (by assumption), List.length_append] <;> rfl) | (rw [short_snoc_f (by assumption)]; done) | (simp; done) | (congr 2; omega))) (h := (slots_c (he := (by first | rfl | (rw [lastV_snoc]; done) | (rw [short_snoc_t (by assumption), List.length_append] <;> rfl) | (rw [short_snoc_f (by assumption)]; done) | (simp; done) | (congr 2; omega))) (h := trivial)))))) (.c (.c (.c .n)))
        trivial
        all_goals (dsimp only; simp only [List.length_cons]; omega)
    · first | omega | contradiction | (exfalso; simp at *; done)
theorem Short_fun (l : List (Int × Int)) (hok : okSteps l) (hsh : shortG 0 l = l) : Fun Tryd.prog 9 [.sh 2 (l.map pairC)] (Ret (.tup [.sh 2 (l.map pairC), .lit (.int .i64 0)]) []) := by
  have hlen := hok.1
  refine Fun.of (nt := 9) (rs := [.tmp 2, .tmp 3]) Tryd.func9 rfl rfl rfl rfl rfl ?_
  refine Ev.sr fun K hK => S.o q.as (S.o q.as (S.end (hK _ ?_)))
  clear hK K
  refine Ev.seq ?_
  refine Ev.sr fun K hK => S.o q.mv (S.c0 (hF := stepsValid_fun l (by omega)) (h := S.o q.not (S.end (hK _ ?_))))
  clear hK K
  refine Ev.cn (fun c1 => ?_) (fun c1 => ?_)
  · first
  | (first | omega | contradiction)
  | refine Ev.sr fun K hK => S.o q.as (S.o q.as (S.end (hK _ ?_)))
    clear hK K
    refine Ev.weaken (Wk.nsh pairC 2 2) ?_
    refine Ev.ret ?_
    refine Ev.ret2 ?_
    refine ⟨?_, rfl⟩
    (rw [hsh]; done)
  · first
  | (first | omega | contradiction)
  | refine Ev.skip ?_
    show Ev _ _ _ _
    refine Ev.sr fun K hK => S.o q.mv (S.c0 (hF := short_fun l (by omega)) (h := S.o q.as (S.o q.as (S.end (hK _ ?_)))))
    clear hK K
    refine Ev.ret ?_
    refine Ev.ret2 ?_
    refine ⟨?_, rfl⟩
    (rw [hsh]; done)

theorem row_t {l : List (Int × Int)} {p : Int × Int} {x : Int} (h : l[0]? = some p) (e : p.1 = x) : [[AV.sh 2 (List.map pairC (List.take (((l.map pairC).length : Int).toNat - Int.toNat 1) (List.drop (Int.toNat 1) l)))]] = [[AV.sh 2 ((dropX x l).map pairC)]] := by
  rw [dx_t h e, List.take_of_length_le (by simp)]
  rfl
theorem row_f {l : List (Int × Int)} {p : Int × Int} {x : Int} (h : l[0]? = some p) (e : ¬ p.1 = x) : [[AV.sh 2 (l.map pairC)]] = [[AV.sh 2 ((dropX x l).map pairC)]] := by rw [dx_f h e]
theorem row_n {l : List (Int × Int)} {x : Int} (h : l.length = 0) : [[AV.sh 2 (l.map pairC)]] = [[AV.sh 2 ((dropX x l).map pairC)]] := by rw [dx_n h]
theorem breaks1_seq (a b : List (Int × Int)) (ha0 : a.length ≤ 140737488355328) (hb0 : b.length ≤ 140737488355328) : SeqR Tryd.prog 53 [.adr 0 0 0, .adr 1 0 0] [(0, ⟨false, 31, 1, [[.sh 2 (a.map pairC)]], true⟩), (1, ⟨false, 31, 1, [[.sh 2 (b.map pairC)]], true⟩)] 2 (fun x : Int => #[.int .i64 x]) (Brk a b) (fun _ => True) (a.length + b.length) := by
  refine SeqR.of (nt := 68) Tryd.func53 rfl rfl rfl rfl rfl ?_
  intro l0 S0 J hRnd
  refine EvY.block ?_
  refine EvY.loopU (κ := {p : List Int × List (Int × Int) × List (Int × Int) // (∀ xs, Brk p.2.1 p.2.2 xs → Brk a b (p.1 ++ xs)) ∧ p.1.length + p.2.1.length + p.2.2.length ≤ a.length + b.length}) (fun p => (true, p.1.1)) [0, 1] [0, 1, 2] (fun p => []) (fun p => [(0, ⟨false, 31, 1, [[.sh 2 ((p.1.2.1).map pairC)]], true⟩), (1, ⟨false, 31, 1, [[.sh 2 ((p.1.2.2).map pairC)]], true⟩)]) (fun p => p.1.2.1.length + p.1.2.2.length) ⟨([], a, b), fun xs h => h, by simp⟩ (.c (.c (.c .n))) (keep_c (he := (by first | exact row_t (hA (by omega)) (by omega) | exact row_f (hA (by omega)) (by omega) | exact row_n (by omega) | rfl)) (h := (keep_c (he := (by first | exact row_t (hB (by omega)) (by omega) | exact row_f (hB (by omega)) (by omega) | exact row_n (by omega) | rfl)) (h := keep_n)))) trivial rfl ?_
  rintro ⟨⟨pre, a', b'⟩, hinv⟩ R0 hR0
  try dsimp only [List.cons_append, List.nil_append, List.length_cons, List.length_nil]
  dsimp only at hinv
  obtain ⟨p0, hA⟩ : ∃ p, 0 < a'.length → a'[0]? = some p := ⟨hd0 a', hd_get⟩
  obtain ⟨q0, hB⟩ : ∃ p, 0 < b'.length → b'[0]? = some p := ⟨hd0 b', hd_get⟩
  refine EvY.seq ?_
  refine EvY.sr fun K hK => S.o (q.lv am_ag31) (S.o (q.lens am_el31) (S.o q.gtr (S.bd q.mv (fun c1 => ?_) (fun c1 => ?_))))
  · first
  | (first | omega | contradiction)
  | refine S.sk (S.sk (S.sk (S.o q.pt (S.end (hK _ ?_)))))
    clear hK K
    refine EvY.ct ?_
    refine EvY.skip ?_
    show EvY _ _ _ _ _ _ _
    refine EvY.block ?_
    refine EvY.sr fun K hK => S.o q.as (S.end (hK _ ?_))
    clear hK K
    refine EvY.seq ?_
    refine EvY.block ?_
    refine EvY.sr fun K hK => S.o (q.lv am_ag31) (S.o (q.lens am_el31) (S.o q.eql (S.o q.as (S.end (hK _ ?_)))))
    clear hK K
    refine EvY.cd (fun c2 => ?_) (fun c2 => ?_)
    · first
    | (first | omega | contradiction)
    | refine EvY.region_S fun K hK => S.o (q.lv am_ag31) (S.o (q.ix am_el31 am_cl40 (hl := (by first | exact ati (hA (by omega)) (by omega) | exact ati (hB (by omega)) (by omega) | exact atig (by omega)))) (S.o (q.fs 0 am_fi40_0 am_cl3) (S.o (q.ls am_ag3) (S.o q.as (S.end (hK _ ?_))))))
      clear hK K
      show EvY _ _ _ _ _ _ _
      refine EvY.seq ?_
      have hx : ∃ x, x = nextX a' b' := ⟨_, rfl⟩
      obtain ⟨x, hx⟩ := hx
      first
      | rw [nx_m (hA (by omega)) (hB (by omega))]
      | rw [nx_b (a := a') (by omega) (hB (by omega))]
      | rw [nx_a (b := b') (by omega) (hA (by omega))]
      rw [← hx]
      refine EvY.yieldT hRnd 2 x (by omega) rfl fun K hK => ?_
      simp only [List.take_succ_cons, List.take_zero]
      refine S.o q.mv (S.o q.mv (S.end (hK _ ?_)))
      clear hK K
      refine ⟨rfl, ⟨[_], rfl, rfl⟩, Nat.le_of_ble_eq_true rfl, ?_, ?_⟩
      · refine SeqL.k fun K hK => ?_
        simp only [List.drop_succ_cons, List.drop_zero, St.put]
        refine S.o q.nott (S.end (hK _ ?_))
        clear hK K
        refine EvY.cf ?_
        refine EvY.skip ?_
        show EvY _ _ _ _ _ _ _
        refine EvY.seq ?_
        refine EvY.sr fun K hK => S.o (q.lv am_ag31) (S.o (q.lens am_el31) (S.o q.gtr (S.bd q.mv (fun c3 => ?_) (fun c3 => ?_))))
        · first
        | (first | omega | contradiction)
        | refine S.o (q.lv am_ag31) (S.o (q.ix am_el31 am_cl40 (hl := (by first | exact ati (hA (by omega)) (by omega) | exact ati (hB (by omega)) (by omega) | exact atig (by omega)))) (S.o (q.fs 0 am_fi40_0 am_cl3) (S.o (q.ls am_ag3) (S.o q.mv (S.o q.eql (S.o q.pt (S.end (hK _ ?_))))))))
          clear hK K
          refine EvY.cd (fun c4 => ?_) (fun c4 => ?_)
          · first
          | (first | omega | contradiction)
          | refine EvY.region_S fun K hK => S.o (q.lv am_ag31) (S.o (q.sh am_el31 am_cl40) (S.sv [_] true [_] am_in31 am_cl31 (h := S.end (hK _ ?_))))
            clear hK K
            show EvY _ _ _ _ _ _ _
            refine EvY.sr fun K hK => S.o (q.lv am_ag31) (S.o (q.lens am_el31) (S.o q.gtr (S.bd q.mv (fun c5 => ?_) (fun c5 => ?_))))
            · first
            | (first | omega | contradiction)
            | refine S.o (q.lv am_ag31) (S.o (q.ix am_el31 am_cl40 (hl := (by first | exact ati (hA (by omega)) (by omega) | exact ati (hB (by omega)) (by omega) | exact atig (by omega)))) (S.o (q.fs 0 am_fi40_0 am_cl3) (S.o (q.ls am_ag3) (S.o q.mv (S.o q.eql (S.o q.pt (S.end (hK _ ?_))))))))
              clear hK K
              refine EvY.cd (fun c6 => ?_) (fun c6 => ?_)
              · first
              | (first | omega | contradiction)
              | refine EvY.region_S fun K hK => S.o (q.lv am_ag31) (S.o (q.sh am_el31 am_cl40) (S.sv [_] true [_] am_in31 am_cl31 (h := S.end (hK _ ?_))))
                clear hK K
                refine hR0 _ _ _ ?_
                refine roundYU [0, 1] [0, 1, 2] ⟨(pre ++ [x], dropX x a', dropX x b'), brk_step hinv (by omega) hx⟩ ?_ (keep_c (he := (by first | exact row_t (hA (by omega)) (by omega) | exact row_f (hA (by omega)) (by omega) | exact row_n (by omega) | rfl)) (h := (keep_c (he := (by first | exact row_t (hB (by omega)) (by omega) | exact row_f (hB (by omega)) (by omega) | exact row_n (by omega) | rfl)) (h := keep_n)))) trivial (.c (.c (.c .n))) rfl
                skip
                all_goals exact dx_lt (by omega) hx
              · first
              | (first | omega | contradiction)
              | refine EvY.skip ?_
                refine hR0 _ _ _ ?_
                refine roundYU [0, 1] [0, 1, 2] ⟨(pre ++ [x], dropX x a', dropX x b'), brk_step hinv (by omega) hx⟩ ?_ (keep_c (he := (by first | exact row_t (hA (by omega)) (by omega) | exact row_f (hA (by omega)) (by omega) | exact row_n (by omega) | rfl)) (h := (keep_c (he := (by first | exact row_t (hB (by omega)) (by omega) | exact row_f (hB (by omega)) (by omega) | exact row_n (by omega) | rfl)) (h := keep_n)))) trivial (.c (.c (.c .n))) rfl
                skip
                all_goals exact dx_lt (by omega) hx
            · first
            | (first | omega | contradiction)
            | refine S.sk (S.sk (S.sk (S.sk (S.sk (S.sk (S.o q.pf (S.end (hK _ ?_))))))))
              clear hK K
              refine EvY.cf ?_
              refine EvY.skip ?_
              refine hR0 _ _ _ ?_
              refine roundYU [0, 1] [0, 1, 2] ⟨(pre ++ [x], dropX x a', dropX x b'), brk_step hinv (by omega) hx⟩ ?_ (keep_c (he := (by first | exact row_t (hA (by omega)) (by omega) | exact row_f (hA (by omega)) (by omega) | exact row_n (by omega) | rfl)) (h := (keep_c (he := (by first | exact row_t (hB (by omega)) (by omega) | exact row_f (hB (by omega)) (by omega) | exact row_n (by omega) | rfl)) (h := keep_n)))) trivial (.c (.c (.c .n))) rfl
              skip
              all_goals exact dx_lt (by omega) hx
          · first
          | (first | omega | contradiction)
          | refine EvY.skip ?_
            show EvY _ _ _ _ _ _ _
            refine EvY.sr fun K hK => S.o (q.lv am_ag31) (S.o (q.lens am_el31) (S.o q.gtr (S.bd q.mv (fun c7 => ?_) (fun c7 => ?_))))
            · first
            | (first | omega | contradiction)
            | refine S.o (q.lv am_ag31) (S.o (q.ix am_el31 am_cl40 (hl := (by first | exact ati (hA (by omega)) (by omega) | exact ati (hB (by omega)) (by omega) | exact atig (by omega)))) (S.o (q.fs 0 am_fi40_0 am_cl3) (S.o (q.ls am_ag3) (S.o q.mv (S.o q.eql (S.o q.pt (S.end (hK _ ?_))))))))
              clear hK K
              refine EvY.cd (fun c8 => ?_) (fun c8 => ?_)
              · first
              | (first | omega | contradiction)
              | refine EvY.region_S fun K hK => S.o (q.lv am_ag31) (S.o (q.sh am_el31 am_cl40) (S.sv [_] true [_] am_in31 am_cl31 (h := S.end (hK _ ?_))))
                clear hK K
                refine hR0 _ _ _ ?_
                refine roundYU [0, 1] [0, 1, 2] ⟨(pre ++ [x], dropX x a', dropX x b'), brk_step hinv (by omega) hx⟩ ?_ (keep_c (he := (by first | exact row_t (hA (by omega)) (by omega) | exact row_f (hA (by omega)) (by omega) | exact row_n (by omega) | rfl)) (h := (keep_c (he := (by first | exact row_t (hB (by omega)) (by omega) | exact row_f (hB (by omega)) (by omega) | exact row_n (by omega) | rfl)) (h := keep_n)))) trivial (.c (.c (.c .n))) rfl
                skip
                all_goals exact dx_lt (by omega) hx
              · first
              | (first | omega | contradiction)
              | refine EvY.skip ?_
                refine hR0 _ _ _ ?_
                refine roundYU [0, 1] [0, 1, 2] ⟨(pre ++ [x], dropX x a', dropX x b'), brk_step hinv (by omega) hx⟩ ?_ (keep_c (he := (by first | exact row_t (hA (by omega)) (by omega) | exact row_f (hA (by omega)) (by omega) | exact row_n (by omega) | rfl)) (h := (keep_c (he := (by first | exact row_t (hB (by omega)) (by omega) | exact row_f (hB (by omega)) (by omega) | exact row_n (by omega) | rfl)) (h := keep_n)))) trivial (.c (.c (.c .n))) rfl
                skip
                all_goals exact dx_lt (by omega) hx
            · first
            | (first | omega | contradiction)
            | refine S.sk (S.sk (S.sk (S.sk (S.sk (S.sk (S.o q.pf (S.end (hK _ ?_))))))))
              clear hK K
              refine EvY.cf ?_
              refine EvY.skip ?_
              refine hR0 _ _ _ ?_
              refine roundYU [0, 1] [0, 1, 2] ⟨(pre ++ [x], dropX x a', dropX x b'), brk_step hinv (by omega) hx⟩ ?_ (keep_c (he := (by first | exact row_t (hA (by omega)) (by omega) | exact row_f (hA (by omega)) (by omega) | exact row_n (by omega) | rfl)) (h := (keep_c (he := (by first | exact row_t (hB (by omega)) (by omega) | exact row_f (hB (by omega)) (by omega) | exact row_n (by omega) | rfl)) (h := keep_n)))) trivial (.c (.c (.c .n))) rfl
              skip
              all_goals exact dx_lt (by omega) hx
        · first
        | (first | omega | contradiction)
        | refine S.sk (S.sk (S.sk (S.sk (S.sk (S.sk (S.o q.pf (S.end (hK _ ?_))))))))
          clear hK K
          refine EvY.cf ?_
          refine EvY.skip ?_
          show EvY _ _ _ _ _ _ _
          refine EvY.sr fun K hK => S.o (q.lv am_ag31) (S.o (q.lens am_el31) (S.o q.gtr (S.bd q.mv (fun c9 => ?_) (fun c9 => ?_))))
          · first
          | (first | omega | contradiction)
          | refine S.o (q.lv am_ag31) (S.o (q.ix am_el31 am_cl40 (hl := (by first | exact ati (hA (by omega)) (by omega) | exact ati (hB (by omega)) (by omega) | exact atig (by omega)))) (S.o (q.fs 0 am_fi40_0 am_cl3) (S.o (q.ls am_ag3) (S.o q.mv (S.o q.eql (S.o q.pt (S.end (hK _ ?_))))))))
            clear hK K
            refine EvY.cd (fun c10 => ?_) (fun c10 => ?_)
            · first
            | (first | omega | contradiction)
            | refine EvY.region_S fun K hK => S.o (q.lv am_ag31) (S.o (q.sh am_el31 am_cl40) (S.sv [_] true [_] am_in31 am_cl31 (h := S.end (hK _ ?_))))
              clear hK K
              refine hR0 _ _ _ ?_
              refine roundYU [0, 1] [0, 1, 2] ⟨(pre ++ [x], dropX x a', dropX x b'), brk_step hinv (by omega) hx⟩ ?_ (keep_c (he := (by first | exact row_t (hA (by omega)) (by omega) | exact row_f (hA (by omega)) (by omega) | exact row_n (by omega) | rfl)) (h := (keep_c (he := (by first | exact row_t (hB (by omega)) (by omega) | exact row_f (hB (by omega)) (by omega) | exact row_n (by omega) | rfl)) (h := keep_n)))) trivial (.c (.c (.c .n))) rfl
              skip
              all_goals exact dx_lt (by omega) hx
            · first
            | (first | omega | contradiction)
            | refine EvY.skip ?_
              refine hR0 _ _ _ ?_
              refine roundYU [0, 1] [0, 1, 2] ⟨(pre ++ [x], dropX x a', dropX x b'), brk_step hinv (by omega) hx⟩ ?_ (keep_c (he := (by first | exact row_t (hA (by omega)) (by omega) | exact row_f (hA (by omega)) (by omega) | exact row_n (by omega) | rfl)) (h := (keep_c (he := (by first | exact row_t (hB (by omega)) (by omega) | exact row_f (hB (by omega)) (by omega) | exact row_n (by omega) | rfl)) (h := keep_n)))) trivial (.c (.c (.c .n))) rfl
              skip
              all_goals exact dx_lt (by omega) hx
          · first
          | (first | omega | contradiction)
          | refine S.sk (S.sk (S.sk (S.sk (S.sk (S.sk (S.o q.pf (S.end (hK _ ?_))))))))
            clear hK K
            refine EvY.cf ?_
            refine EvY.skip ?_
            refine hR0 _ _ _ ?_
            refine roundYU [0, 1] [0, 1, 2] ⟨(pre ++ [x], dropX x a', dropX x b'), brk_step hinv (by omega) hx⟩ ?_ (keep_c (he := (by first | exact row_t (hA (by omega)) (by omega) | exact row_f (hA (by omega)) (by omega) | exact row_n (by omega) | rfl)) (h := (keep_c (he := (by first | exact row_t (hB (by omega)) (by omega) | exact row_f (hB (by omega)) (by omega) | exact row_n (by omega) | rfl)) (h := keep_n)))) trivial (.c (.c (.c .n))) rfl
            skip
            all_goals exact dx_lt (by omega) hx
      · refine SeqL.k fun K hK => ?_
        simp only [List.drop_succ_cons, List.drop_zero, St.put]
        refine S.o q.notf (S.end (hK _ ?_))
        clear hK K
        refine EvY.ct ?_
        refine EvY.ret ?_
        refine hR0 _ _ _ ?_
        exact ⟨.inr rfl, fun h => (by cases h), fun _ => trivial⟩
    · first
    | (first | omega | contradiction)
    | refine EvY.sr fun K hK => S.o (q.lv am_ag31) (S.o (q.lens am_el31) (S.o q.eql (S.o q.as (S.end (hK _ ?_)))))
      clear hK K
      refine EvY.cd (fun c11 => ?_) (fun c11 => ?_)
      · first
      | (first | omega | contradiction)
      | refine EvY.region_S fun K hK => S.o (q.lv am_ag31) (S.o (q.ix am_el31 am_cl40 (hl := (by first | exact ati (hA (by omega)) (by omega) | exact ati (hB (by omega)) (by omega) | exact atig (by omega)))) (S.o (q.fs 0 am_fi40_0 am_cl3) (S.o (q.ls am_ag3) (S.o q.as (S.end (hK _ ?_))))))
        clear hK K
        show EvY _ _ _ _ _ _ _
        refine EvY.seq ?_
        have hx : ∃ x, x = nextX a' b' := ⟨_, rfl⟩
        obtain ⟨x, hx⟩ := hx
        first
        | rw [nx_m (hA (by omega)) (hB (by omega))]
        | rw [nx_b (a := a') (by omega) (hB (by omega))]
        | rw [nx_a (b := b') (by omega) (hA (by omega))]
        rw [← hx]
        refine EvY.yieldT hRnd 2 x (by omega) rfl fun K hK => ?_
        simp only [List.take_succ_cons, List.take_zero]
        refine S.o q.mv (S.o q.mv (S.end (hK _ ?_)))
        clear hK K
        refine ⟨rfl, ⟨[_], rfl, rfl⟩, Nat.le_of_ble_eq_true rfl, ?_, ?_⟩
        · refine SeqL.k fun K hK => ?_
          simp only [List.drop_succ_cons, List.drop_zero, St.put]
          refine S.o q.nott (S.end (hK _ ?_))
          clear hK K
          refine EvY.cf ?_
          refine EvY.skip ?_
          show EvY _ _ _ _ _ _ _
          refine EvY.seq ?_
          refine EvY.sr fun K hK => S.o (q.lv am_ag31) (S.o (q.lens am_el31) (S.o q.gtr (S.bd q.mv (fun c12 => ?_) (fun c12 => ?_))))
          · first
          | (first | omega | contradiction)
          | refine S.o (q.lv am_ag31) (S.o (q.ix am_el31 am_cl40 (hl := (by first | exact ati (hA (by omega)) (by omega) | exact ati (hB (by omega)) (by omega) | exact atig (by omega)))) (S.o (q.fs 0 am_fi40_0 am_cl3) (S.o (q.ls am_ag3) (S.o q.mv (S.o q.eql (S.o q.pt (S.end (hK _ ?_))))))))
            clear hK K
            refine EvY.cd (fun c13 => ?_) (fun c13 => ?_)
            · first
            | (first | omega | contradiction)
            | refine EvY.region_S fun K hK => S.o (q.lv am_ag31) (S.o (q.sh am_el31 am_cl40) (S.sv [_] true [_] am_in31 am_cl31 (h := S.end (hK _ ?_))))
              clear hK K
              show EvY _ _ _ _ _ _ _
              refine EvY.sr fun K hK => S.o (q.lv am_ag31) (S.o (q.lens am_el31) (S.o q.gtr (S.bd q.mv (fun c14 => ?_) (fun c14 => ?_))))
              · first
              | (first | omega | contradiction)
              | refine S.o (q.lv am_ag31) (S.o (q.ix am_el31 am_cl40 (hl := (by first | exact ati (hA (by omega)) (by omega) | exact ati (hB (by omega)) (by omega) | exact atig (by omega)))) (S.o (q.fs 0 am_fi40_0 am_cl3) (S.o (q.ls am_ag3) (S.o q.mv (S.o q.eql (S.o q.pt (S.end (hK _ ?_))))))))
                clear hK K
                refine EvY.cd (fun c15 => ?_) (fun c15 => ?_)
                · first
                | (first | omega | contradiction)
                | refine EvY.region_S fun K hK => S.o (q.lv am_ag31) (S.o (q.sh am_el31 am_cl40) (S.sv [_] true [_] am_in31 am_cl31 (h := S.end (hK _ ?_))))
                  clear hK K
                  refine hR0 _ _ _ ?_
                  refine roundYU [0, 1] [0, 1, 2] ⟨(pre ++ [x], dropX x a', dropX x b'), brk_step hinv (by omega) hx⟩ ?_ (keep_c (he := (by first | exact row_t (hA (by omega)) (by omega) | exact row_f (hA (by omega)) (by omega) | exact row_n (by omega) | rfl)) (h := (keep_c (he := (by first | exact row_t (hB (by omega)) (by omega) | exact row_f (hB (by omega)) (by omega) | exact row_n (by omega) | rfl)) (h := keep_n)))) trivial (.c (.c (.c .n))) rfl
                  skip
                  all_goals exact dx_lt (by omega) hx
                · first
                | (first | omega | contradiction)
                | refine EvY.skip ?_
                  refine hR0 _ _ _ ?_
                  refine roundYU [0, 1] [0, 1, 2] ⟨(pre ++ [x], dropX x a', dropX x b'), brk_step hinv (by omega) hx⟩ ?_ (keep_c (he := (by first | exact row_t (hA (by omega)) (by omega) | exact row_f (hA (by omega)) (by omega) | exact row_n (by omega) | rfl)) (h := (keep_c (he := (by first | exact row_t (hB (by omega)) (by omega) | exact row_f (hB (by omega)) (by omega) | exact row_n (by omega) | rfl)) (h := keep_n)))) trivial (.c (.c (.c .n))) rfl
                  skip
                  all_goals exact dx_lt (by omega) hx
              · first
              | (first | omega | contradiction)
              | refine S.sk (S.sk (S.sk (S.sk (S.sk (S.sk (S.o q.pf (S.end (hK _ ?_))))))))
                clear hK K
                refine EvY.cf ?_
                refine EvY.skip ?_
                refine hR0 _ _ _ ?_
                refine roundYU [0, 1] [0, 1, 2] ⟨(pre ++ [x], dropX x a', dropX x b'), brk_step hinv (by omega) hx⟩ ?_ (keep_c (he := (by first | exact row_t (hA (by omega)) (by omega) | exact row_f (hA (by omega)) (by omega) | exact row_n (by omega) | rfl)) (h := (keep_c (he := (by first | exact row_t (hB (by omega)) (by omega) | exact row_f (hB (by omega)) (by omega) | exact row_n (by omega) | rfl)) (h := keep_n)))) trivial (.c (.c (.c .n))) rfl
                skip
                all_goals exact dx_lt (by omega) hx
            · first
            | (first | omega | contradiction)
            | refine EvY.skip ?_
              show EvY _ _ _ _ _ _ _
              refine EvY.sr fun K hK => S.o (q.lv am_ag31) (S.o (q.lens am_el31) (S.o q.gtr (S.bd q.mv (fun c16 => ?_) (fun c16 => ?_))))
              · first
              | (first | omega | contradiction)
              | refine S.o (q.lv am_ag31) (S.o (q.ix am_el31 am_cl40 (hl := (by first | exact ati (hA (by omega)) (by omega) | exact ati (hB (by omega)) (by omega) | exact atig (by omega)))) (S.o (q.fs 0 am_fi40_0 am_cl3) (S.o (q.ls am_ag3) (S.o q.mv (S.o q.eql (S.o q.pt (S.end (hK _ ?_))))))))
                clear hK K
                refine EvY.cd (fun c17 => ?_) (fun c17 => ?_)
                · first
                | (first | omega | contradiction)
                | refine EvY.region_S fun K hK => S.o (q.lv am_ag31) (S.o (q.sh am_el31 am_cl40) (S.sv [_] true [_] am_in31 am_cl31 (h := S.end (hK _ ?_))))
                  clear hK K
                  refine hR0 _ _ _ ?_
                  refine roundYU [0, 1] [0, 1, 2] ⟨(pre ++ [x], dropX x a', dropX x b'), brk_step hinv (by omega) hx⟩ ?_ (keep_c (he := (by first | exact row_t (hA (by omega)) (by omega) | exact row_f (hA (by omega)) (by omega) | exact row_n (by omega) | rfl)) (h := (keep_c (he := (by first | exact row_t (hB (by omega)) (by omega) | exact row_f (hB (by omega)) (by omega) | exact row_n (by omega) | rfl)) (h := keep_n)))) trivial (.c (.c (.c .n))) rfl
                  skip
                  all_goals exact dx_lt (by omega) hx
                · first
                | (first | omega | contradiction)
                | refine EvY.skip ?_
                  refine hR0 _ _ _ ?_
                  refine roundYU [0, 1] [0, 1, 2] ⟨(pre ++ [x], dropX x a', dropX x b'), brk_step hinv (by omega) hx⟩ ?_ (keep_c (he := (by first | exact row_t (hA (by omega)) (by omega) | exact row_f (hA (by omega)) (by omega) | exact row_n (by omega) | rfl)) (h := (keep_c (he := (by first | exact row_t (hB (by omega)) (by omega) | exact row_f (hB (by omega)) (by omega) | exact row_n (by omega) | rfl)) (h := keep_n)))) trivial (.c (.c (.c .n))) rfl
                  skip
                  all_goals exact dx_lt (by omega) hx
              · first
              | (first | omega | contradiction)
              | refine S.sk (S.sk (S.sk (S.sk (S.sk (S.sk (S.o q.pf (S.end (hK _ ?_))))))))
                clear hK K
                refine EvY.cf ?_
                refine EvY.skip ?_
                refine hR0 _ _ _ ?_
                refine roundYU [0, 1] [0, 1, 2] ⟨(pre ++ [x], dropX x a', dropX x b'), brk_step hinv (by omega) hx⟩ ?_ (keep_c (he := (by first | exact row_t (hA (by omega)) (by omega) | exact row_f (hA (by omega)) (by omega) | exact row_n (by omega) | rfl)) (h := (keep_c (he := (by first | exact row_t (hB (by omega)) (by omega) | exact row_f (hB (by omega)) (by omega) | exact row_n (by omega) | rfl)) (h := keep_n)))) trivial (.c (.c (.c .n))) rfl
                skip
                all_goals exact dx_lt (by omega) hx
          · first
          | (first | omega | contradiction)
          | refine S.sk (S.sk (S.sk (S.sk (S.sk (S.sk (S.o q.pf (S.end (hK _ ?_))))))))
            clear hK K
            refine EvY.cf ?_
            refine EvY.skip ?_
            show EvY _ _ _ _ _ _ _
            refine EvY.sr fun K hK => S.o (q.lv am_ag31) (S.o (q.lens am_el31) (S.o q.gtr (S.bd q.mv (fun c18 => ?_) (fun c18 => ?_))))
            · first
            | (first | omega | contradiction)
            | refine S.o (q.lv am_ag31) (S.o (q.ix am_el31 am_cl40 (hl := (by first | exact ati (hA (by omega)) (by omega) | exact ati (hB (by omega)) (by omega) | exact atig (by omega)))) (S.o (q.fs 0 am_fi40_0 am_cl3) (S.o (q.ls am_ag3) (S.o q.mv (S.o q.eql (S.o q.pt (S.end (hK _ ?_))))))))
              clear hK K
              refine EvY.cd (fun c19 => ?_) (fun c19 => ?_)
              · first
              | (first | omega | contradiction)
              | refine EvY.region_S fun K hK => S.o (q.lv am_ag31) (S.o (q.sh am_el31 am_cl40) (S.sv [_] true [_] am_in31 am_cl31 (h := S.end (hK _ ?_))))
                clear hK K
                refine hR0 _ _ _ ?_
                refine roundYU [0, 1] [0, 1, 2] ⟨(pre ++ [x], dropX x a', dropX x b'), brk_step hinv (by omega) hx⟩ ?_ (keep_c (he := (by first | exact row_t (hA (by omega)) (by omega) | exact row_f (hA (by omega)) (by omega) | exact row_n (by omega) | rfl)) (h := (keep_c (he := (by first | exact row_t (hB (by omega)) (by omega) | exact row_f (hB (by omega)) (by omega) | exact row_n (by omega) | rfl)) (h := keep_n)))) trivial (.c (.c (.c .n))) rfl
                skip
                all_goals exact dx_lt (by omega) hx
              · first
              | (first | omega | contradiction)
              | refine EvY.skip ?_
                refine hR0 _ _ _ ?_
                refine roundYU [0, 1] [0, 1, 2] ⟨(pre ++ [x], dropX x a', dropX x b'), brk_step hinv (by omega) hx⟩ ?_ (keep_c (he := (by first | exact row_t (hA (by omega)) (by omega) | exact row_f (hA (by omega)) (by omega) | exact row_n (by omega) | rfl)) (h := (keep_c (he := (by first | exact row_t (hB (by omega)) (by omega) | exact row_f (hB (by omega)) (by omega) | exact row_n (by omega) | rfl)) (h := keep_n)))) trivial (.c (.c (.c .n))) rfl
                skip
                all_goals exact dx_lt (by omega) hx
            · first
            | (first | omega | contradiction)
            | refine S.sk (S.sk (S.sk (S.sk (S.sk (S.sk (S.o q.pf (S.end (hK _ ?_))))))))
              clear hK K
              refine EvY.cf ?_
              refine EvY.skip ?_
              refine hR0 _ _ _ ?_
              refine roundYU [0, 1] [0, 1, 2] ⟨(pre ++ [x], dropX x a', dropX x b'), brk_step hinv (by omega) hx⟩ ?_ (keep_c (he := (by first | exact row_t (hA (by omega)) (by omega) | exact row_f (hA (by omega)) (by omega) | exact row_n (by omega) | rfl)) (h := (keep_c (he := (by first | exact row_t (hB (by omega)) (by omega) | exact row_f (hB (by omega)) (by omega) | exact row_n (by omega) | rfl)) (h := keep_n)))) trivial (.c (.c (.c .n))) rfl
              skip
              all_goals exact dx_lt (by omega) hx
        · refine SeqL.k fun K hK => ?_
          simp only [List.drop_succ_cons, List.drop_zero, St.put]
          refine S.o q.notf (S.end (hK _ ?_))
          clear hK K
          refine EvY.ct ?_
          refine EvY.ret ?_
          refine hR0 _ _ _ ?_
          exact ⟨.inr rfl, fun h => (by cases h), fun _ => trivial⟩
      · first
      | (first | omega | contradiction)
      | refine EvY.region_M (tbs [(0, 0), (1, 1), (2, 3), (3, 7), (0, 0), (5, 16), (6, 48), (7, 112), (8, 255), (9, 511)]) 9 fun K hK => M.o (q.lv am_ag31) (M.o (q.ix am_el31 am_cl40 (hl := (by first | exact ati (hA (by omega)) (by omega) | exact ati (hB (by omega)) (by omega) | exact atig (by omega)))) (M.o (q.fs 0 am_fi40_0 am_cl3) (M.o (q.ls am_ag3) (M.o (q.lv am_ag31) (M.o (q.ix am_el31 am_cl40 (hl := (by first | exact ati (hA (by omega)) (by omega) | exact ati (hB (by omega)) (by omega) | exact atig (by omega)))) (M.o (q.fs 0 am_fi40_0 am_cl3) (M.o (q.ls am_ag3) (M.o q.min (M.end [_, _] (h := S.o q.as (S.end (hK _ ?_))))))))))))
        clear hK K
        show EvY _ _ _ _ _ _ _
        refine EvY.seq ?_
        have hx : ∃ x, x = nextX a' b' := ⟨_, rfl⟩
        obtain ⟨x, hx⟩ := hx
        first
        | rw [nx_m (hA (by omega)) (hB (by omega))]
        | rw [nx_b (a := a') (by omega) (hB (by omega))]
        | rw [nx_a (b := b') (by omega) (hA (by omega))]
        rw [← hx]
        refine EvY.yieldT hRnd 2 x (by omega) rfl fun K hK => ?_
        simp only [List.take_succ_cons, List.take_zero]
        refine S.o q.mv (S.o q.mv (S.end (hK _ ?_)))
        clear hK K
        refine ⟨rfl, ⟨[_], rfl, rfl⟩, Nat.le_of_ble_eq_true rfl, ?_, ?_⟩
        · refine SeqL.k fun K hK => ?_
          simp only [List.drop_succ_cons, List.drop_zero, St.put]
          refine S.o q.nott (S.end (hK _ ?_))
          clear hK K
          refine EvY.cf ?_
          refine EvY.skip ?_
          show EvY _ _ _ _ _ _ _
          refine EvY.seq ?_
          refine EvY.sr fun K hK => S.o (q.lv am_ag31) (S.o (q.lens am_el31) (S.o q.gtr (S.bd q.mv (fun c20 => ?_) (fun c20 => ?_))))
          · first
          | (first | omega | contradiction)
          | refine S.o (q.lv am_ag31) (S.o (q.ix am_el31 am_cl40 (hl := (by first | exact ati (hA (by omega)) (by omega) | exact ati (hB (by omega)) (by omega) | exact atig (by omega)))) (S.o (q.fs 0 am_fi40_0 am_cl3) (S.o (q.ls am_ag3) (S.o q.mv (S.o q.eql (S.o q.pt (S.end (hK _ ?_))))))))
            clear hK K
            refine EvY.cd (fun c21 => ?_) (fun c21 => ?_)
            · first
            | (first | omega | contradiction)
            | refine EvY.region_S fun K hK => S.o (q.lv am_ag31) (S.o (q.sh am_el31 am_cl40) (S.sv [_] true [_] am_in31 am_cl31 (h := S.end (hK _ ?_))))
              clear hK K
              show EvY _ _ _ _ _ _ _
              refine EvY.sr fun K hK => S.o (q.lv am_ag31) (S.o (q.lens am_el31) (S.o q.gtr (S.bd q.mv (fun c22 => ?_) (fun c22 => ?_))))
              · first
              | (first | omega | contradiction)
              | refine S.o (q.lv am_ag31) (S.o (q.ix am_el31 am_cl40 (hl := (by first | exact ati (hA (by omega)) (by omega) | exact ati (hB (by omega)) (by omega) | exact atig (by omega)))) (S.o (q.fs 0 am_fi40_0 am_cl3) (S.o (q.ls am_ag3) (S.o q.mv (S.o q.eql (S.o q.pt (S.end (hK _ ?_))))))))
                clear hK K
                refine EvY.cd (fun c23 => ?_) (fun c23 => ?_)
                · first
                | (first | omega | contradiction)
                | refine EvY.region_S fun K hK => S.o (q.lv am_ag31) (S.o (q.sh am_el31 am_cl40) (S.sv [_] true [_] am_in31 am_cl31 (h := S.end (hK _ ?_))))
                  clear hK K
                  refine hR0 _ _ _ ?_
                  refine roundYU [0, 1] [0, 1, 2] ⟨(pre ++ [x], dropX x a', dropX x b'), brk_step hinv (by omega) hx⟩ ?_ (keep_c (he := (by first | exact row_t (hA (by omega)) (by omega) | exact row_f (hA (by omega)) (by omega) | exact row_n (by omega) | rfl)) (h := (keep_c (he := (by first | exact row_t (hB (by omega)) (by omega) | exact row_f (hB (by omega)) (by omega) | exact row_n (by omega) | rfl)) (h := keep_n)))) trivial (.c (.c (.c .n))) rfl
                  skip
                  all_goals exact dx_lt (by omega) hx
                · first
                | (first | omega | contradiction)
                | refine EvY.skip ?_
                  refine hR0 _ _ _ ?_
                  refine roundYU [0, 1] [0, 1, 2] ⟨(pre ++ [x], dropX x a', dropX x b'), brk_step hinv (by omega) hx⟩ ?_ (keep_c (he := (by first | exact row_t (hA (by omega)) (by omega) | exact row_f (hA (by omega)) (by omega) | exact row_n (by omega) | rfl)) (h := (keep_c (he := (by first | exact row_t (hB (by omega)) (by omega) | exact row_f (hB (by omega)) (by omega) | exact row_n (by omega) | rfl)) (h := keep_n)))) trivial (.c (.c (.c .n))) rfl
                  skip
                  all_goals exact dx_lt (by omega) hx
              · first
              | (first | omega | contradiction)
              | refine S.sk (S.sk (S.sk (S.sk (S.sk (S.sk (S.o q.pf (S.end (hK _ ?_))))))))
                clear hK K
                refine EvY.cf ?_
                refine EvY.skip ?_
                refine hR0 _ _ _ ?_
                refine roundYU [0, 1] [0, 1, 2] ⟨(pre ++ [x], dropX x a', dropX x b'), brk_step hinv (by omega) hx⟩ ?_ (keep_c (he := (by first | exact row_t (hA (by omega)) (by omega) | exact row_f (hA (by omega)) (by omega) | exact row_n (by omega) | rfl)) (h := (keep_c (he := (by first | exact row_t (hB (by omega)) (by omega) | exact row_f (hB (by omega)) (by omega) | exact row_n (by omega) | rfl)) (h := keep_n)))) trivial (.c (.c (.c .n))) rfl
                skip
                all_goals exact dx_lt (by omega) hx
            · first
            | (first | omega | contradiction)
            | refine EvY.skip ?_
              show EvY _ _ _ _ _ _ _
              refine EvY.sr fun K hK => S.o (q.lv am_ag31) (S.o (q.lens am_el31) (S.o q.gtr (S.bd q.mv (fun c24 => ?_) (fun c24 => ?_))))
              · first
              | (first | omega | contradiction)
              | refine S.o (q.lv am_ag31) (S.o (q.ix am_el31 am_cl40 (hl := (by first | exact ati (hA (by omega)) (by omega) | exact ati (hB (by omega)) (by omega) | exact atig (by omega)))) (S.o (q.fs 0 am_fi40_0 am_cl3) (S.o (q.ls am_ag3) (S.o q.mv (S.o q.eql (S.o q.pt (S.end (hK _ ?_))))))))
                clear hK K
                refine EvY.cd (fun c25 => ?_) (fun c25 => ?_)
                · first
                | (first | omega | contradiction)
                | refine EvY.region_S fun K hK => S.o (q.lv am_ag31) (S.o (q.sh am_el31 am_cl40) (S.sv [_] true [_] am_in31 am_cl31 (h := S.end (hK _ ?_))))
                  clear hK K
                  refine hR0 _ _ _ ?_
                  refine roundYU [0, 1] [0, 1, 2] ⟨(pre ++ [x], dropX x a', dropX x b'), brk_step hinv (by omega) hx⟩ ?_ (keep_c (he := (by first | exact row_t (hA (by omega)) (by omega) | exact row_f (hA (by omega)) (by omega) | exact row_n (by omega) | rfl)) (h := (keep_c (he := (by first | exact row_t (hB (by omega)) (by omega) | exact row_f (hB (by omega)) (by omega) | exact row_n (by omega) | rfl)) (h := keep_n)))) trivial (.c (.c (.c .n))) rfl
                  skip
                  all_goals exact dx_lt (by omega) hx
                · first
                | (first | omega | contradiction)
                | refine EvY.skip ?_
                  refine hR0 _ _ _ ?_
                  refine roundYU [0, 1] [0, 1, 2] ⟨(pre ++ [x], dropX x a', dropX x b'), brk_step hinv (by omega) hx⟩ ?_ (keep_c (he := (by first | exact row_t (hA (by omega)) (by omega) | exact row_f (hA (by omega)) (by omega) | exact row_n (by omega) | rfl)) (h := (keep_c (he := (by first | exact row_t (hB (by omega)) (by omega) | exact row_f (hB (by omega)) (by omega) | exact row_n (by omega) | rfl)) (h := keep_n)))) trivial (.c (.c (.c .n))) rfl
                  skip
                  all_goals exact dx_lt (by omega) hx
              · first
              | (first | omega | contradiction)
              | refine S.sk (S.sk (S.sk (S.sk (S.sk (S.sk (S.o q.pf (S.end (hK _ ?_))))))))
                clear hK K
                refine EvY.cf ?_
                refine EvY.skip ?_
                refine hR0 _ _ _ ?_
                refine roundYU [0, 1] [0, 1, 2] ⟨(pre ++ [x], dropX x a', dropX x b'), brk_step hinv (by omega) hx⟩ ?_ (keep_c (he := (by first | exact row_t (hA (by omega)) (by omega) | exact row_f (hA (by omega)) (by omega) | exact row_n (by omega) | rfl)) (h := (keep_c (he := (by first | exact row_t (hB (by omega)) (by omega) | exact row_f (hB (by omega)) (by omega) | exact row_n (by omega) | rfl)) (h := keep_n)))) trivial (.c (.c (.c .n))) rfl
                skip
                all_goals exact dx_lt (by omega) hx
          · first
          | (first | omega | contradiction)
          | refine S.sk (S.sk (S.sk (S.sk (S.sk (S.sk (S.o q.pf (S.end (hK _ ?_))))))))
            clear hK K
            refine EvY.cf ?_
            refine EvY.skip ?_
            show EvY _ _ _ _ _ _ _
            refine EvY.sr fun K hK => S.o (q.lv am_ag31) (S.o (q.lens am_el31) (S.o q.gtr (S.bd q.mv (fun c26 => ?_) (fun c26 => ?_))))
            · first
            | (first | omega | contradiction)
            | refine S.o (q.lv am_ag31) (S.o (q.ix am_el31 am_cl40 (hl := (by first | exact ati (hA (by omega)) (by omega) | exact ati (hB (by omega)) (by omega) | exact atig (by omega)))) (S.o (q.fs 0 am_fi40_0 am_cl3) (S.o (q.ls am_ag3) (S.o q.mv (S.o q.eql (S.o q.pt (S.end (hK _ ?_))))))))
              clear hK K
              refine EvY.cd (fun c27 => ?_) (fun c27 => ?_)
              · first
              | (first | omega | contradiction)
              | refine EvY.region_S fun K hK => S.o (q.lv am_ag31) (S.o (q.sh am_el31 am_cl40) (S.sv [_] true [_] am_in31 am_cl31 (h := S.end (hK _ ?_))))
                clear hK K
                refine hR0 _ _ _ ?_
                refine roundYU [0, 1] [0, 1, 2] ⟨(pre ++ [x], dropX x a', dropX x b'), brk_step hinv (by omega) hx⟩ ?_ (keep_c (he := (by first | exact row_t (hA (by omega)) (by omega) | exact row_f (hA (by omega)) (by omega) | exact row_n (by omega) | rfl)) (h := (keep_c (he := (by first | exact row_t (hB (by omega)) (by omega) | exact row_f (hB (by omega)) (by omega) | exact row_n (by omega) | rfl)) (h := keep_n)))) trivial (.c (.c (.c .n))) rfl
                skip
                all_goals exact dx_lt (by omega) hx
              · first
              | (first | omega | contradiction)
              | refine EvY.skip ?_
                refine hR0 _ _ _ ?_
                refine roundYU [0, 1] [0, 1, 2] ⟨(pre ++ [x], dropX x a', dropX x b'), brk_step hinv (by omega) hx⟩ ?_ (keep_c (he := (by first | exact row_t (hA (by omega)) (by omega) | exact row_f (hA (by omega)) (by omega) | exact row_n (by omega) | rfl)) (h := (keep_c (he := (by first | exact row_t (hB (by omega)) (by omega) | exact row_f (hB (by omega)) (by omega) | exact row_n (by omega) | rfl)) (h := keep_n)))) trivial (.c (.c (.c .n))) rfl
                skip
                all_goals exact dx_lt (by omega) hx
            · first
            | (first | omega | contradiction)
            | refine S.sk (S.sk (S.sk (S.sk (S.sk (S.sk (S.o q.pf (S.end (hK _ ?_))))))))
              clear hK K
              refine EvY.cf ?_
              refine EvY.skip ?_
              refine hR0 _ _ _ ?_
              refine roundYU [0, 1] [0, 1, 2] ⟨(pre ++ [x], dropX x a', dropX x b'), brk_step hinv (by omega) hx⟩ ?_ (keep_c (he := (by first | exact row_t (hA (by omega)) (by omega) | exact row_f (hA (by omega)) (by omega) | exact row_n (by omega) | rfl)) (h := (keep_c (he := (by first | exact row_t (hB (by omega)) (by omega) | exact row_f (hB (by omega)) (by omega) | exact row_n (by omega) | rfl)) (h := keep_n)))) trivial (.c (.c (.c .n))) rfl
              skip
              all_goals exact dx_lt (by omega) hx
        · refine SeqL.k fun K hK => ?_
          simp only [List.drop_succ_cons, List.drop_zero, St.put]
          refine S.o q.notf (S.end (hK _ ?_))
          clear hK K
          refine EvY.ct ?_
          refine EvY.ret ?_
          refine hR0 _ _ _ ?_
          exact ⟨.inr rfl, fun h => (by cases h), fun _ => trivial⟩
  · first
  | (first | omega | contradiction)
  | refine S.o (q.lv am_ag31) (S.o (q.lens am_el31) (S.o q.gtr (S.o q.pf (S.end (hK _ ?_)))))
    clear hK K
    refine EvY.cd (fun c28 => ?_) (fun c28 => ?_)
    · first
    | (first | omega | contradiction)
    | refine EvY.skip ?_
      show EvY _ _ _ _ _ _ _
      refine EvY.block ?_
      refine EvY.sr fun K hK => S.o q.as (S.end (hK _ ?_))
      clear hK K
      refine EvY.seq ?_
      refine EvY.block ?_
      refine EvY.sr fun K hK => S.o (q.lv am_ag31) (S.o (q.lens am_el31) (S.o q.eql (S.o q.as (S.end (hK _ ?_)))))
      clear hK K
      refine EvY.cd (fun c29 => ?_) (fun c29 => ?_)
      · first
      | (first | omega | contradiction)
      | refine EvY.region_S fun K hK => S.o (q.lv am_ag31) (S.o (q.ix am_el31 am_cl40 (hl := (by first | exact ati (hA (by omega)) (by omega) | exact ati (hB (by omega)) (by omega) | exact atig (by omega)))) (S.o (q.fs 0 am_fi40_0 am_cl3) (S.o (q.ls am_ag3) (S.o q.as (S.end (hK _ ?_))))))
        clear hK K
        show EvY _ _ _ _ _ _ _
        refine EvY.seq ?_
        have hx : ∃ x, x = nextX a' b' := ⟨_, rfl⟩
        obtain ⟨x, hx⟩ := hx
        first
        | rw [nx_m (hA (by omega)) (hB (by omega))]
        | rw [nx_b (a := a') (by omega) (hB (by omega))]
        | rw [nx_a (b := b') (by omega) (hA (by omega))]
        rw [← hx]
        refine EvY.yieldT hRnd 2 x (by omega) rfl fun K hK => ?_
        simp only [List.take_succ_cons, List.take_zero]
        refine S.o q.mv (S.o q.mv (S.end (hK _ ?_)))
        clear hK K
        refine ⟨rfl, ⟨[_], rfl, rfl⟩, Nat.le_of_ble_eq_true rfl, ?_, ?_⟩
        · refine SeqL.k fun K hK => ?_
          simp only [List.drop_succ_cons, List.drop_zero, St.put]
          refine S.o q.nott (S.end (hK _ ?_))
          clear hK K
          refine EvY.cf ?_
          refine EvY.skip ?_
          show EvY _ _ _ _ _ _ _
          refine EvY.seq ?_
          refine EvY.sr fun K hK => S.o (q.lv am_ag31) (S.o (q.lens am_el31) (S.o q.gtr (S.bd q.mv (fun c30 => ?_) (fun c30 => ?_))))
          · first
          | (first | omega | contradiction)
          | refine S.o (q.lv am_ag31) (S.o (q.ix am_el31 am_cl40 (hl := (by first | exact ati (hA (by omega)) (by omega) | exact ati (hB (by omega)) (by omega) | exact atig (by omega)))) (S.o (q.fs 0 am_fi40_0 am_cl3) (S.o (q.ls am_ag3) (S.o q.mv (S.o q.eql (S.o q.pt (S.end (hK _ ?_))))))))
            clear hK K
            refine EvY.cd (fun c31 => ?_) (fun c31 => ?_)
            · first
            | (first | omega | contradiction)
            | refine EvY.region_S fun K hK => S.o (q.lv am_ag31) (S.o (q.sh am_el31 am_cl40) (S.sv [_] true [_] am_in31 am_cl31 (h := S.end (hK _ ?_))))
              clear hK K
              show EvY _ _ _ _ _ _ _
              refine EvY.sr fun K hK => S.o (q.lv am_ag31) (S.o (q.lens am_el31) (S.o q.gtr (S.bd q.mv (fun c32 => ?_) (fun c32 => ?_))))
              · first
              | (first | omega | contradiction)
              | refine S.o (q.lv am_ag31) (S.o (q.ix am_el31 am_cl40 (hl := (by first | exact ati (hA (by omega)) (by omega) | exact ati (hB (by omega)) (by omega) | exact atig (by omega)))) (S.o (q.fs 0 am_fi40_0 am_cl3) (S.o (q.ls am_ag3) (S.o q.mv (S.o q.eql (S.o q.pt (S.end (hK _ ?_))))))))
                clear hK K
                refine EvY.cd (fun c33 => ?_) (fun c33 => ?_)
                · first
                | (first | omega | contradiction)
                | refine EvY.region_S fun K hK => S.o (q.lv am_ag31) (S.o (q.sh am_el31 am_cl40) (S.sv [_] true [_] am_in31 am_cl31 (h := S.end (hK _ ?_))))
                  clear hK K
                  refine hR0 _ _ _ ?_
                  refine roundYU [0, 1] [0, 1, 2] ⟨(pre ++ [x], dropX x a', dropX x b'), brk_step hinv (by omega) hx⟩ ?_ (keep_c (he := (by first | exact row_t (hA (by omega)) (by omega) | exact row_f (hA (by omega)) (by omega) | exact row_n (by omega) | rfl)) (h := (keep_c (he := (by first | exact row_t (hB (by omega)) (by omega) | exact row_f (hB (by omega)) (by omega) | exact row_n (by omega) | rfl)) (h := keep_n)))) trivial (.c (.c (.c .n))) rfl
                  skip
                  all_goals exact dx_lt (by omega) hx
                · first
                | (first | omega | contradiction)
                | refine EvY.skip ?_
                  refine hR0 _ _ _ ?_
                  refine roundYU [0, 1] [0, 1, 2] ⟨(pre ++ [x], dropX x a', dropX x b'), brk_step hinv (by omega) hx⟩ ?_ (keep_c (he := (by first | exact row_t (hA (by omega)) (by omega) | exact row_f (hA (by omega)) (by omega) | exact row_n (by omega) | rfl)) (h := (keep_c (he := (by first | exact row_t (hB (by omega)) (by omega) | exact row_f (hB (by omega)) (by omega) | exact row_n (by omega) | rfl)) (h := keep_n)))) trivial (.c (.c (.c .n))) rfl
                  skip
                  all_goals exact dx_lt (by omega) hx
              · first
              | (first | omega | contradiction)
              | refine S.sk (S.sk (S.sk (S.sk (S.sk (S.sk (S.o q.pf (S.end (hK _ ?_))))))))
                clear hK K
                refine EvY.cf ?_
                refine EvY.skip ?_
                refine hR0 _ _ _ ?_
                refine roundYU [0, 1] [0, 1, 2] ⟨(pre ++ [x], dropX x a', dropX x b'), brk_step hinv (by omega) hx⟩ ?_ (keep_c (he := (by first | exact row_t (hA (by omega)) (by omega) | exact row_f (hA (by omega)) (by omega) | exact row_n (by omega) | rfl)) (h := (keep_c (he := (by first | exact row_t (hB (by omega)) (by omega) | exact row_f (hB (by omega)) (by omega) | exact row_n (by omega) | rfl)) (h := keep_n)))) trivial (.c (.c (.c .n))) rfl
                skip
                all_goals exact dx_lt (by omega) hx
            · first
            | (first | omega | contradiction)
            | refine EvY.skip ?_
              show EvY _ _ _ _ _ _ _
              refine EvY.sr fun K hK => S.o (q.lv am_ag31) (S.o (q.lens am_el31) (S.o q.gtr (S.bd q.mv (fun c34 => ?_) (fun c34 => ?_))))
              · first
              | (first | omega | contradiction)
              | refine S.o (q.lv am_ag31) (S.o (q.ix am_el31 am_cl40 (hl := (by first | exact ati (hA (by omega)) (by omega) | exact ati (hB (by omega)) (by omega) | exact atig (by omega)))) (S.o (q.fs 0 am_fi40_0 am_cl3) (S.o (q.ls am_ag3) (S.o q.mv (S.o q.eql (S.o q.pt (S.end (hK _ ?_))))))))
                clear hK K
                refine EvY.cd (fun c35 => ?_) (fun c35 => ?_)
                · first
                | (first | omega | contradiction)
                | refine EvY.region_S fun K hK => S.o (q.lv am_ag31) (S.o (q.sh am_el31 am_cl40) (S.sv [_] true [_] am_in31 am_cl31 (h := S.end (hK _ ?_))))
                  clear hK K
                  refine hR0 _ _ _ ?_
                  refine roundYU [0, 1] [0, 1, 2] ⟨(pre ++ [x], dropX x a', dropX x b'), brk_step hinv (by omega) hx⟩ ?_ (keep_c (he := (by first | exact row_t (hA (by omega)) (by omega) | exact row_f (hA (by omega)) (by omega) | exact row_n (by omega) | rfl)) (h := (keep_c (he := (by first | exact row_t (hB (by omega)) (by omega) | exact row_f (hB (by omega)) (by omega) | exact row_n (by omega) | rfl)) (h := keep_n)))) trivial (.c (.c (.c .n))) rfl
                  skip
                  all_goals exact dx_lt (by omega) hx
                · first
                | (first | omega | contradiction)
                | refine EvY.skip ?_
                  refine hR0 _ _ _ ?_
                  refine roundYU [0, 1] [0, 1, 2] ⟨(pre ++ [x], dropX x a', dropX x b'), brk_step hinv (by omega) hx⟩ ?_ (keep_c (he := (by first | exact row_t (hA (by omega)) (by omega) | exact row_f (hA (by omega)) (by omega) | exact row_n (by omega) | rfl)) (h := (keep_c (he := (by first | exact row_t (hB (by omega)) (by omega) | exact row_f (hB (by omega)) (by omega) | exact row_n (by omega) | rfl)) (h := keep_n)))) trivial (.c (.c (.c .n))) rfl
                  skip
                  all_goals exact dx_lt (by omega) hx
              · first
              | (first | omega | contradiction)
              | refine S.sk (S.sk (S.sk (S.sk (S.sk (S.sk (S.o q.pf (S.end (hK _ ?_))))))))
                clear hK K
                refine EvY.cf ?_
                refine EvY.skip ?_
                refine hR0 _ _ _ ?_
                refine roundYU [0, 1] [0, 1, 2] ⟨(pre ++ [x], dropX x a', dropX x b'), brk_step hinv (by omega) hx⟩ ?_ (keep_c (he := (by first | exact row_t (hA (by omega)) (by omega) | exact row_f (hA (by omega)) (by omega) | exact row_n (by omega) | rfl)) (h := (keep_c (he := (by first | exact row_t (hB (by omega)) (by omega) | exact row_f (hB (by omega)) (by omega) | exact row_n (by omega) | rfl)) (h := keep_n)))) trivial (.c (.c (.c .n))) rfl
                skip
                all_goals exact dx_lt (by omega) hx
          · first
          | (first | omega | contradiction)
          | refine S.sk (S.sk (S.sk (S.sk (S.sk (S.sk (S.o q.pf (S.end (hK _ ?_))))))))
            clear hK K
            refine EvY.cf ?_
            refine EvY.skip ?_
            show EvY _ _ _ _ _ _ _
            refine EvY.sr fun K hK => S.o (q.lv am_ag31) (S.o (q.lens am_el31) (S.o q.gtr (S.bd q.mv (fun c36 => ?_) (fun c36 => ?_))))
            · first
            | (first | omega | contradiction)
            | refine S.o (q.lv am_ag31) (S.o (q.ix am_el31 am_cl40 (hl := (by first | exact ati (hA (by omega)) (by omega) | exact ati (hB (by omega)) (by omega) | exact atig (by omega)))) (S.o (q.fs 0 am_fi40_0 am_cl3) (S.o (q.ls am_ag3) (S.o q.mv (S.o q.eql (S.o q.pt (S.end (hK _ ?_))))))))
              clear hK K
              refine EvY.cd (fun c37 => ?_) (fun c37 => ?_)
              · first
              | (first | omega | contradiction)
              | refine EvY.region_S fun K hK => S.o (q.lv am_ag31) (S.o (q.sh am_el31 am_cl40) (S.sv [_] true [_] am_in31 am_cl31 (h := S.end (hK _ ?_))))
                clear hK K
                refine hR0 _ _ _ ?_
                refine roundYU [0, 1] [0, 1, 2] ⟨(pre ++ [x], dropX x a', dropX x b'), brk_step hinv (by omega) hx⟩ ?_ (keep_c (he := (by first | exact row_t (hA (by omega)) (by omega) | exact row_f (hA (by omega)) (by omega) | exact row_n (by omega) | rfl)) (h := (keep_c (he := (by first | exact row_t (hB (by omega)) (by omega) | exact row_f (hB (by omega)) (by omega) | exact row_n (by omega) | rfl)) (h := keep_n)))) trivial (.c (.c (.c .n))) rfl
                skip
                all_goals exact dx_lt (by omega) hx
              · first
              | (first | omega | contradiction)
              | refine EvY.skip ?_
                refine hR0 _ _ _ ?_
                refine roundYU [0, 1] [0, 1, 2] ⟨(pre ++ [x], dropX x a', dropX x b'), brk_step hinv (by omega) hx⟩ ?_ (keep_c (he := (by first | exact row_t (hA (by omega)) (by omega) | exact row_f (hA (by omega)) (by omega) | exact row_n (by omega) | rfl)) (h := (keep_c (he := (by first | exact row_t (hB (by omega)) (by omega) | exact row_f (hB (by omega)) (by omega) | exact row_n (by omega) | rfl)) (h := keep_n)))) trivial (.c (.c (.c .n))) rfl
                skip
                all_goals exact dx_lt (by omega) hx
            · first
            | (first | omega | contradiction)
            | refine S.sk (S.sk (S.sk (S.sk (S.sk (S.sk (S.o q.pf (S.end (hK _ ?_))))))))
              clear hK K
              refine EvY.cf ?_
              refine EvY.skip ?_
              refine hR0 _ _ _ ?_
              refine roundYU [0, 1] [0, 1, 2] ⟨(pre ++ [x], dropX x a', dropX x b'), brk_step hinv (by omega) hx⟩ ?_ (keep_c (he := (by first | exact row_t (hA (by omega)) (by omega) | exact row_f (hA (by omega)) (by omega) | exact row_n (by omega) | rfl)) (h := (keep_c (he := (by first | exact row_t (hB (by omega)) (by omega) | exact row_f (hB (by omega)) (by omega) | exact row_n (by omega) | rfl)) (h := keep_n)))) trivial (.c (.c (.c .n))) rfl
              skip
              all_goals exact dx_lt (by omega) hx
        · refine SeqL.k fun K hK => ?_
          simp only [List.drop_succ_cons, List.drop_zero, St.put]
          refine S.o q.notf (S.end (hK _ ?_))
          clear hK K
          refine EvY.ct ?_
          refine EvY.ret ?_
          refine hR0 _ _ _ ?_
          exact ⟨.inr rfl, fun h => (by cases h), fun _ => trivial⟩
      · first
      | (first | omega | contradiction)
      | refine EvY.sr fun K hK => S.o (q.lv am_ag31) (S.o (q.lens am_el31) (S.o q.eql (S.o q.as (S.end (hK _ ?_)))))
        clear hK K
        refine EvY.cd (fun c38 => ?_) (fun c38 => ?_)
        · first
        | (first | omega | contradiction)
        | refine EvY.region_S fun K hK => S.o (q.lv am_ag31) (S.o (q.ix am_el31 am_cl40 (hl := (by first | exact ati (hA (by omega)) (by omega) | exact ati (hB (by omega)) (by omega) | exact atig (by omega)))) (S.o (q.fs 0 am_fi40_0 am_cl3) (S.o (q.ls am_ag3) (S.o q.as (S.end (hK _ ?_))))))
          clear hK K
          show EvY _ _ _ _ _ _ _
          refine EvY.seq ?_
          have hx : ∃ x, x = nextX a' b' := ⟨_, rfl⟩
          obtain ⟨x, hx⟩ := hx
          first
          | rw [nx_m (hA (by omega)) (hB (by omega))]
          | rw [nx_b (a := a') (by omega) (hB (by omega))]
          | rw [nx_a (b := b') (by omega) (hA (by omega))]
          rw [← hx]
          refine EvY.yieldT hRnd 2 x (by omega) rfl fun K hK => ?_
          simp only [List.take_succ_cons, List.take_zero]
          refine S.o q.mv (S.o q.mv (S.end (hK _ ?_)))
          clear hK K
          refine ⟨rfl, ⟨[_], rfl, rfl⟩, Nat.le_of_ble_eq_true rfl, ?_, ?_⟩
          · refine SeqL.k fun K hK => ?_
            simp only [List.drop_succ_cons, List.drop_zero, St.put]
            refine S.o q.nott (S.end (hK _ ?_))
            clear hK K
            refine EvY.cf ?_
            refine EvY.skip ?_
            show EvY _ _ _ _ _ _ _
            refine EvY.seq ?_
            refine EvY.sr fun K hK => S.o (q.lv am_ag31) (S.o (q.lens am_el31) (S.o q.gtr (S.bd q.mv (fun c39 => ?_) (fun c39 => ?_))))
            · first
            | (first | omega | contradiction)
            | refine S.o (q.lv am_ag31) (S.o (q.ix am_el31 am_cl40 (hl := (by first | exact ati (hA (by omega)) (by omega) | exact ati (hB (by omega)) (by omega) | exact atig (by omega)))) (S.o (q.fs 0 am_fi40_0 am_cl3) (S.o (q.ls am_ag3) (S.o q.mv (S.o q.eql (S.o q.pt (S.end (hK _ ?_))))))))
              clear hK K
              refine EvY.cd (fun c40 => ?_) (fun c40 => ?_)
              · first
              | (first | omega | contradiction)
              | refine EvY.region_S fun K hK => S.o (q.lv am_ag31) (S.o (q.sh am_el31 am_cl40) (S.sv [_] true [_] am_in31 am_cl31 (h := S.end (hK _ ?_))))
                clear hK K
                show EvY _ _ _ _ _ _ _
                refine EvY.sr fun K hK => S.o (q.lv am_ag31) (S.o (q.lens am_el31) (S.o q.gtr (S.bd q.mv (fun c41 => ?_) (fun c41 => ?_))))
                · first
                | (first | omega | contradiction)
                | refine S.o (q.lv am_ag31) (S.o (q.ix am_el31 am_cl40 (hl := (by first | exact ati (hA (by omega)) (by omega) | exact ati (hB (by omega)) (by omega) | exact atig (by omega)))) (S.o (q.fs 0 am_fi40_0 am_cl3) (S.o (q.ls am_ag3) (S.o q.mv (S.o q.eql (S.o q.pt (S.end (hK _ ?_))))))))
                  clear hK K
                  refine EvY.cd (fun c42 => ?_) (fun c42 => ?_)
                  · first
                  | (first | omega | contradiction)
                  | refine EvY.region_S fun K hK => S.o (q.lv am_ag31) (S.o (q.sh am_el31 am_cl40) (S.sv [_] true [_] am_in31 am_cl31 (h := S.end (hK _ ?_))))
                    clear hK K
                    refine hR0 _ _ _ ?_
                    refine roundYU [0, 1] [0, 1, 2] ⟨(pre ++ [x], dropX x a', dropX x b'), brk_step hinv (by omega) hx⟩ ?_ (keep_c (he := (by first | exact row_t (hA (by omega)) (by omega) | exact row_f (hA (by omega)) (by omega) | exact row_n (by omega) | rfl)) (h := (keep_c (he := (by first | exact row_t (hB (by omega)) (by omega) | exact row_f (hB (by omega)) (by omega) | exact row_n (by omega) | rfl)) (h := keep_n)))) trivial (.c (.c (.c .n))) rfl
                    skip
                    all_goals exact dx_lt (by omega) hx
                  · first
                  | (first | omega | contradiction)
                  | refine EvY.skip ?_
                    refine hR0 _ _ _ ?_
                    refine roundYU [0, 1] [0, 1, 2] ⟨(pre ++ [x], dropX x a', dropX x b'), brk_step hinv (by omega) hx⟩ ?_ (keep_c (he := (by first | exact row_t (hA (by omega)) (by omega) | exact row_f (hA (by omega)) (by omega) | exact row_n (by omega) | rfl)) (h := (keep_c (he := (by first | exact row_t (hB (by omega)) (by omega) | exact row_f (hB (by omega)) (by omega) | exact row_n (by omega) | rfl)) (h := keep_n)))) trivial (.c (.c (.c .n))) rfl
                    skip
                    all_goals exact dx_lt (by omega) hx
                · first
                | (first | omega | contradiction)
                | refine S.sk (S.sk (S.sk (S.sk (S.sk (S.sk (S.o q.pf (S.end (hK _ ?_))))))))
                  clear hK K
                  refine EvY.cf ?_
                  refine EvY.skip ?_
                  refine hR0 _ _ _ ?_
                  refine roundYU [0, 1] [0, 1, 2] ⟨(pre ++ [x], dropX x a', dropX x b'), brk_step hinv (by omega) hx⟩ ?_ (keep_c (he := (by first | exact row_t (hA (by omega)) (by omega) | exact row_f (hA (by omega)) (by omega) | exact row_n (by omega) | rfl)) (h := (keep_c (he := (by first | exact row_t (hB (by omega)) (by omega) | exact row_f (hB (by omega)) (by omega) | exact row_n (by omega) | rfl)) (h := keep_n)))) trivial (.c (.c (.c .n))) rfl
                  skip
                  all_goals exact dx_lt (by omega) hx
              · first
              | (first | omega | contradiction)
              | refine EvY.skip ?_
                show EvY _ _ _ _ _ _ _
                refine EvY.sr fun K hK => S.o (q.lv am_ag31) (S.o (q.lens am_el31) (S.o q.gtr (S.bd q.mv (fun c43 => ?_) (fun c43 => ?_))))
                · first
                | (first | omega | contradiction)
                | refine S.o (q.lv am_ag31) (S.o (q.ix am_el31 am_cl40 (hl := (by first | exact ati (hA (by omega)) (by omega) | exact ati (hB (by omega)) (by omega) | exact atig (by omega)))) (S.o (q.fs 0 am_fi40_0 am_cl3) (S.o (q.ls am_ag3) (S.o q.mv (S.o q.eql (S.o q.pt (S.end (hK _ ?_))))))))
                  clear hK K
                  refine EvY.cd (fun c44 => ?_) (fun c44 => ?_)
                  · first
                  | (first | omega | contradiction)
                  | refine EvY.region_S fun K hK => S.o (q.lv am_ag31) (S.o (q.sh am_el31 am_cl40) (S.sv [_] true [_] am_in31 am_cl31 (h := S.end (hK _ ?_))))
                    clear hK K
                    refine hR0 _ _ _ ?_
                    refine roundYU [0, 1] [0, 1, 2] ⟨(pre ++ [x], dropX x a', dropX x b'), brk_step hinv (by omega) hx⟩ ?_ (keep_c (he := (by first | exact row_t (hA (by omega)) (by omega) | exact row_f (hA (by omega)) (by omega) | exact row_n (by omega) | rfl)) (h := (keep_c (he := (by first | exact row_t (hB (by omega)) (by omega) | exact row_f (hB (by omega)) (by omega) | exact row_n (by omega) | rfl)) (h := keep_n)))) trivial (.c (.c (.c .n))) rfl
                    skip
                    all_goals exact dx_lt (by omega) hx
                  · first
                  | (first | omega | contradiction)
                  | refine EvY.skip ?_
                    refine hR0 _ _ _ ?_
                    refine roundYU [0, 1] [0, 1, 2] ⟨(pre ++ [x], dropX x a', dropX x b'), brk_step hinv (by omega) hx⟩ ?_ (keep_c (he := (by first | exact row_t (hA (by omega)) (by omega) | exact row_f (hA (by omega)) (by omega) | exact row_n (by omega) | rfl)) (h := (keep_c (he := (by first | exact row_t (hB (by omega)) (by omega) | exact row_f (hB (by omega)) (by omega) | exact row_n (by omega) | rfl)) (h := keep_n)))) trivial (.c (.c (.c .n))) rfl
                    skip
                    all_goals exact dx_lt (by omega) hx
                · first
                | (first | omega | contradiction)
                | refine S.sk (S.sk (S.sk (S.sk (S.sk (S.sk (S.o q.pf (S.end (hK _ ?_))))))))
                  clear hK K
                  refine EvY.cf ?_
                  refine EvY.skip ?_
                  refine hR0 _ _ _ ?_
                  refine roundYU [0, 1] [0, 1, 2] ⟨(pre ++ [x], dropX x a', dropX x b'), brk_step hinv (by omega) hx⟩ ?_ (keep_c (he := (by first | exact row_t (hA (by omega)) (by omega) | exact row_f (hA (by omega)) (by omega) | exact row_n (by omega) | rfl)) (h := (keep_c (he := (by first | exact row_t (hB (by omega)) (by omega) | exact row_f (hB (by omega)) (by omega) | exact row_n (by omega) | rfl)) (h := keep_n)))) trivial (.c (.c (.c .n))) rfl
                  skip
                  all_goals exact dx_lt (by omega) hx
            · first
            | (first | omega | contradiction)
            | refine S.sk (S.sk (S.sk (S.sk (S.sk (S.sk (S.o q.pf (S.end (hK _ ?_))))))))
              clear hK K
              refine EvY.cf ?_
              refine EvY.skip ?_
              show EvY _ _ _ _ _ _ _
              refine EvY.sr fun K hK => S.o (q.lv am_ag31) (S.o (q.lens am_el31) (S.o q.gtr (S.bd q.mv (fun c45 => ?_) (fun c45 => ?_))))
              · first
              | (first | omega | contradiction)
              | refine S.o (q.lv am_ag31) (S.o (q.ix am_el31 am_cl40 (hl := (by first | exact ati (hA (by omega)) (by omega) | exact ati (hB (by omega)) (by omega) | exact atig (by omega)))) (S.o (q.fs 0 am_fi40_0 am_cl3) (S.o (q.ls am_ag3) (S.o q.mv (S.o q.eql (S.o q.pt (S.end (hK _ ?_))))))))
                clear hK K
                refine EvY.cd (fun c46 => ?_) (fun c46 => ?_)
                · first
                | (first | omega | contradiction)
                | refine EvY.region_S fun K hK => S.o (q.lv am_ag31) (S.o (q.sh am_el31 am_cl40) (S.sv [_] true [_] am_in31 am_cl31 (h := S.end (hK _ ?_))))
                  clear hK K
                  refine hR0 _ _ _ ?_
                  refine roundYU [0, 1] [0, 1, 2] ⟨(pre ++ [x], dropX x a', dropX x b'), brk_step hinv (by omega) hx⟩ ?_ (keep_c (he := (by first | exact row_t (hA (by omega)) (by omega) | exact row_f (hA (by omega)) (by omega) | exact row_n (by omega) | rfl)) (h := (keep_c (he := (by first | exact row_t (hB (by omega)) (by omega) | exact row_f (hB (by omega)) (by omega) | exact row_n (by omega) | rfl)) (h := keep_n)))) trivial (.c (.c (.c .n))) rfl
                  skip
                  all_goals exact dx_lt (by omega) hx
                · first
                | (first | omega | contradiction)
                | refine EvY.skip ?_
                  refine hR0 _ _ _ ?_
                  refine roundYU [0, 1] [0, 1, 2] ⟨(pre ++ [x], dropX x a', dropX x b'), brk_step hinv (by omega) hx⟩ ?_ (keep_c (he := (by first | exact row_t (hA (by omega)) (by omega) | exact row_f (hA (by omega)) (by omega) | exact row_n (by omega) | rfl)) (h := (keep_c (he := (by first | exact row_t (hB (by omega)) (by omega) | exact row_f (hB (by omega)) (by omega) | exact row_n (by omega) | rfl)) (h := keep_n)))) trivial (.c (.c (.c .n))) rfl
                  skip
                  all_goals exact dx_lt (by omega) hx
              · first
              | (first | omega | contradiction)
              | refine S.sk (S.sk (S.sk (S.sk (S.sk (S.sk (S.o q.pf (S.end (hK _ ?_))))))))
                clear hK K
                refine EvY.cf ?_
                refine EvY.skip ?_
                refine hR0 _ _ _ ?_
                refine roundYU [0, 1] [0, 1, 2] ⟨(pre ++ [x], dropX x a', dropX x b'), brk_step hinv (by omega) hx⟩ ?_ (keep_c (he := (by first | exact row_t (hA (by omega)) (by omega) | exact row_f (hA (by omega)) (by omega) | exact row_n (by omega) | rfl)) (h := (keep_c (he := (by first | exact row_t (hB (by omega)) (by omega) | exact row_f (hB (by omega)) (by omega) | exact row_n (by omega) | rfl)) (h := keep_n)))) trivial (.c (.c (.c .n))) rfl
                skip
                all_goals exact dx_lt (by omega) hx
          · refine SeqL.k fun K hK => ?_
            simp only [List.drop_succ_cons, List.drop_zero, St.put]
            refine S.o q.notf (S.end (hK _ ?_))
            clear hK K
            refine EvY.ct ?_
            refine EvY.ret ?_
            refine hR0 _ _ _ ?_
            exact ⟨.inr rfl, fun h => (by cases h), fun _ => trivial⟩
        · first
        | (first | omega | contradiction)
        | refine EvY.region_M (tbs [(0, 0), (1, 1), (2, 3), (3, 7), (0, 0), (5, 16), (6, 48), (7, 112), (8, 255), (9, 511)]) 9 fun K hK => M.o (q.lv am_ag31) (M.o (q.ix am_el31 am_cl40 (hl := (by first | exact ati (hA (by omega)) (by omega) | exact ati (hB (by omega)) (by omega) | exact atig (by omega)))) (M.o (q.fs 0 am_fi40_0 am_cl3) (M.o (q.ls am_ag3) (M.o (q.lv am_ag31) (M.o (q.ix am_el31 am_cl40 (hl := (by first | exact ati (hA (by omega)) (by omega) | exact ati (hB (by omega)) (by omega) | exact atig (by omega)))) (M.o (q.fs 0 am_fi40_0 am_cl3) (M.o (q.ls am_ag3) (M.o q.min (M.end [_, _] (h := S.o q.as (S.end (hK _ ?_))))))))))))
          clear hK K
          show EvY _ _ _ _ _ _ _
          refine EvY.seq ?_
          have hx : ∃ x, x = nextX a' b' := ⟨_, rfl⟩
          obtain ⟨x, hx⟩ := hx
          first
          | rw [nx_m (hA (by omega)) (hB (by omega))]
          | rw [nx_b (a := a') (by omega) (hB (by omega))]
          | rw [nx_a (b := b') (by omega) (hA (by omega))]
          rw [← hx]
          refine EvY.yieldT hRnd 2 x (by omega) rfl fun K hK => ?_
          simp only [List.take_succ_cons, List.take_zero]
          refine S.o q.mv (S.o q.mv (S.end (hK _ ?_)))
          clear hK K
          refine ⟨rfl, ⟨[_], rfl, rfl⟩, Nat.le_of_ble_eq_true rfl, ?_, ?_⟩
          · refine SeqL.k fun K hK => ?_
            simp only [List.drop_succ_cons, List.drop_zero, St.put]
            refine S.o q.nott (S.end (hK _ ?_))
            clear hK K
            refine EvY.cf ?_
            refine EvY.skip ?_
            show EvY _ _ _ _ _ _ _
            refine EvY.seq ?_
            refine EvY.sr fun K hK => S.o (q.lv am_ag31) (S.o (q.lens am_el31) (S.o q.gtr (S.bd q.mv (fun c47 => ?_) (fun c47 => ?_))))
            · first
            | (first | omega | contradiction)
            | refine S.o (q.lv am_ag31) (S.o (q.ix am_el31 am_cl40 (hl := (by first | exact ati (hA (by omega)) (by omega) | exact ati (hB (by omega)) (by omega) | exact atig (by omega)))) (S.o (q.fs 0 am_fi40_0 am_cl3) (S.o (q.ls am_ag3) (S.o q.mv (S.o q.eql (S.o q.pt (S.end (hK _ ?_))))))))
              clear hK K
              refine EvY.cd (fun c48 => ?_) (fun c48 => ?_)
              · first
              | (first | omega | contradiction)
              | refine EvY.region_S fun K hK => S.o (q.lv am_ag31) (S.o (q.sh am_el31 am_cl40) (S.sv [_] true [_] am_in31 am_cl31 (h := S.end (hK _ ?_))))
                clear hK K
                show EvY _ _ _ _ _ _ _
                refine EvY.sr fun K hK => S.o (q.lv am_ag31) (S.o (q.lens am_el31) (S.o q.gtr (S.bd q.mv (fun c49 => ?_) (fun c49 => ?_))))
                · first
                | (first | omega | contradiction)
                | refine S.o (q.lv am_ag31) (S.o (q.ix am_el31 am_cl40 (hl := (by first | exact ati (hA (by omega)) (by omega) | exact ati (hB (by omega)) (by omega) | exact atig (by omega)))) (S.o (q.fs 0 am_fi40_0 am_cl3) (S.o (q.ls am_ag3) (S.o q.mv (S.o q.eql (S.o q.pt (S.end (hK _ ?_))))))))
                  clear hK K
                  refine EvY.cd (fun c50 => ?_) (fun c50 => ?_)
                  · first
                  | (first | omega | contradiction)
                  | refine EvY.region_S fun K hK => S.o (q.lv am_ag31) (S.o (q.sh am_el31 am_cl40) (S.sv [_] true [_] am_in31 am_cl31 (h := S.end (hK _ ?_))))
                    clear hK K
                    refine hR0 _ _ _ ?_
                    refine roundYU [0, 1] [0, 1, 2] ⟨(pre ++ [x], dropX x a', dropX x b'), brk_step hinv (by omega) hx⟩ ?_ (keep_c (he := (by first | exact row_t (hA (by omega)) (by omega) | exact row_f (hA (by omega)) (by omega) | exact row_n (by omega) | rfl)) (h := (keep_c (he := (by first | exact row_t (hB (by omega)) (by omega) | exact row_f (hB (by omega)) (by omega) | exact row_n (by omega) | rfl)) (h := keep_n)))) trivial (.c (.c (.c .n))) rfl
                    skip
                    all_goals exact dx_lt (by omega) hx
                  · first
                  | (first | omega | contradiction)
                  | refine EvY.skip ?_
                    refine hR0 _ _ _ ?_
                    refine roundYU [0, 1] [0, 1, 2] ⟨(pre ++ [x], dropX x a', dropX x b'), brk_step hinv (by omega) hx⟩ ?_ (keep_c (he := (by first | exact row_t (hA (by omega)) (by omega) | exact row_f (hA (by omega)) (by omega) | exact row_n (by omega) | rfl)) (h := (keep_c (he := (by first | exact row_t (hB (by omega)) (by omega) | exact row_f (hB (by omega)) (by omega) | exact row_n (by omega) | rfl)) (h := keep_n)))) trivial (.c (.c (.c .n))) rfl
                    skip
                    all_goals exact dx_lt (by omega) hx
                · first
                | (first | omega | contradiction)
                | refine S.sk (S.sk (S.sk (S.sk (S.sk (S.sk (S.o q.pf (S.end (hK _ ?_))))))))
                  clear hK K
                  refine EvY.cf ?_
                  refine EvY.skip ?_
                  refine hR0 _ _ _ ?_
                  refine roundYU [0, 1] [0, 1, 2] ⟨(pre ++ [x], dropX x a', dropX x b'), brk_step hinv (by omega) hx⟩ ?_ (keep_c (he := (by first | exact row_t (hA (by omega)) (by omega) | exact row_f (hA (by omega)) (by omega) | exact row_n (by omega) | rfl)) (h := (keep_c (he := (by first | exact row_t (hB (by omega)) (by omega) | exact row_f (hB (by omega)) (by omega) | exact row_n (by omega) | rfl)) (h := keep_n)))) trivial (.c (.c (.c .n))) rfl
                  skip
                  all_goals exact dx_lt (by omega) hx
              · first
              | (first | omega | contradiction)
              | refine EvY.skip ?_
                show EvY _ _ _ _ _ _ _
                refine EvY.sr fun K hK => S.o (q.lv am_ag31) (S.o (q.lens am_el31) (S.o q.gtr (S.bd q.mv (fun c51 => ?_) (fun c51 => ?_))))
                · first
                | (first | omega | contradiction)
                | refine S.o (q.lv am_ag31) (S.o (q.ix am_el31 am_cl40 (hl := (by first | exact ati (hA (by omega)) (by omega) | exact ati (hB (by omega)) (by omega) | exact atig (by omega)))) (S.o (q.fs 0 am_fi40_0 am_cl3) (S.o (q.ls am_ag3) (S.o q.mv (S.o q.eql (S.o q.pt (S.end (hK _ ?_))))))))
                  clear hK K
                  refine EvY.cd (fun c52 => ?_) (fun c52 => ?_)
                  · first
                  | (first | omega | contradiction)
                  | refine EvY.region_S fun K hK => S.o (q.lv am_ag31) (S.o (q.sh am_el31 am_cl40) (S.sv [_] true [_] am_in31 am_cl31 (h := S.end (hK _ ?_))))
                    clear hK K
                    refine hR0 _ _ _ ?_
                    refine roundYU [0, 1] [0, 1, 2] ⟨(pre ++ [x], dropX x a', dropX x b'), brk_step hinv (by omega) hx⟩ ?_ (keep_c (he := (by first | exact row_t (hA (by omega)) (by omega) | exact row_f (hA (by omega)) (by omega) | exact row_n (by omega) | rfl)) (h := (keep_c (he := (by first | exact row_t (hB (by omega)) (by omega) | exact row_f (hB (by omega)) (by omega) | exact row_n (by omega) | rfl)) (h := keep_n)))) trivial (.c (.c (.c .n))) rfl
                    skip
                    all_goals exact dx_lt (by omega) hx
                  · first
                  | (first | omega | contradiction)
                  | refine EvY.skip ?_
                    refine hR0 _ _ _ ?_
                    refine roundYU [0, 1] [0, 1, 2] ⟨(pre ++ [x], dropX x a', dropX x b'), brk_step hinv (by omega) hx⟩ ?_ (keep_c (he := (by first | exact row_t (hA (by omega)) (by omega) | exact row_f (hA (by omega)) (by omega) | exact row_n (by omega) | rfl)) (h := (keep_c (he := (by first | exact row_t (hB (by omega)) (by omega) | exact row_f (hB (by omega)) (by omega) | exact row_n (by omega) | rfl)) (h := keep_n)))) trivial (.c (.c (.c .n))) rfl
                    skip
                    all_goals exact dx_lt (by omega) hx
                · first
                | (first | omega | contradiction)
                | refine S.sk (S.sk (S.sk (S.sk (S.sk (S.sk (S.o q.pf (S.end (hK _ ?_))))))))
                  clear hK K
                  refine EvY.cf ?_
                  refine EvY.skip ?_
                  refine hR0 _ _ _ ?_
                  refine roundYU [0, 1] [0, 1, 2] ⟨(pre ++ [x], dropX x a', dropX x b'), brk_step hinv (by omega) hx⟩ ?_ (keep_c (he := (by first | exact row_t (hA (by omega)) (by omega) | exact row_f (hA (by omega)) (by omega) | exact row_n (by omega) | rfl)) (h := (keep_c (he := (by first | exact row_t (hB (by omega)) (by omega) | exact row_f (hB (by omega)) (by omega) | exact row_n (by omega) | rfl)) (h := keep_n)))) trivial (.c (.c (.c .n))) rfl
                  skip
                  all_goals exact dx_lt (by omega) hx
            · first
            | (first | omega | contradiction)
            | refine S.sk (S.sk (S.sk (S.sk (S.sk (S.sk (S.o q.pf (S.end (hK _ ?_))))))))
              clear hK K
              refine EvY.cf ?_
              refine EvY.skip ?_
              show EvY _ _ _ _ _ _ _
              refine EvY.sr fun K hK => S.o (q.lv am_ag31) (S.o (q.lens am_el31) (S.o q.gtr (S.bd q.mv (fun c53 => ?_) (fun c53 => ?_))))
              · first
              | (first | omega | contradiction)
              | refine S.o (q.lv am_ag31) (S.o (q.ix am_el31 am_cl40 (hl := (by first | exact ati (hA (by omega)) (by omega) | exact ati (hB (by omega)) (by omega) | exact atig (by omega)))) (S.o (q.fs 0 am_fi40_0 am_cl3) (S.o (q.ls am_ag3) (S.o q.mv (S.o q.eql (S.o q.pt (S.end (hK _ ?_))))))))
                clear hK K
                refine EvY.cd (fun c54 => ?_) (fun c54 => ?_)
                · first
                | (first | omega | contradiction)
                | refine EvY.region_S fun K hK => S.o (q.lv am_ag31) (S.o (q.sh am_el31 am_cl40) (S.sv [_] true [_] am_in31 am_cl31 (h := S.end (hK _ ?_))))
                  clear hK K
                  refine hR0 _ _ _ ?_
                  refine roundYU [0, 1] [0, 1, 2] ⟨(pre ++ [x], dropX x a', dropX x b'), brk_step hinv (by omega) hx⟩ ?_ (keep_c (he := (by first | exact row_t (hA (by omega)) (by omega) | exact row_f (hA (by omega)) (by omega) | exact row_n (by omega) | rfl)) (h := (keep_c (he := (by first | exact row_t (hB (by omega)) (by omega) | exact row_f (hB (by omega)) (by omega) | exact row_n (by omega) | rfl)) (h := keep_n)))) trivial (.c (.c (.c .n))) rfl
                  skip
                  all_goals exact dx_lt (by omega) hx
                · first
                | (first | omega | contradiction)
                | refine EvY.skip ?_
                  refine hR0 _ _ _ ?_
                  refine roundYU [0, 1] [0, 1, 2] ⟨(pre ++ [x], dropX x a', dropX x b'), brk_step hinv (by omega) hx⟩ ?_ (keep_c (he := (by first | exact row_t (hA (by omega)) (by omega) | exact row_f (hA (by omega)) (by omega) | exact row_n (by omega) | rfl)) (h := (keep_c (he := (by first | exact row_t (hB (by omega)) (by omega) | exact row_f (hB (by omega)) (by omega) | exact row_n (by omega) | rfl)) (h := keep_n)))) trivial (.c (.c (.c .n))) rfl
                  skip
                  all_goals exact dx_lt (by omega) hx
              · first
              | (first | omega | contradiction)
              | refine S.sk (S.sk (S.sk (S.sk (S.sk (S.sk (S.o q.pf (S.end (hK _ ?_))))))))
                clear hK K
                refine EvY.cf ?_
                refine EvY.skip ?_
                refine hR0 _ _ _ ?_
                refine roundYU [0, 1] [0, 1, 2] ⟨(pre ++ [x], dropX x a', dropX x b'), brk_step hinv (by omega) hx⟩ ?_ (keep_c (he := (by first | exact row_t (hA (by omega)) (by omega) | exact row_f (hA (by omega)) (by omega) | exact row_n (by omega) | rfl)) (h := (keep_c (he := (by first | exact row_t (hB (by omega)) (by omega) | exact row_f (hB (by omega)) (by omega) | exact row_n (by omega) | rfl)) (h := keep_n)))) trivial (.c (.c (.c .n))) rfl
                skip
                all_goals exact dx_lt (by omega) hx
          · refine SeqL.k fun K hK => ?_
            simp only [List.drop_succ_cons, List.drop_zero, St.put]
            refine S.o q.notf (S.end (hK _ ?_))
            clear hK K
            refine EvY.ct ?_
            refine EvY.ret ?_
            refine hR0 _ _ _ ?_
            exact ⟨.inr rfl, fun h => (by cases h), fun _ => trivial⟩
    · first
    | (first | omega | contradiction)
    | refine EvY.exit ?_
      refine hR0 _ _ _ ?_
      have hfin := hinv.1 [] ⟨List.eq_nil_of_length_eq_zero (by omega), List.eq_nil_of_length_eq_zero (by omega)⟩
      rw [List.append_nil] at hfin
      exact ⟨.inl rfl, fun _ => hfin, fun h => by cases h⟩
theorem breaks_fun (a b : List (Int × Int)) : Fun Tryd.prog 36 [.sh 2 (a.map pairC), .sh 2 (b.map pairC)] (Ret (.fn (.func 53) [] [.adr 0 0 0, .adr 1 0 0]) [(0, ⟨false, 31, 1, [[.sh 2 (a.map pairC)]], true⟩), (1, ⟨false, 31, 1, [[.sh 2 (b.map pairC)]], true⟩)]) := by
  refine Fun.of (nt := 6) (rs := [.tmp 4]) Tryd.func36 rfl rfl rfl rfl rfl ?_
  refine Ev.sr fun K hK => S.nn (q.bx [_] true) (S.nn (q.bx [_] true) (S.o q.as (S.end (hK _ ?_))))
  clear hK K
  refine Ev.sr fun K hK => S.o q.mf (S.o q.as (S.end (hK _ ?_)))
  clear hK K
  refine Ev.ret ?_
  refine Ev.retg [0, 1] (res_t res_n) ?_
  refine ⟨?_, ?_⟩
  all_goals rfl
theorem Below_fun (a b : List (Int × Int)) (ha : okSteps a) (hb : okSteps b) (hge : ∀ y, atF 0 b y ≤ atF 0 a y) : Fun Tryd.prog 14 [.sh 2 (a.map pairC), .sh 2 (b.map pairC), .lit (.int .i64 (-1048576)), .lit (.int .i64 1048576)] (Ret (.tup [.lit (.int .i64 0), .lit (.int .i64 12)]) []) := by
  have ha1 := ha.1
  have hb1 := hb.1
  have hp1 : Place (-1048576) := by decide
  have hp2 : Place 1048576 := by decide
  have hg0 := hge (-1048576)
  refine Fun.ofT (nt := 64) (rs := [.cell 8 3, .cell 9 32]) Tryd.func14 rfl rfl rfl rfl rfl ?_
  refine EvT.sr fun K hK => S.nn (q.bx [_] true) (S.nn (q.bx [_] true) (S.nn (q.bx [_] true) (S.nn (q.bx [_] true) (S.nn (q.al am_ze3) (S.nn (q.al am_ze32) (S.end (hK _ ?_)))))))
  clear hK K
  refine EvT.split ?_
  refine Ev.block ?_
  refine Ev.sr fun K hK => S.o (q.lv am_ag31) (S.c0 (hF := stepsValid_fun _ (by omega)) (h := S.o q.not (S.bn q.mv (fun c1 => ?_) (fun c1 => ?_))))
  · first
  | (first | omega | contradiction)
  | refine S.sk (S.sk (S.sk (S.o q.pt (S.o q.as (S.end (hK _ ?_))))))
    clear hK K
    refine Ev.ct ?_
    first | omega | contradiction
  · first
  | (first | omega | contradiction)
  | refine S.o (q.lv am_ag31) (S.c0 (hF := stepsValid_fun _ (by omega)) (h := S.o q.not (S.o q.pf (S.o q.as (S.end (hK _ ?_))))))
    clear hK K
    refine Ev.cn (fun c2 => ?_) (fun c2 => ?_)
    · first
    | (first | omega | contradiction)
    | first | omega | contradiction
    · first
    | (first | omega | contradiction)
    | refine Ev.sr fun K hK => S.o (q.lv am_ag3) (S.c0 (hF := place_fun _) (h := S.o q.not (S.bn q.mv (fun c3 => ?_) (fun c3 => ?_))))
      · first
      | (first | omega | contradiction)
      | refine S.sk (S.sk (S.sk (S.o q.pt (S.o q.mv (S.sk (S.sk (S.sk (S.o q.pt (S.o q.as (S.end (hK _ ?_)))))))))))
        clear hK K
        refine Ev.ct ?_
        first | omega | contradiction
      · first
      | (first | omega | contradiction)
      | refine S.o (q.lv am_ag3) (S.c0 (hF := place_fun _) (h := S.o q.not (S.o q.pf (S.bn q.mv (fun c4 => ?_) (fun c4 => ?_)))))
        · first
        | (first | omega | contradiction)
        | refine S.sk (S.sk (S.sk (S.o q.pt (S.o q.as (S.end (hK _ ?_))))))
          clear hK K
          refine Ev.ct ?_
          first | omega | contradiction
        · first
        | (first | omega | contradiction)
        | refine S.o (q.lv am_ag3) (S.o (q.lv am_ag3) (S.o q.gtr (S.o q.pf (S.o q.as (S.end (hK _ ?_))))))
          clear hK K
          refine Ev.cd (fun c5 => ?_) (fun c5 => ?_)
          · first
          | (first | omega | contradiction)
          | first | omega | contradiction
          · first
          | (first | omega | contradiction)
          | refine Ev.skip ?_
            show EvT _ _ _ _
            refine EvT.split ?_
            refine Ev.sm (tbs [(0, 0), (0, 0), (2, 3), (0, 0), (0, 0), (5, 31), (6, 63)]) 7 fun K hK => M.o (q.lv am_ag31) (M.o (q.lv am_ag3) (M.c0 (hF := at_fun a (-1048576) ha) (h := M.o (q.lv am_ag31) (M.o (q.lv am_ag3) (M.c0 (hF := at_fun b (-1048576) hb) (h := M.o q.lss (M.end [_, _, _, _, _, _] (h := S.end (hK _ ?_)))))))))
            clear hK K
            refine Ev.cd (fun c6 => ?_) (fun c6 => ?_)
            · first
            | (first | omega | contradiction)
            | first | omega | contradiction
            · first
            | (first | omega | contradiction)
            | refine Ev.skip ?_
              show EvT _ _ _ _
              refine EvT.ofB ?_
              refine EvB.weaken (Wk.frzv 4 [_, _, _, _, _]) ?_
              refine EvB.weaken (Wk.frzv 5 [_, _, _, _]) ?_
              refine EvB.weaken (Wk.frzv 6 [_, _, _]) ?_
              refine EvB.weaken (Wk.frzv 7 [_, _]) ?_
              refine EvB.sr fun K hK => S.o (q.ls am_ag31) (S.o (q.ls am_ag31) (S.cg 36 [_, _, _, _] (hF := breaks_fun a b) (hn' := belowL rfl rfl) (h := S.end (hK _ ?_))))
              clear hK K
              refine EvB.weaken (WkU [4, 5, 34, 35] [4, 5, 6, 7] [(44, .fn (.func 53) [] [.adr 2 0 0, .adr 3 0 0]), (8, .adr 0 0 0), (9, .adr 1 0 0)] [(0, ⟨false, 3, 1, [[.lit (.int .i64 0)]], true⟩), (1, ⟨false, 32, 1, [[.lit (.int .i64 0)]], true⟩), (2, ⟨false, 31, 1, [[.sh 2 (a.map pairC)]], true⟩), (3, ⟨false, 31, 1, [[.sh 2 (b.map pairC)]], true⟩)] (.c (.c (.c (.c .n)))) (keep_c (he := rfl) (h := (keep_c (he := rfl) (h := (keep_c (he := rfl) (h := (keep_c (he := rfl) (h := keep_n)))))))) (slots_c (he := rfl) (h := (slots_c (he := rfl) (h := (slots_c (he := rfl) (h := trivial))))))) ?_
              dsimp only [List.cons_append, List.nil_append, List.length_cons, List.length_nil]
              refine EvB.range (α := Int) (enc := fun x => .int .i64 x) (N := a.length + b.length) (K := 2) [2, 3] (fun pre => [(0, ⟨false, 3, 1, [[.lit (.int .i64 0)]], true⟩), (1, ⟨false, 32, 1, [[.lit (.int .i64 0)]], true⟩)]) (fun _ _ => False) (breaks1_seq a b (by omega) (by omega)) rfl rfl rfl (by decide) (keep_c (he := rfl) (h := (keep_c (he := rfl) (h := keep_n)))) (h0_app (m := [(2, ⟨false, 31, 1, [[.sh 2 (a.map pairC)]], true⟩), (3, ⟨false, 31, 1, [[.sh 2 (b.map pairC)]], true⟩)]) rfl) (fun pre r hr => by rcases r with _ | _ | _ | r <;> first | exact ⟨_, rfl⟩ | omega) (stays.c (stays.c (stays.c (stays.c (stays.c (stays.c (stays.nil 2) rfl) rfl) rfl) rfl) rfl) rfl) (by decide) (by decide) ?_ ?_ ?_
              · intro l0 m0 pre x hlen
                try dsimp only
                have hgx := hge x
                refine EvI.block ?_
                refine EvI.stp (m := 17) (L0 := #[false, false, false, false, false, false, false, false, false, false, false, false, false, false, false, false, false]) rfl (by kernel_rfl) (by exact rfl) fun K hK => ?_
                refine HP.mv (i := 0) rfl (h := ?_)
                refine HP.ls1 (i := 1) am_ag3 rfl (h := ?_)
                refine .done ?_
                refine HT.one (i := 2) trivial rfl (S.o q.gtr (S.end ?_))
                refine HT.one (i := 3) trivial rfl ?_
                refine S.bd q.mv (fun c7 => ?_) (fun c7 => ?_)
                · first
                | (first | omega | contradiction)
                | refine S.end ?_
                  refine HT.mv (i := 4) trivial rfl (h := ?_)
                  refine HT.one (i := 5) trivial rfl (S.o (q.ls am_ag3) (S.end ?_))
                  refine HT.one (i := 6) trivial rfl (S.o q.leq (S.end ?_))
                  refine HT.one (i := 7) trivial rfl (S.o q.pt (S.end ?_))
                  refine HT.one (i := 8) trivial rfl ?_
                  refine S.bd q.mv (fun c8 => ?_) (fun c8 => ?_)
                  · first
                  | (first | omega | contradiction)
                  | refine S.end ?_
                    refine HT.mv (i := 10) trivial rfl (h := ?_)
                    refine HT.mv (i := 13) trivial rfl (h := ?_)
                    refine HT.two (i := 9) (j := 12) trivial rfl rfl (S.o (q.ls am_ag31) (S.end ?_)) (S.o (q.ls am_ag31) (S.end ?_))
                    · skip
                      refine HT.two (i := 11) (j := 12) trivial rfl rfl (S.c0 (hF := at_fun a x ha) (h := S.end ?_)) (S.o (q.ls am_ag31) (S.end ?_))
                      · skip
                        refine HT.one (i := 12) trivial rfl (S.o (q.ls am_ag31) (S.end ?_))
                        refine HT.one (i := 14) trivial rfl (S.c0 (hF := at_fun b x hb) (h := S.end ?_))
                        refine HT.one (i := 15) trivial rfl (S.o q.lss (S.end ?_))
                        refine HT.one (i := 16) trivial rfl (S.o q.pt (S.end ?_))
                        refine HT.nil trivial (by kernel_rfl) (hK _ ?_)
                        clear hK K
                        refine EvI.cd (fun c9 => ?_) (fun c9 => ?_)
                        · first
                        | (first | omega | contradiction)
                        | first | omega | contradiction
                        · first
                        | (first | omega | contradiction)
                        | refine EvI.skip ?_
                          refine roundQ_n (QX := fun _ _ => False) [0, 1] (kR_c (he := rfl) (h := (kR_c (he := rfl) (h := kR_n)))) (by decide) (by decide) (leadsB rfl)
                      · skip
                        refine HT.one (i := 11) trivial rfl (S.c0 (hF := at_fun a x ha) (h := S.end ?_))
                        refine HT.one (i := 14) trivial rfl (S.c0 (hF := at_fun b x hb) (h := S.end ?_))
                        refine HT.one (i := 15) trivial rfl (S.o q.lss (S.end ?_))
                        refine HT.one (i := 16) trivial rfl (S.o q.pt (S.end ?_))
                        refine HT.nil trivial (by kernel_rfl) (hK _ ?_)
                        clear hK K
                        refine EvI.cd (fun c10 => ?_) (fun c10 => ?_)
                        · first
                        | (first | omega | contradiction)
                        | first | omega | contradiction
                        · first
                        | (first | omega | contradiction)
                        | refine EvI.skip ?_
                          refine roundQ_n (QX := fun _ _ => False) [0, 1] (kR_c (he := rfl) (h := (kR_c (he := rfl) (h := kR_n)))) (by decide) (by decide) (leadsB rfl)
                    · skip
                      refine HT.one (i := 9) trivial rfl (S.o (q.ls am_ag31) (S.end ?_))
                      refine HT.one (i := 11) trivial rfl (S.c0 (hF := at_fun a x ha) (h := S.end ?_))
                      refine HT.one (i := 14) trivial rfl (S.c0 (hF := at_fun b x hb) (h := S.end ?_))
                      refine HT.one (i := 15) trivial rfl (S.o q.lss (S.end ?_))
                      refine HT.one (i := 16) trivial rfl (S.o q.pt (S.end ?_))
                      refine HT.nil trivial (by kernel_rfl) (hK _ ?_)
                      clear hK K
                      refine EvI.cd (fun c11 => ?_) (fun c11 => ?_)
                      · first
                      | (first | omega | contradiction)
                      | first | omega | contradiction
                      · first
                      | (first | omega | contradiction)
                      | refine EvI.skip ?_
                        refine roundQ_n (QX := fun _ _ => False) [0, 1] (kR_c (he := rfl) (h := (kR_c (he := rfl) (h := kR_n)))) (by decide) (by decide) (leadsB rfl)
                  · first
                  | (first | omega | contradiction)
                  | refine S.end ?_
                    refine HT.sk (i := 9) trivial rfl ?_
                    refine HT.sk (i := 10) trivial rfl ?_
                    refine HT.sk (i := 11) trivial rfl ?_
                    refine HT.sk (i := 12) trivial rfl ?_
                    refine HT.one (i := 13) trivial rfl (S.sk (S.end ?_))
                    refine HT.one (i := 14) trivial rfl (S.sk (S.end ?_))
                    refine HT.one (i := 15) trivial rfl (S.sk (S.end ?_))
                    refine HT.one (i := 16) trivial rfl (S.o q.pf (S.end ?_))
                    refine HT.nil trivial (by kernel_rfl) (hK _ ?_)
                    clear hK K
                    refine EvI.cf ?_
                    refine EvI.skip ?_
                    refine roundQ_n (QX := fun _ _ => False) [0, 1] (kR_c (he := rfl) (h := (kR_c (he := rfl) (h := kR_n)))) (by decide) (by decide) (leadsB rfl)
                · first
                | (first | omega | contradiction)
                | refine S.end ?_
                  refine HT.sk (i := 4) trivial rfl ?_
                  refine HT.one (i := 5) trivial rfl (S.sk (S.end ?_))
                  refine HT.one (i := 6) trivial rfl (S.sk (S.end ?_))
                  refine HT.one (i := 7) trivial rfl (S.o q.pf (S.end ?_))
                  refine HT.one (i := 8) trivial rfl (S.o q.mv (S.end ?_))
                  refine HT.sk (i := 9) trivial rfl ?_
                  refine HT.sk (i := 10) trivial rfl ?_
                  refine HT.sk (i := 11) trivial rfl ?_
                  refine HT.sk (i := 12) trivial rfl ?_
                  refine HT.one (i := 13) trivial rfl (S.sk (S.end ?_))
                  refine HT.one (i := 14) trivial rfl (S.sk (S.end ?_))
                  refine HT.one (i := 15) trivial rfl (S.sk (S.end ?_))
                  refine HT.one (i := 16) trivial rfl (S.o q.pf (S.end ?_))
                  refine HT.nil trivial (by kernel_rfl) (hK _ ?_)
                  clear hK K
                  refine EvI.cf ?_
                  refine EvI.skip ?_
                  refine roundQ_n (QX := fun _ _ => False) [0, 1] (kR_c (he := rfl) (h := (kR_c (he := rfl) (h := kR_n)))) (by decide) (by decide) (leadsB rfl)
              · intro pre hS
                try dsimp only
                refine Ev.sr fun K hK => S.sv [_] true [_] am_in3 am_cl3 (h := S.sv [_] true [_] am_in32 am_cl32 (h := S.end (hK _ ?_)))
                clear hK K
                refine Ev.ret ?_
                refine Ev.retv2 (res_1 am_ag3 (res_1 am_ag32 res_n)) ?_
                refine ⟨?_, rfl⟩
                rfl
              · exact fun _ _ _ h => h.elim
theorem equalStp_fun (a b : List (Int × Int)) (ha : a.length ≤ 140737488355328) (hb : b.length ≤ 140737488355328) : Fun Tryd.prog 11 [.sh 2 (a.map pairC), .sh 2 (b.map pairC)] (Ret (.lit (.bool (decide (a = b)))) []) := by
  refine Fun.of (nt := 26) (rs := [.tmp 4]) Tryd.func11 rfl rfl rfl rfl rfl ?_
  refine Ev.sr fun K hK => S.o q.as (S.end (hK _ ?_))
  clear hK K
  refine Ev.seq ?_
  refine Ev.sr fun K hK => S.o q.mv (S.o (q.lens am_el31) (S.o q.mv (S.o (q.lens am_el31) (S.o q.neq (S.end (hK _ ?_))))))
  clear hK K
  refine Ev.cn (fun c1 => ?_) (fun c1 => ?_)
  · first
  | (first | omega | contradiction)
  | refine Ev.sr fun K hK => S.o q.as (S.end (hK _ ?_))
    clear hK K
    refine Ev.ret ?_
    refine Ev.ret1 ?_
    refine ⟨?_, rfl⟩
    first
     | exact bF (fun h => by subst h; omega)
     | exact bF (fun h => by subst h; rw [hidx] at hidx2; cases hidx2; simp at *)
     | exact bT (hinv.symm.trans (List.take_of_length_le (by omega)))
  · first
  | (first | omega | contradiction)
  | refine Ev.skip ?_
    show Ev _ _ _ _
    refine Ev.seq ?_
    refine Ev.sr fun K hK => S.o q.mv (S.o (q.lens am_el31) (S.o q.mv (S.end (hK _ ?_))))
    clear hK K
    refine Ev.block ?_
    refine Ev.loopU (ι := {q : List (Int × Int) × List (Int × Int) // q.1 ++ q.2 = a ∧ b.take q.1.length = q.1}) [] [0, 1, 12] (fun ⟨(pre, suf), _⟩ => [(13, .lit (.int .i64 ((pre.length : Int))))]) (fun ⟨(pre, suf), _⟩ => []) (fun ⟨(pre, suf), _⟩ => suf.length) ⟨([], a), rfl, rfl⟩ (.c (.c (.c .n))) keep_n (slots_c (he := (by first | rfl | (simp; done) | (congr 2; omega))) (h := trivial)) ?_
    rintro ⟨⟨pre, suf⟩, hp, hinv⟩ R0 hR0
    dsimp only [List.cons_append, List.nil_append, List.length_cons, List.length_nil]
    simp only at hp hinv
    have hpl : pre.length + suf.length = (a).length := by rw [← hp, List.length_append]
    rcases suf with _ | ⟨s, suf⟩
    · rw [List.append_nil] at hp; subst hp; simp only [List.length_nil] at hpl
      refine Ev.sr fun K hK => S.o q.lss (S.end (hK _ ?_))
      clear hK K
      refine Ev.ud (fun c2 => ?_) (fun c2 => ?_)
      · first
      | (first | omega | contradiction)
      | refine Ev.seq ?_
        refine Ev.block ?_
        refine Ev.sr fun K hK => S.o q.mv (S.o q.as (S.end (hK _ ?_)))
        clear hK K
        refine Ev.sm (tbs [(0, 0), (0, 0), (2, 3), (3, 7), (0, 0), (0, 0), (6, 48), (7, 112), (8, 255)]) 9 fun K hK => M.o q.mv (M.o q.mv (M.o (q.ix am_el31 am_cl40 (hl := (by first | exact atig (by omega)))) (M.o (q.lsA [_, _] am_ag40 am_cl40) (M.o q.mv (M.o q.mv (M.o (q.ix am_el31 am_cl40 (hl := (by first | exact atig (by omega)))) (M.o (q.lsA [_, _] am_ag40 am_cl40) (M.o (q.sneq am_eq40 (am_sq40 _ _ _ _)) (M.end [] (h := S.end (hK _ ?_)))))))))))
        clear hK K
        refine Ev.c (fun c3 => ?_) (fun c3 => ?_)
        · first
        | (first | omega | contradiction)
        | refine Ev.sr fun K hK => S.o q.as (S.end (hK _ ?_))
          clear hK K
          refine Ev.ret ?_
          refine hR0 _ _ ?_
          refine Ev.ret1 ?_
          refine ⟨?_, rfl⟩
          first
           | exact bF (fun h => by subst h; omega)
           | exact bF (fun h => by subst h; rw [hidx] at hidx2; cases hidx2; simp at *)
           | exact bT (hinv.symm.trans (List.take_of_length_le (by omega)))
        · first
        | (first | omega | contradiction)
        | refine Ev.skip ?_
          show Ev _ _ _ _
          refine Ev.region_S fun K hK => S.o q.add (S.o q.mv (S.end (hK _ ?_)))
          clear hK K
          refine hR0 _ _ ?_
          refine roundU [] [0, 1, 12] ⟨(pre ++ [s], suf), by rw [← hp]; simp, ?_⟩ ?_ keep_n (slots_c (he := (by first | rfl | (simp; done) | (congr 2; omega))) (h := trivial)) (.c (.c (.c .n)))
          simp only [List.length_append, List.length_cons, List.length_nil, Nat.zero_add]
          rw [List.take_add_one, hinv, hidx2]
          simp at *
          obtain ⟨x1, x2⟩ := s
          obtain ⟨y1, y2⟩ := s2
          simp_all
          all_goals (dsimp only; simp only [List.length_cons]; omega)
      · first
      | (first | omega | contradiction)
      | refine Ev.exit ?_
        refine hR0 _ _ ?_
        show Ev _ _ _ _
        refine Ev.sr fun K hK => S.o q.as (S.end (hK _ ?_))
        clear hK K
        refine Ev.ret ?_
        refine Ev.ret1 ?_
        refine ⟨?_, rfl⟩
        first
         | exact bF (fun h => by subst h; omega)
         | exact bF (fun h => by subst h; rw [hidx] at hidx2; cases hidx2; simp at *)
         | exact bT (hinv.symm.trans (List.take_of_length_le (by omega)))
    · simp only [List.length_cons] at hpl
      have hidx : (a)[pre.length]? = some s := by rw [← hp]; simp
      obtain ⟨s2, hidx2⟩ : ∃ s2, b[pre.length]? = some s2 := ⟨_, List.getElem?_eq_getElem (by omega)⟩
      refine Ev.sr fun K hK => S.o q.lss (S.end (hK _ ?_))
      clear hK K
      refine Ev.ud (fun c4 => ?_) (fun c4 => ?_)
      · first
      | (first | omega | contradiction)
      | refine Ev.seq ?_
        refine Ev.block ?_
        refine Ev.sr fun K hK => S.o q.mv (S.o q.as (S.end (hK _ ?_)))
        clear hK K
        refine Ev.sm (tbs [(0, 0), (0, 0), (2, 3), (3, 7), (0, 0), (0, 0), (6, 48), (7, 112), (8, 255)]) 9 fun K hK => M.o q.mv (M.o q.mv (M.o (q.ix am_el31 am_cl40 (hl := (by first | exact ati hidx (by omega) | exact ati hidx2 (by omega) | exact atig (by omega)))) (M.o (q.lsA [_, _] am_ag40 am_cl40) (M.o q.mv (M.o q.mv (M.o (q.ix am_el31 am_cl40 (hl := (by first | exact ati hidx (by omega) | exact ati hidx2 (by omega) | exact atig (by omega)))) (M.o (q.lsA [_, _] am_ag40 am_cl40) (M.o (q.sneq am_eq40 (am_sq40 _ _ _ _)) (M.end [] (h := S.end (hK _ ?_)))))))))))
        clear hK K
        refine Ev.c (fun c5 => ?_) (fun c5 => ?_)
        · first
        | (first | omega | contradiction)
        | refine Ev.sr fun K hK => S.o q.as (S.end (hK _ ?_))
          clear hK K
          refine Ev.ret ?_
          refine hR0 _ _ ?_
          refine Ev.ret1 ?_
          refine ⟨?_, rfl⟩
          first
           | exact bF (fun h => by subst h; omega)
           | exact bF (fun h => by subst h; rw [hidx] at hidx2; cases hidx2; simp at *)
           | exact bT (hinv.symm.trans (List.take_of_length_le (by omega)))
        · first
        | (first | omega | contradiction)
        | refine Ev.skip ?_
          show Ev _ _ _ _
          refine Ev.region_S fun K hK => S.o q.add (S.o q.mv (S.end (hK _ ?_)))
          clear hK K
          refine hR0 _ _ ?_
          refine roundU [] [0, 1, 12] ⟨(pre ++ [s], suf), by rw [← hp]; simp, ?_⟩ ?_ keep_n (slots_c (he := (by first | rfl | (simp; done) | (congr 2; omega))) (h := trivial)) (.c (.c (.c .n)))
          simp only [List.length_append, List.length_cons, List.length_nil, Nat.zero_add]
          rw [List.take_add_one, hinv, hidx2]
          simp at *
          obtain ⟨x1, x2⟩ := s
          obtain ⟨y1, y2⟩ := s2
          simp_all
          all_goals (dsimp only; simp only [List.length_cons]; omega)
      · first
      | (first | omega | contradiction)
      | refine Ev.exit ?_
        refine hR0 _ _ ?_
        show Ev _ _ _ _
        refine Ev.sr fun K hK => S.o q.as (S.end (hK _ ?_))
        clear hK K
        refine Ev.ret ?_
        refine Ev.ret1 ?_
        refine ⟨?_, rfl⟩
        first
         | exact bF (fun h => by subst h; omega)
         | exact bF (fun h => by subst h; rw [hidx] at hidx2; cases hidx2; simp at *)
         | exact bT (hinv.symm.trans (List.take_of_length_le (by omega)))
theorem rwithin_fun (a b : Bx) : Fun Tryd.prog 12 [.agg a.c, .agg b.c] (Ret (.lit (.bool (decide (inB a b)))) []) := by
  refine Fun.of (nt := 39) (rs := [.tmp 4]) Tryd.func12 rfl rfl rfl rfl rfl ?_
  refine Ev.sr fun K hK => S.nn (q.bx [_, _, _, _, _, _] true) (S.nn (q.bx [_, _, _, _, _, _] true) (S.o q.as (S.end (hK _ ?_))))
  clear hK K
  refine Ev.sr fun K hK => S.o (q.fa 0 am_fi26_0 am_cl24) (S.o (q.fa 1 am_fi24_1 am_cl3) (S.o (q.lv am_ag3) (S.o (q.fa 0 am_fi26_0 am_cl24) (S.o (q.fa 1 am_fi24_1 am_cl3) (S.o (q.lv am_ag3) (S.o q.geq (S.bd q.mv (fun c1 => ?_) (fun c1 => ?_))))))))
  · first
  | (first | omega | contradiction)
  | refine S.o (q.fa 3 am_fi26_1 am_cl24) (S.o (q.fa 4 am_fi24_1 am_cl3) (S.o (q.lv am_ag3) (S.o (q.fa 3 am_fi26_1 am_cl24) (S.o (q.fa 4 am_fi24_1 am_cl3) (S.o (q.lv am_ag3) (S.o q.leq (S.o q.pt (S.bd q.mv (fun c2 => ?_) (fun c2 => ?_)))))))))
    · first
    | (first | omega | contradiction)
    | refine S.o (q.fa 0 am_fi26_0 am_cl24) (S.o (q.fa 2 am_fi24_2 am_cl3) (S.o (q.lv am_ag3) (S.o (q.fa 0 am_fi26_0 am_cl24) (S.o (q.fa 2 am_fi24_2 am_cl3) (S.o (q.lv am_ag3) (S.o q.geq (S.o q.pt (S.bd q.mv (fun c3 => ?_) (fun c3 => ?_)))))))))
      · first
      | (first | omega | contradiction)
      | refine S.o (q.fa 3 am_fi26_1 am_cl24) (S.o (q.fa 5 am_fi24_2 am_cl3) (S.o (q.lv am_ag3) (S.o (q.fa 3 am_fi26_1 am_cl24) (S.o (q.fa 5 am_fi24_2 am_cl3) (S.o (q.lv am_ag3) (S.o q.leq (S.o q.pt (S.o q.as (S.end (hK _ ?_))))))))))
        clear hK K
        refine Ev.ret ?_
        refine Ev.ret1 ?_
        refine ⟨?_, rfl⟩
        first | exact bF (fun h => by unfold inB at h; omega) | exact dI ⟨fun h => ⟨⟨by omega, by omega⟩, by omega, by omega⟩, fun h => by unfold inB at h; omega⟩
      · first
      | (first | omega | contradiction)
      | refine S.sk (S.sk (S.sk (S.sk (S.sk (S.sk (S.sk (S.o q.pf (S.o q.as (S.end (hK _ ?_))))))))))
        clear hK K
        refine Ev.ret ?_
        refine Ev.ret1 ?_
        refine ⟨?_, rfl⟩
        first | exact bF (fun h => by unfold inB at h; omega) | exact dI ⟨fun h => ⟨⟨by omega, by omega⟩, by omega, by omega⟩, fun h => by unfold inB at h; omega⟩
    · first
    | (first | omega | contradiction)
    | refine S.sk (S.sk (S.sk (S.sk (S.sk (S.sk (S.sk (S.o q.pf (S.o q.mv (S.sk (S.sk (S.sk (S.sk (S.sk (S.sk (S.sk (S.o q.pf (S.o q.as (S.end (hK _ ?_)))))))))))))))))))
      clear hK K
      refine Ev.ret ?_
      refine Ev.ret1 ?_
      refine ⟨?_, rfl⟩
      first | exact bF (fun h => by unfold inB at h; omega) | exact dI ⟨fun h => ⟨⟨by omega, by omega⟩, by omega, by omega⟩, fun h => by unfold inB at h; omega⟩
  · first
  | (first | omega | contradiction)
  | refine S.sk (S.sk (S.sk (S.sk (S.sk (S.sk (S.sk (S.o q.pf (S.o q.mv (S.sk (S.sk (S.sk (S.sk (S.sk (S.sk (S.sk (S.o q.pf (S.o q.mv (S.sk (S.sk (S.sk (S.sk (S.sk (S.sk (S.sk (S.o q.pf (S.o q.as (S.end (hK _ ?_))))))))))))))))))))))))))))
    clear hK K
    refine Ev.ret ?_
    refine Ev.ret1 ?_
    refine ⟨?_, rfl⟩
    first | exact bF (fun h => by unfold inB at h; omega) | exact dI ⟨fun h => ⟨⟨by omega, by omega⟩, by omega, by omega⟩, fun h => by unfold inB at h; omega⟩
end Go.Proofs.YthiockdlhehhoaaDoor
namespace Go.Proofs.YthiockdlhehhoaaDoor
open Go Go.AM
set_option linter.unusedSimpArgs false
set_option linter.unusedVariables false
set_option maxRecDepth 100000
set_option maxHeartbeats 2000000
theorem wf_u8d {k : Int} (h : (Go.Lit.int .u8 k).wf = true) : 0 ≤ k ∧ k ≤ 255 := by
  have e1 : IntKind.u8.min = 0 := rfl
  have e2 : IntKind.u8.max = 255 := rfl
  simp only [Go.Lit.wf, e1, e2, Bool.and_eq_true, decide_eq_true_eq] at h
  exact h
theorem wf_i32d {n : Int} (h : (Go.Lit.int .i32 n).wf = true) : -2147483648 ≤ n ∧ n ≤ 2147483647 := by
  have e1 : IntKind.i32.min = -2147483648 := rfl
  have e2 : IntKind.i32.max = 2147483647 := rfl
  simp only [Go.Lit.wf, e1, e2, Bool.and_eq_true, decide_eq_true_eq] at h
  exact h
def fnd (z : Bx) (x n : Int) (l : List Dem) : Prop := n = 0 ∨ ∃ d ∈ l, inB d.zone z ∧ atF 0 d.steps x = n
instance (z : Bx) (x n : Int) (l : List Dem) : Decidable (fnd z x n l) := by unfold fnd; infer_instance
theorem fnd_0 (z : Bx) (x n : Int) : AV.lit (.bool (decide (n = 0))) = .lit (.bool (decide (fnd z x n []))) := dI (by unfold fnd; simp)
theorem fnd_t {z : Bx} {x n : Int} {l : List Dem} {d : Dem} (h : fnd z x n l) : AV.lit (.bool true) = .lit (.bool (decide (fnd z x n (l ++ [d])))) := bT (by
  rcases h with h | ⟨e, he, h⟩
  · exact .inl h
  · exact .inr ⟨e, by simp [he], h⟩)
theorem fnd_f {z : Bx} {x n : Int} {l : List Dem} {d : Dem} (h : ¬ fnd z x n l) (hi : inB d.zone z) : AV.lit (.bool (decide (atF 0 d.steps x = n))) = .lit (.bool (decide (fnd z x n (l ++ [d])))) := dI (by
  constructor
  · exact fun h2 => .inr ⟨d, by simp, hi, h2⟩
  · rintro (h2 | ⟨e, he, h2⟩)
    · exact absurd (.inl h2) h
    · rcases List.mem_append.1 he with he | he
      · exact absurd (.inr ⟨e, he, h2⟩) h
      · rw [List.mem_singleton] at he; subst he; exact h2.2)
theorem fnd_s {z : Bx} {x n : Int} {l : List Dem} {d : Dem} (hi : ¬ inB d.zone z) : AV.lit (.bool (decide (fnd z x n l))) = .lit (.bool (decide (fnd z x n (l ++ [d])))) := dI (by
  constructor
  · rintro (h2 | ⟨e, he, h2⟩)
    · exact .inl h2
    · exact .inr ⟨e, by simp [he], h2⟩
  · rintro (h2 | ⟨e, he, h2⟩)
    · exact .inl h2
    · rcases List.mem_append.1 he with he | he
      · exact .inr ⟨e, he, h2⟩
      · rw [List.mem_singleton] at he; subst he; exact absurd h2.1 hi)
theorem covers_law (l : List Dem) (z : Bx) (k x : Int) (hlen : l.length ≤ 140737488355328) (hw : demW l) (hk : (Go.Lit.int .u8 k).wf = true) (hx : (Go.Lit.int .i32 x).wf = true) : Fun Tryd.prog 3 [.sh 8 (l.map Dem.c), .agg z.c, .lit (.int .u8 k), .lit (.int .i32 x)] (Ret (.lit (.bool true)) []) := by
  obtain ⟨hk0, hk1⟩ := wf_u8d hk
  obtain ⟨hx0, hx1⟩ := wf_i32d hx
  refine Fun.of (nt := 170) (rs := [.tmp 8]) Tryd.func3 rfl rfl rfl rfl rfl ?_
  refine Ev.sr fun K hK => S.nn (q.bx [_, _, _, _, _, _] true) (S.o q.as (S.end (hK _ ?_)))
  clear hK K
  refine Ev.seq ?_
  refine Ev.sr fun K hK => S.c0 (hF := awake_fun) (h := S.o q.nott (S.end (hK _ ?_)))
  clear hK K
  refine Ev.cf ?_
  refine Ev.skip ?_
  show Ev _ _ _ _
  refine Ev.seq ?_
  refine Ev.sr fun K hK => S.o q.mv (S.c0 (hF := small_fun l hlen) (h := S.o q.not (S.bn q.mv (fun c1 => ?_) (fun c1 => ?_))))
  · first
  | (first | omega | contradiction)
  | refine S.sk (S.sk (S.sk (S.o q.pt (S.o q.mv (S.sk (S.sk (S.sk (S.o q.pt (S.end (hK _ ?_))))))))))
    clear hK K
    refine Ev.ct ?_
    refine Ev.sr fun K hK => S.o q.as (S.end (hK _ ?_))
    clear hK K
    refine Ev.ret ?_
    refine Ev.ret1 ?_
    refine ⟨?_, rfl⟩
    first
     | rfl
     | exact lawT rfl
     | exact lawT (by omega)
     | (exfalso; omega)
     | contradiction
  · first
  | (first | omega | contradiction)
  | refine S.o q.mv (S.c0 (hF := rdemValid_fun l hlen hw) (h := S.o q.not (S.o q.pf (S.bn q.mv (fun c2 => ?_) (fun c2 => ?_)))))
    · first
    | (first | omega | contradiction)
    | refine S.sk (S.sk (S.sk (S.o q.pt (S.end (hK _ ?_)))))
      clear hK K
      refine Ev.ct ?_
      refine Ev.sr fun K hK => S.o q.as (S.end (hK _ ?_))
      clear hK K
      refine Ev.ret ?_
      refine Ev.ret1 ?_
      refine ⟨?_, rfl⟩
      first
       | rfl
       | exact lawT rfl
       | exact lawT (by omega)
       | (exfalso; omega)
       | contradiction
    · first
    | (first | omega | contradiction)
    | refine S.o (q.lvA [_, _, _, _, _, _] am_ag26 am_cl26) (S.c0 (hF := rboxValid_fun z) (h := S.o q.not (S.o q.pf (S.end (hK _ ?_)))))
      clear hK K
      refine Ev.cn (fun c3 => ?_) (fun c3 => ?_)
      · first
      | (first | omega | contradiction)
      | refine Ev.sr fun K hK => S.o q.as (S.end (hK _ ?_))
        clear hK K
        refine Ev.ret ?_
        refine Ev.ret1 ?_
        refine ⟨?_, rfl⟩
        first
         | rfl
         | exact lawT rfl
         | exact lawT (by omega)
         | (exfalso; omega)
         | contradiction
      · first
      | (first | omega | contradiction)
      | refine Ev.skip ?_
        show Ev _ _ _ _
        have hok : okDems l := ‹okDems l›
        have hbx : okBx z := ‹okBx z›
        have h20 := hok.1
        refine Ev.sr fun K hK => S.o q.mv (S.o (q.lvA [_, _, _, _, _, _] am_ag26 am_cl26) (S.c0 (hF := demEnvelope_fun l z hlen hw) (h := S.o q.mv (S.o q.ex (S.o q.ex (S.o q.as (S.o q.as (S.end (hK _ ?_)))))))))
        clear hK K
        refine Ev.seq ?_
        refine Ev.sr fun K hK => S.o q.mv (S.o q.neq (S.end (hK _ ?_)))
        clear hK K
        refine Ev.cn (fun c4 => ?_) (fun c4 => ?_)
        · first
        | (first | omega | contradiction)
        | obtain ⟨e1, e2⟩ := env_bad (l := l) (z := z) ⟨hok, hbx⟩ ‹_›
          rw [e1, e2]
          refine Ev.sr fun K hK => S.o q.mv (S.o q.eql (S.bd q.mv (fun c5 => ?_) (fun c5 => ?_)))
          · first
          | (first | omega | contradiction)
          | refine S.o q.mv (S.o (q.lens am_el31) (S.o q.eql (S.o q.pt (S.o q.as (S.end (hK _ ?_))))))
            clear hK K
            refine Ev.ret ?_
            refine Ev.ret1 ?_
            refine ⟨?_, rfl⟩
            first
             | rfl
             | exact lawT rfl
             | exact lawT (by omega)
             | (exfalso; omega)
             | contradiction
          · first
          | (first | omega | contradiction)
          | refine S.sk (S.sk (S.sk (S.o q.pf (S.o q.as (S.end (hK _ ?_))))))
            clear hK K
            refine Ev.ret ?_
            refine Ev.ret1 ?_
            refine ⟨?_, rfl⟩
            first
             | rfl
             | exact lawT rfl
             | exact lawT (by omega)
             | (exfalso; omega)
             | contradiction
        · first
        | (first | omega | contradiction)
        | refine Ev.skip ?_
          show Ev _ _ _ _
          obtain ⟨e1, hos⟩ := env_good (l := l) (z := z) ⟨hok, hbx⟩ (by omega)
          rw [e1]
          have hos1 := hos.1
          have hav : atV (envR l z) x = topV l z x := (if_pos hos).trans (env_at l z x)
          have hae : atE (envR l z) = 0 := if_pos hos
          refine Ev.sr fun K hK => S.o q.mv (S.c0 (hF := Short_fun (envR l z) hos (env_short _ _)) (h := S.o q.mv (S.o q.ex (S.o q.ex (S.o q.as (S.o q.as (S.end (hK _ ?_))))))))
          clear hK K
          refine Ev.sr fun K hK => S.o q.mv (S.o q.mv (S.o (q.cvi am_un3 am_us21) (S.c0 (hF := At_fun (envR l z) x (by omega)) (h := S.o q.mv (S.o q.ex (S.o q.ex (S.o q.as (S.o q.as (S.end (hK _ ?_))))))))))
          clear hK K
          refine Ev.seq ?_
          rw [hav, hae]
          refine Ev.sr fun K hK => S.o q.mv (S.o q.neq (S.bn q.mv (fun c6 => ?_) (fun c6 => ?_)))
          · first
          | (first | omega | contradiction)
          | refine S.sk (S.sk (S.sk (S.sk (S.o q.pt (S.o q.mv (S.sk (S.sk (S.o q.pt (S.end (hK _ ?_))))))))))
            clear hK K
            refine Ev.ct ?_
            refine Ev.sr fun K hK => S.o q.as (S.end (hK _ ?_))
            clear hK K
            refine Ev.ret ?_
            refine Ev.ret1 ?_
            refine ⟨?_, rfl⟩
            first
             | rfl
             | exact lawT rfl
             | exact lawT (by omega)
             | (exfalso; omega)
             | contradiction
          · first
          | (first | omega | contradiction)
          | refine S.o q.mv (S.o q.mv (S.c0 (hF := equalStp_fun _ _ (by omega) (by omega)) (h := S.o q.not (S.o q.pf (S.bn q.mv (fun c7 => ?_) (fun c7 => ?_))))))
            · first
            | (first | omega | contradiction)
            | refine S.sk (S.sk (S.o q.pt (S.end (hK _ ?_))))
              clear hK K
              refine Ev.ct ?_
              refine Ev.sr fun K hK => S.o q.as (S.end (hK _ ?_))
              clear hK K
              refine Ev.ret ?_
              refine Ev.ret1 ?_
              refine ⟨?_, rfl⟩
              first
               | rfl
               | exact lawT rfl
               | exact lawT (by omega)
               | (exfalso; omega)
               | contradiction
            · first
            | (first | omega | contradiction)
            | refine S.o q.mv (S.o q.neq (S.o q.pf (S.end (hK _ ?_))))
              clear hK K
              refine Ev.cn (fun c8 => ?_) (fun c8 => ?_)
              · first
              | (first | omega | contradiction)
              | refine Ev.sr fun K hK => S.o q.as (S.end (hK _ ?_))
                clear hK K
                refine Ev.ret ?_
                refine Ev.ret1 ?_
                refine ⟨?_, rfl⟩
                first
                 | rfl
                 | exact lawT rfl
                 | exact lawT (by omega)
                 | (exfalso; omega)
                 | contradiction
              · first
              | (first | omega | contradiction)
              | refine Ev.skip ?_
                show Ev _ _ _ _
                refine Ev.sr fun K hK => S.o q.mv (S.o q.eql (S.o q.as (S.end (hK _ ?_))))
                clear hK K
                refine Ev.seq ?_
                refine Ev.sr fun K hK => S.o q.mv (S.o (q.lens am_el22) (S.o q.mv (S.end (hK _ ?_))))
                clear hK K
                refine Ev.block ?_
                refine Ev.loopU (ι := {p : List (Dem) × List (Dem) // p.1 ++ p.2 = l ∧ True}) [0] [0, 2, 3, 5, 9, 13, 81, 82] (fun ⟨(pre, suf), _⟩ => [(83, .lit (.int .i64 ((pre.length : Int)))), (15, .lit (.bool (decide (fnd z x (topV l z x) pre))))]) (fun ⟨(pre, suf), _⟩ => [(0, ⟨false, 26, 6, [[.lit (.int .i64 (z.lx)), .lit (.int .i64 (z.ly)), .lit (.int .i64 (z.lz)), .lit (.int .i64 (z.hx)), .lit (.int .i64 (z.hy)), .lit (.int .i64 (z.hz))]], true⟩)]) (fun ⟨(pre, suf), _⟩ => suf.length) ⟨([], l), rfl, trivial⟩ (.c (.c (.c (.c (.c (.c (.c (.c .n)))))))) (keep_c (he := (by first | rfl | (simp; done))) (h := keep_n)) (slots_c (he := (by first | rfl | (congr 2; simp; done))) (h := (slots_c (he := (by first | exact fnd_0 _ _ _ | exact fnd_t ‹_› | exact fnd_f ‹_› ‹_› | exact fnd_s ‹_› | rfl)) (h := trivial)))) ?_
                rintro ⟨⟨pre, suf⟩, hp, hinv⟩ R0 hR0
                dsimp only [List.cons_append, List.nil_append, List.length_cons, List.length_nil]
                simp only at hp hinv
                have hpl : pre.length + suf.length = (l).length := by rw [← hp, List.length_append]
                rcases suf with _ | ⟨s, suf⟩
                · rw [List.append_nil] at hp; simp only [List.length_nil] at hpl
                  have hp2 := hp.symm
                  subst hp2
                  refine Ev.sr fun K hK => S.o q.lss (S.end (hK _ ?_))
                  clear hK K
                  refine Ev.ud (fun c9 => ?_) (fun c9 => ?_)
                  · first | omega | contradiction | (exfalso; simp at *; done)
                  · first
                  | (first | omega | contradiction)
                  | refine Ev.exit ?_
                    refine hR0 _ _ ?_
                    show Ev _ _ _ _
                    refine Ev.seq ?_
                    have htop : fnd z x (topV l z x) l := topV_some l z x
                    refine Ev.sr fun K hK => S.o q.mv (S.o q.not (S.end (hK _ ?_)))
                    clear hK K
                    refine Ev.cn (fun c10 => ?_) (fun c10 => ?_)
                    · first
                    | (first | omega | contradiction)
                    | refine Ev.sr fun K hK => S.o q.as (S.end (hK _ ?_))
                      clear hK K
                      refine Ev.ret ?_
                      refine Ev.ret1 ?_
                      refine ⟨?_, rfl⟩
                      first
                       | rfl
                       | exact lawT rfl
                       | exact lawT (by omega)
                       | (exfalso; omega)
                       | contradiction
                    · first
                    | (first | omega | contradiction)
                    | refine Ev.skip ?_
                      show Ev _ _ _ _
                      refine Ev.sr fun K hK => S.o (q.lvA [_, _, _, _, _, _] am_ag26 am_cl26) (S.nn (q.al am_ze26) (S.sv [_, _, _, _, _, _] true [_] am_in26 am_cl26 (h := S.end (hK _ ?_))))
                      clear hK K
                      refine Ev.weaken (Wk.frzv 5 [_]) ?_
                      have hbb := hbx
                      unfold okBx at hbb
                      refine Ev.stp (m := 40) (L0 := #[false, false, false, false, false, false, false, false, false, false, false, false, false, false, false, false, false, false, false, false, false, false, false, false, false, false, false, false, false, false, false, false, false, false, false, false, false, false, false, false]) rfl (by kernel_rfl) (by exact rfl) fun K hK => ?_
                      refine HP.fa (i := 0) am_fi26_0 (by rw [am_cl24]; decide) rfl (h := ?_)
                      refine HP.fa (i := 1) am_fi24_1 (by rw [am_cl3]; decide) rfl (h := ?_)
                      refine HP.ls1 (i := 2) am_ag3 rfl (h := ?_)
                      refine HP.mv (i := 3) rfl (h := ?_)
                      refine HP.q (i := 4) rfl ((q.cvi am_un3 am_us5)) ?_
                      refine HP.q (i := 5) rfl (q.sub) ?_
                      refine HP.q (i := 6) rfl (q.max) ?_
                      refine HP.fa (i := 7) am_fi26_0 (by rw [am_cl24]; decide) rfl (h := ?_)
                      refine HP.fa (i := 8) am_fi24_2 (by rw [am_cl3]; decide) rfl (h := ?_)
                      refine HP.ls1 (i := 9) am_ag3 rfl (h := ?_)
                      refine HP.mv (i := 10) rfl (h := ?_)
                      refine HP.q (i := 11) rfl ((q.cvi am_un3 am_us5)) ?_
                      refine HP.q (i := 12) rfl (q.sub) ?_
                      refine HP.q (i := 13) rfl (q.max) ?_
                      refine HP.fa (i := 14) am_fi26_1 (by rw [am_cl24]; decide) rfl (h := ?_)
                      refine HP.fa (i := 15) am_fi24_1 (by rw [am_cl3]; decide) rfl (h := ?_)
                      refine HP.ls1 (i := 16) am_ag3 rfl (h := ?_)
                      refine HP.mv (i := 17) rfl (h := ?_)
                      refine HP.q (i := 18) rfl ((q.cvi am_un3 am_us5)) ?_
                      refine HP.q (i := 19) rfl (q.add) ?_
                      refine HP.q (i := 20) rfl (q.min) ?_
                      refine HP.fa (i := 21) am_fi26_1 (by rw [am_cl24]; decide) rfl (h := ?_)
                      refine HP.fa (i := 22) am_fi24_2 (by rw [am_cl3]; decide) rfl (h := ?_)
                      refine HP.ls1 (i := 23) am_ag3 rfl (h := ?_)
                      refine HP.mv (i := 24) rfl (h := ?_)
                      refine HP.q (i := 25) rfl ((q.cvi am_un3 am_us5)) ?_
                      refine HP.q (i := 26) rfl (q.add) ?_
                      refine HP.q (i := 27) rfl (q.min) ?_
                      refine HP.fa (i := 28) am_fi26_0 (by rw [am_cl24]; decide) rfl (h := ?_)
                      refine HP.fa (i := 29) am_fi24_1 (by rw [am_cl3]; decide) rfl (h := ?_)
                      refine .done ?_
                      refine HT.one (i := 30) trivial rfl (S.sv [_, _, _, _, _, _] true [] am_in3 am_cl3 (h := S.end ?_))
                      refine HT.one (i := 31) trivial rfl (S.o (q.fa 0 am_fi26_0 am_cl24) (S.end ?_))
                      refine HT.one (i := 32) trivial rfl (S.o (q.fa 2 am_fi24_2 am_cl3) (S.end ?_))
                      refine HT.one (i := 33) trivial rfl (S.sv [_, _, _, _, _, _] true [] am_in3 am_cl3 (h := S.end ?_))
                      refine HT.one (i := 34) trivial rfl (S.o (q.fa 3 am_fi26_1 am_cl24) (S.end ?_))
                      refine HT.one (i := 35) trivial rfl (S.o (q.fa 4 am_fi24_1 am_cl3) (S.end ?_))
                      refine HT.one (i := 36) trivial rfl (S.sv [_, _, _, _, _, _] true [] am_in3 am_cl3 (h := S.end ?_))
                      refine HT.one (i := 37) trivial rfl (S.o (q.fa 3 am_fi26_1 am_cl24) (S.end ?_))
                      refine HT.one (i := 38) trivial rfl (S.o (q.fa 5 am_fi24_2 am_cl3) (S.end ?_))
                      refine HT.one (i := 39) trivial rfl (S.sv [_, _, _, _, _, _] true [] am_in3 am_cl3 (h := S.end ?_))
                      refine HT.nil trivial (by kernel_rfl) (hK _ ?_)
                      clear hK K
                      obtain ⟨hwo, hwi⟩ := wide_ok hbx ⟨hk0, hk1⟩
                      refine Ev.sr fun K hK => S.o q.mv (S.o (q.lvA [_, _, _, _, _, _] am_ag26 am_cl26) (S.c0 (hF := demEnvelope_fun l (wideB z k) hlen hw) (h := S.o q.mv (S.o q.ex (S.o q.ex (S.o q.as (S.o q.as (S.end (hK _ ?_)))))))))
                      clear hK K
                      refine Ev.seq ?_
                      refine Ev.sr fun K hK => S.o q.mv (S.o q.neq (S.end (hK _ ?_)))
                      clear hK K
                      refine Ev.cn (fun c11 => ?_) (fun c11 => ?_)
                      · first
                      | (first | omega | contradiction)
                      | obtain ⟨e3, e4⟩ := env_bad (l := l) (z := wideB z k) ⟨hok, hwo⟩ ‹_›
                        rw [e4]
                        refine Ev.sr fun K hK => S.o q.mv (S.o q.eql (S.o q.as (S.end (hK _ ?_))))
                        clear hK K
                        refine Ev.ret ?_
                        refine Ev.ret1 ?_
                        refine ⟨?_, rfl⟩
                        first
                         | rfl
                         | exact lawT rfl
                         | exact lawT (by omega)
                         | (exfalso; omega)
                         | contradiction
                      · first
                      | (first | omega | contradiction)
                      | refine Ev.skip ?_
                        show Ev _ _ _ _
                        obtain ⟨e3, hou⟩ := env_good (l := l) (z := wideB z k) ⟨hok, hwo⟩ (by omega)
                        rw [e3]
                        have hge := cov_ge (k := k) hok hbx ⟨hk0, hk1⟩
                        refine Ev.sr fun K hK => S.o q.mv (S.o q.mv (S.c0 (hF := Below_fun (envR l (wideB z k)) (envR l z) hou hos hge) (h := S.o q.mv (S.o q.ex (S.o q.ex (S.o q.as (S.o q.as (S.end (hK _ ?_)))))))))
                        clear hK K
                        refine Ev.sr fun K hK => S.o q.mv (S.o q.eql (S.o q.as (S.end (hK _ ?_))))
                        clear hK K
                        refine Ev.ret ?_
                        refine Ev.ret1 ?_
                        refine ⟨?_, rfl⟩
                        first
                         | rfl
                         | exact lawT rfl
                         | exact lawT (by omega)
                         | (exfalso; omega)
                         | contradiction
                · simp only [List.length_cons] at hpl
                  have hidx : l[pre.length]? = some s := by rw [← hp]; simp
                  have hms : s ∈ l := by rw [← hp]; simp
                  have hds := hok.2.1 s hms
                  have hws := hw s hms
                  refine Ev.sr fun K hK => S.o q.lss (S.end (hK _ ?_))
                  clear hK K
                  refine Ev.ud (fun c12 => ?_) (fun c12 => ?_)
                  · first
                  | (first | omega | contradiction)
                  | refine Ev.seq ?_
                    refine Ev.block ?_
                    refine Ev.sr fun K hK => S.o (q.ix am_el22 am_cl42 (hl := (by first | exact ati hidx (by omega) | exact atig (by omega)))) (S.o (q.lsA [_, _, _, _, _, _, _, _] am_ag42 am_cl42) (S.nn (q.al am_ze42) (S.sv [_, _, _, _, _, _, _, _] true [_] am_in42 am_cl42 (h := S.end (hK _ ?_)))))
                    clear hK K
                    refine Ev.seq ?_
                    refine Ev.sr fun K hK => S.o (q.fa 1 am_fi42_1 am_cl26) (S.o (q.lvA [_, _, _, _, _, _] am_ag26 am_cl26) (S.o (q.lvA [_, _, _, _, _, _] am_ag26 am_cl26) (S.c0 (hF := rwithin_fun s.zone z) (h := S.o q.not (S.end (hK _ ?_))))))
                    clear hK K
                    refine Ev.cn (fun c13 => ?_) (fun c13 => ?_)
                    · first
                    | (first | omega | contradiction)
                    | refine Ev.exit ?_
                      show Ev _ _ _ _
                      refine Ev.region_S fun K hK => S.o q.add (S.o q.mv (S.end (hK _ ?_)))
                      clear hK K
                      refine hR0 _ _ ?_
                      refine roundU [0] [0, 2, 3, 5, 9, 13, 81, 82] ⟨(pre ++ [s], suf), by rw [← hp]; simp, trivial⟩ ?_ (keep_c (he := (by first | rfl | (simp; done))) (h := keep_n)) (slots_c (he := (by first | rfl | (congr 2; simp; done))) (h := (slots_c (he := (by first | exact fnd_0 _ _ _ | exact fnd_t ‹_› | exact fnd_f ‹_› ‹_› | exact fnd_s ‹_› | rfl)) (h := trivial)))) (.c (.c (.c (.c (.c (.c (.c (.c .n))))))))
                      skip
                      all_goals (dsimp only; simp only [List.length_cons]; omega)
                    · first
                    | (first | omega | contradiction)
                    | refine Ev.skip ?_
                      show Ev _ _ _ _
                      refine Ev.sr fun K hK => S.o (q.lvA [_, _, _, _, _, _, _, _] am_ag42 am_cl42) (S.o q.mv (S.o (q.cvi am_un3 am_us21) (S.c0 (hF := demAt_fun s x hws) (h := S.o q.mv (S.o q.ex (S.o q.ex (S.o q.as (S.o q.as (S.end (hK _ ?_))))))))))
                      clear hK K
                      refine Ev.seq ?_
                      rw [show atDV s x = atF 0 s.steps x from if_pos hds, show okE1 (okDem s) = 0 from if_pos hds]
                      have hgx := topV_ge (y := x) hms ‹inB s.zone z›
                      refine Ev.sr fun K hK => S.o q.mv (S.o q.neq (S.bn q.mv (fun c14 => ?_) (fun c14 => ?_)))
                      · first
                      | (first | omega | contradiction)
                      | refine S.sk (S.sk (S.sk (S.o q.pt (S.end (hK _ ?_)))))
                        clear hK K
                        refine Ev.ct ?_
                        refine Ev.sr fun K hK => S.o q.as (S.end (hK _ ?_))
                        clear hK K
                        refine Ev.ret ?_
                        refine hR0 _ _ ?_
                        refine Ev.ret1 ?_
                        refine ⟨?_, rfl⟩
                        first
                         | rfl
                         | exact lawT rfl
                         | exact lawT (by omega)
                         | (exfalso; omega)
                         | contradiction
                      · first
                      | (first | omega | contradiction)
                      | refine S.o q.mv (S.o q.mv (S.o q.gtr (S.o q.pf (S.end (hK _ ?_)))))
                        clear hK K
                        refine Ev.cd (fun c15 => ?_) (fun c15 => ?_)
                        · first
                        | (first | omega | contradiction)
                        | refine Ev.sr fun K hK => S.o q.as (S.end (hK _ ?_))
                          clear hK K
                          refine Ev.ret ?_
                          refine hR0 _ _ ?_
                          refine Ev.ret1 ?_
                          refine ⟨?_, rfl⟩
                          first
                           | rfl
                           | exact lawT rfl
                           | exact lawT (by omega)
                           | (exfalso; omega)
                           | contradiction
                        · first
                        | (first | omega | contradiction)
                        | refine Ev.skip ?_
                          show Ev _ _ _ _
                          refine Ev.region_S fun K hK => S.o q.mv (S.bd q.mv (fun c16 => ?_) (fun c16 => ?_))
                          · first
                          | (first | omega | contradiction)
                          | refine S.sk (S.sk (S.sk (S.o q.pt (S.o q.as (S.end (hK _ ?_))))))
                            clear hK K
                            show Ev _ _ _ _
                            refine Ev.region_S fun K hK => S.o q.add (S.o q.mv (S.end (hK _ ?_)))
                            clear hK K
                            refine hR0 _ _ ?_
                            refine roundU [0] [0, 2, 3, 5, 9, 13, 81, 82] ⟨(pre ++ [s], suf), by rw [← hp]; simp, trivial⟩ ?_ (keep_c (he := (by first | rfl | (simp; done))) (h := keep_n)) (slots_c (he := (by first | rfl | (congr 2; simp; done))) (h := (slots_c (he := (by first | exact fnd_0 _ _ _ | exact fnd_t ‹_› | exact fnd_f ‹_› ‹_› | exact fnd_s ‹_› | rfl)) (h := trivial)))) (.c (.c (.c (.c (.c (.c (.c (.c .n))))))))
                            skip
                            all_goals (dsimp only; simp only [List.length_cons]; omega)
                          · first
                          | (first | omega | contradiction)
                          | refine S.o q.mv (S.o q.mv (S.o q.eql (S.o q.pf (S.o q.as (S.end (hK _ ?_))))))
                            clear hK K
                            show Ev _ _ _ _
                            refine Ev.region_S fun K hK => S.o q.add (S.o q.mv (S.end (hK _ ?_)))
                            clear hK K
                            refine hR0 _ _ ?_
                            refine roundU [0] [0, 2, 3, 5, 9, 13, 81, 82] ⟨(pre ++ [s], suf), by rw [← hp]; simp, trivial⟩ ?_ (keep_c (he := (by first | rfl | (simp; done))) (h := keep_n)) (slots_c (he := (by first | rfl | (congr 2; simp; done))) (h := (slots_c (he := (by first | exact fnd_0 _ _ _ | exact fnd_t ‹_› | exact fnd_f ‹_› ‹_› | exact fnd_s ‹_› | rfl)) (h := trivial)))) (.c (.c (.c (.c (.c (.c (.c (.c .n))))))))
                            skip
                            all_goals (dsimp only; simp only [List.length_cons]; omega)
                  · first | omega | contradiction | (exfalso; simp at *; done)
end Go.Proofs.YthiockdlhehhoaaDoor
