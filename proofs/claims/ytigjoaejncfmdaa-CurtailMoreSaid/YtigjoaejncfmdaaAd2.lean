/-
  Sums of step functions, walked: the pieces.
  Conditions: none.
-/
import Derived.Test.YtigjoaejncfmdaaAd1
import Derived.Test.YtigjoaejncfmdaaAmYrule
import Derived.Test.YtigjoaejncfmdaaAmTwo
import Derived.Test.YtigjoaejncfmdaaAmTree
import Derived.Test.YtigjoaejncfmdaaB14
import Derived.Test.YtigjoaejncfmdaaAmSet
import Derived.Test.YtigjoaejncfmdaaAmArr
namespace Go.Proofs.Ytigjoaejncfmdaa
open Go Go.AM
set_option linter.unusedSimpArgs false
set_option linter.unusedVariables false
set_option maxRecDepth 100000
set_option maxHeartbeats 1000000

theorem short_fun (l : List (Int × Int)) (hlen : l.length ≤ 1000000) : Fun Try.prog 69 [.sh 2 (l.map stepC)] (Ret (.sh 2 ((shortG 0 l).map stepC)) []) := by
  have hsl := shortG_len
  refine Fun.of (nt := 25) (rs := [.tmp 2]) Try.func69 rfl rfl rfl rfl rfl ?_
  refine Ev.sr fun K hK => S.o q.as (S.end (hK _ ?_))
  clear hK K
  refine Ev.sr fun K hK => S.o q.as (S.end (hK _ ?_))
  clear hK K
  refine Ev.sr fun K hK => S.o q.as (S.end (hK _ ?_))
  clear hK K
  refine Ev.seq ?_
  refine Ev.sr fun K hK => S.o q.mv (S.o (q.lens am_el22) (S.o q.mv (S.end (hK _ ?_))))
  clear hK K
  refine Ev.block ?_
  refine Ev.weaken (Wk.nown stepC 3 57 2) ?_
  refine Ev.loopU (ι := {p : List (Int × Int) × List (Int × Int) // p.1 ++ p.2 = l ∧ (True)}) [0] [2, 7, 8] (fun ⟨(pre, suf), _⟩ => [(9, .lit (.int .i64 ((pre.length : Int)))), (4, .lit (.int .i64 (lastV pre))), (3, .als 0 0 (shortG 0 pre).length)]) (fun ⟨(pre, suf), _⟩ => [(0, ⟨true, 57, 2, (shortG 0 pre).map stepC, true⟩)]) (fun ⟨(pre, suf), _⟩ => suf.length) ⟨([], l), rfl, trivial⟩ (.c (.c (.c .n))) (keep_c (he := (by first | rfl | (rw [short_snoc_t (by assumption), List.map_append] <;> rfl) | (rw [short_snoc_f (by assumption)]; done) | simp)) (h := keep_n)) (slots_c (he := (by first | rfl | (rw [lastV_snoc]; done) | (rw [short_snoc_t (by assumption), List.length_append] <;> rfl) | (rw [short_snoc_f (by assumption)]; done) | (simp; done) | (congr 2; omega))) (h := (slots_c (he := (by first | rfl | (rw [lastV_snoc]; done) | (rw [short_snoc_t (by assumption), List.length_append] <;> rfl) | (rw [short_snoc_f (by assumption)]; done) | (simp; done) | (congr 2; omega))) (h := (slots_c (he := (by first | rfl | (rw [lastV_snoc]; done) | (rw [short_snoc_t (by assumption), List.length_append] <;> rfl) | (rw [short_snoc_f (by assumption)]; done) | (simp; done) | (congr 2; omega))) (h := trivial)))))) ?_
  rintro ⟨⟨pre, suf⟩, hp, hinv⟩ R0 hR0
  dsimp only [List.cons_append, List.nil_append, List.length_cons, List.length_nil]
  simp only at hp hinv
  rcases suf with _ | ⟨s, suf⟩
  · rw [List.append_nil] at hp; subst hp
    refine Ev.sr fun K hK => S.o q.lss (S.end (hK _ ?_))
    clear hK K
    refine Ev.ud (fun c1 => ?_) (fun c1 => ?_)
    · first | omega | contradiction | (exfalso; simp at *; done)
    · first
    | (first | omega | contradiction)
    | refine Ev.exit ?_
      refine hR0 _ _ ?_
      show Ev _ _ _ _
      refine Ev.sr fun K hK => S.o q.mv (S.o q.as (S.end (hK _ ?_)))
      clear hK K
      refine Ev.weaken (Wk.frz 2 []) ?_
      refine Ev.ret ?_
      refine Ev.ret1 ?_
      refine ⟨?_, rfl⟩
      rfl
  · have hlt : (pre.length : Int) < (l).length := by rw [← hp, List.length_append, List.length_cons]; omega
    have hidx : (l)[pre.length]? = some s := by rw [← hp]; simp
    have hpl := hsl pre 0
    have hp2 : pre.length < l.length := by omega
    refine Ev.sr fun K hK => S.o q.lss (S.end (hK _ ?_))
    clear hK K
    refine Ev.ud (fun c2 => ?_) (fun c2 => ?_)
    · first
    | (first | omega | contradiction)
    | refine Ev.seq ?_
      refine Ev.block ?_
      refine Ev.sr fun K hK => S.o (q.ix am_el22 am_cl57 (hl := (by first | exact ati hidx (by omega) | exact atig (by omega)))) (S.o (q.lsA [_, _] am_ag57 am_cl57) (S.nn (q.al am_ze57) (S.sv [_, _] true [_] am_in57 am_cl57 (h := S.end (hK _ ?_)))))
      clear hK K
      refine Ev.seq ?_
      refine Ev.sr fun K hK => S.o (q.fa 1 am_fi57_1 am_cl3) (S.o (q.lv am_ag3) (S.o q.mv (S.o q.neq (S.end (hK _ ?_)))))
      clear hK K
      refine Ev.cn (fun c3 => ?_) (fun c3 => ?_)
      · first
      | (first | omega | contradiction)
      | refine Ev.region_S fun K hK => S.o q.mv (S.o (q.lvA [_, _] am_ag57 am_cl57) (S.nn (q.bs [[_, _]] true am_el22 am_ze57 am_cl57) (S.ap' [_, _] am_el22 am_ze57 am_cl57 am_by57 (hh := head_own') (hr := (rows_lit [(⟨_, _⟩ : Int × Int)])) (h := S.o q.as (S.end (hK _ ?_))))))
        clear hK K
        show Ev _ _ _ _
        refine Ev.region_S fun K hK => S.o (q.fa 1 am_fi57_1 am_cl3) (S.o (q.lv am_ag3) (S.o q.as (S.end (hK _ ?_))))
        clear hK K
        show Ev _ _ _ _
        refine Ev.region_S fun K hK => S.o q.add (S.o q.mv (S.end (hK _ ?_)))
        clear hK K
        refine hR0 _ _ ?_
        refine roundU [3] [2, 7, 8] ⟨(pre ++ [s], suf), by rw [← hp]; simp, ?_⟩ ?_ (keep_c (he := (by first | rfl | (rw [short_snoc_t (by assumption), List.map_append] <;> rfl) | (rw [short_snoc_f (by assumption)]; done) | simp)) (h := keep_n)) (slots_c (he := (by first | rfl | (rw [lastV_snoc]; done) | (rw [short_snoc_t (by assumption), List.length_append] <;> rfl) | (rw [short_snoc_f (by assumption)]; done) | (simp; done) | (congr 2; omega))) (h := (slots_c (he := (by first | rfl | (rw [lastV_snoc]; done) | (rw [short_snoc_t (by assumption), List.length_append] <;> rfl) | (rw [short_snoc_f (by assumption)]; done) | (simp; done) | (congr 2; omega))) (h := (slots_c (he := (by first | rfl | (rw [lastV_snoc]; done) | (rw [short_snoc_t (by assumption), List.length_append] <;> rfl) | (rw [short_snoc_f (by assumption)]; done) | (simp; done) | (congr 2; omega))) (h := trivial)))))) (.c (.c (.c .n)))
        trivial
        all_goals (simp only [List.length_cons]; omega)
      · first
      | (first | omega | contradiction)
      | refine Ev.skip ?_
        show Ev _ _ _ _
        refine Ev.region_S fun K hK => S.o (q.fa 1 am_fi57_1 am_cl3) (S.o (q.lv am_ag3) (S.o q.as (S.end (hK _ ?_))))
        clear hK K
        show Ev _ _ _ _
        refine Ev.region_S fun K hK => S.o q.add (S.o q.mv (S.end (hK _ ?_)))
        clear hK K
        refine hR0 _ _ ?_
        refine roundU [0] [2, 7, 8] ⟨(pre ++ [s], suf), by rw [← hp]; simp, ?_⟩ ?_ (keep_c (he := (by first | rfl | (rw [short_snoc_t (by assumption), List.map_append] <;> rfl) | (rw [short_snoc_f (by assumption)]; done) | simp)) (h := keep_n)) (slots_c (he := (by first | rfl | (rw [lastV_snoc]; done) | (rw [short_snoc_t (by assumption), List.length_append] <;> rfl) | (rw [short_snoc_f (by assumption)]; done) | (simp; done) | (congr 2; omega))) (h := (slots_c (he := (by first | rfl | (rw [lastV_snoc]; done) | (rw [short_snoc_t (by assumption), List.length_append] <;> rfl) | (rw [short_snoc_f (by assumption)]; done) | (simp; done) | (congr 2; omega))) (h := (slots_c (he := (by first | rfl | (rw [lastV_snoc]; done) | (rw [short_snoc_t (by assumption), List.length_append] <;> rfl) | (rw [short_snoc_f (by assumption)]; done) | (simp; done) | (congr 2; omega))) (h := trivial)))))) (.c (.c (.c .n)))
        trivial
        all_goals (simp only [List.length_cons]; omega)
    · first | omega | contradiction | (exfalso; simp at *; done)
theorem add1_fun (x y : Int) (hx : 0 ≤ x ∧ x ≤ 1099511627776) (hy : 0 ≤ y ∧ y ≤ 1099511627776) : Fun Try.prog 53 [.lit (.int .i64 x), .lit (.int .i64 y)] (Ret (.lit (.int .i64 (x + y))) []) := by
  refine Fun.of (nt := 8) (rs := [.tmp 4]) Try.func53 rfl rfl rfl rfl rfl ?_
  refine Ev.sr fun K hK => S.o q.as (S.end (hK _ ?_))
  clear hK K
  refine Ev.sr fun K hK => S.o q.mv (S.o q.mv (S.o q.add (S.o q.as (S.end (hK _ ?_)))))
  clear hK K
  refine Ev.ret ?_
  refine Ev.ret1 ?_
  refine ⟨?_, rfl⟩
  rfl
def overS (s : Int × Int) : Bool := decide (1099511627776 < s.2)
theorem over1_fun (s : Int × Int) : Fun Try.prog 70 [.agg (stepC s)] (Ret (.lit (.bool (overS s))) []) := by
  refine Fun.of (nt := 6) (rs := [.tmp 2]) Try.func70 rfl rfl rfl rfl rfl ?_
  refine Ev.sr fun K hK => S.nn (q.bx [_, _] true) (S.o q.as (S.end (hK _ ?_)))
  clear hK K
  refine Ev.sr fun K hK => S.o (q.fa 1 am_fi57_1 am_cl3) (S.o (q.lv am_ag3) (S.o q.gtr (S.o q.as (S.end (hK _ ?_)))))
  clear hK K
  refine Ev.ret ?_
  refine Ev.ret1 ?_
  refine ⟨?_, rfl⟩
  rfl

theorem row_t {l : List (Int × Int)} {p : Int × Int} {x : Int} (h : l[0]? = some p) (e : p.1 = x) : [[AV.sh 2 (List.map stepC (List.take (((l.map stepC).length : Int).toNat - Int.toNat 1) (List.drop (Int.toNat 1) l)))]] = [[AV.sh 2 ((dropX x l).map stepC)]] := by
  rw [dx_t h e, List.take_of_length_le (by simp)]
  rfl
theorem row_f {l : List (Int × Int)} {p : Int × Int} {x : Int} (h : l[0]? = some p) (e : ¬ p.1 = x) : [[AV.sh 2 (l.map stepC)]] = [[AV.sh 2 ((dropX x l).map stepC)]] := by rw [dx_f h e]
theorem row_n {l : List (Int × Int)} {x : Int} (h : l.length = 0) : [[AV.sh 2 (l.map stepC)]] = [[AV.sh 2 ((dropX x l).map stepC)]] := by rw [dx_n h]
theorem breaks1_seq (a b : List (Int × Int)) (ha0 : a.length ≤ 140737488355328) (hb0 : b.length ≤ 140737488355328) : SeqR Try.prog 75 [.adr 0 0 0, .adr 1 0 0] [(0, ⟨false, 22, 1, [[.sh 2 (a.map stepC)]], true⟩), (1, ⟨false, 22, 1, [[.sh 2 (b.map stepC)]], true⟩)] 2 (fun x : Int => #[.int .i64 x]) (Brk a b) (fun _ => True) (a.length + b.length) := by
  refine SeqR.of (nt := 68) Try.func75 rfl rfl rfl rfl rfl ?_
  intro l0 S0 J hRnd
  refine EvY.block ?_
  refine EvY.loopU (κ := {p : List Int × List (Int × Int) × List (Int × Int) // (∀ xs, Brk p.2.1 p.2.2 xs → Brk a b (p.1 ++ xs)) ∧ p.1.length + p.2.1.length + p.2.2.length ≤ a.length + b.length}) (fun p => (true, p.1.1)) [0, 1] [0, 1, 2] (fun p => []) (fun p => [(0, ⟨false, 22, 1, [[.sh 2 ((p.1.2.1).map stepC)]], true⟩), (1, ⟨false, 22, 1, [[.sh 2 ((p.1.2.2).map stepC)]], true⟩)]) (fun p => p.1.2.1.length + p.1.2.2.length) ⟨([], a, b), fun xs h => h, by simp⟩ (.c (.c (.c .n))) (keep_c (he := (by first | exact row_t (hA (by omega)) (by omega) | exact row_f (hA (by omega)) (by omega) | exact row_n (by omega) | rfl)) (h := (keep_c (he := (by first | exact row_t (hB (by omega)) (by omega) | exact row_f (hB (by omega)) (by omega) | exact row_n (by omega) | rfl)) (h := keep_n)))) trivial rfl ?_
  rintro ⟨⟨pre, a', b'⟩, hinv⟩ R0 hR0
  try dsimp only [List.cons_append, List.nil_append, List.length_cons, List.length_nil]
  dsimp only at hinv
  obtain ⟨p0, hA⟩ : ∃ p, 0 < a'.length → a'[0]? = some p := ⟨hd0 a', hd_get⟩
  obtain ⟨q0, hB⟩ : ∃ p, 0 < b'.length → b'[0]? = some p := ⟨hd0 b', hd_get⟩
  refine EvY.seq ?_
  refine EvY.sr fun K hK => S.o (q.lv am_ag22) (S.o (q.lens am_el22) (S.o q.gtr (S.bd q.mv (fun c1 => ?_) (fun c1 => ?_))))
  · first
  | (first | omega | contradiction)
  | refine S.sk (S.sk (S.sk (S.o q.pt (S.end (hK _ ?_)))))
    clear hK K
    refine EvY.ct ?_
    refine EvY.skip ?_
    show EvY _ _ _ _ _ _ _
    refine EvY.block ?_
    refine EvY.sr fun K hK => S.o q.as (S.end (hK _ ?_))
    clear hK K
    refine EvY.seq ?_
    refine EvY.block ?_
    refine EvY.sr fun K hK => S.o (q.lv am_ag22) (S.o (q.lens am_el22) (S.o q.eql (S.o q.as (S.end (hK _ ?_)))))
    clear hK K
    refine EvY.cd (fun c2 => ?_) (fun c2 => ?_)
    · first
    | (first | omega | contradiction)
    | refine EvY.region_S fun K hK => S.o (q.lv am_ag22) (S.o (q.ix am_el22 am_cl57 (hl := (by first | exact ati (hA (by omega)) (by omega) | exact ati (hB (by omega)) (by omega) | exact atig (by omega)))) (S.o (q.fs 0 am_fi57_0 am_cl3) (S.o (q.ls am_ag3) (S.o q.as (S.end (hK _ ?_))))))
      clear hK K
      show EvY _ _ _ _ _ _ _
      refine EvY.seq ?_
      have hx : ∃ x, x = nextX a' b' := ⟨_, rfl⟩
      obtain ⟨x, hx⟩ := hx
      first
      | rw [nx_m (hA (by omega)) (hB (by omega))]
      | rw [nx_b (a := a') (by omega) (hB (by omega))]
      | rw [nx_a (b := b') (by omega) (hA (by omega))]
      rw [← hx]
      refine EvY.yieldT hRnd 2 x (by omega) rfl fun K hK => ?_
      simp only [List.take_succ_cons, List.take_zero]
      refine S.o q.mv (S.o q.mv (S.end (hK _ ?_)))
      clear hK K
      refine ⟨rfl, ⟨[_], rfl, rfl⟩, Nat.le_of_ble_eq_true rfl, ?_, ?_⟩
      · refine SeqL.k fun K hK => ?_
        simp only [List.drop_succ_cons, List.drop_zero, St.put]
        refine S.o q.nott (S.end (hK _ ?_))
        clear hK K
        refine EvY.cf ?_
        refine EvY.skip ?_
        show EvY _ _ _ _ _ _ _
        refine EvY.seq ?_
        refine EvY.sr fun K hK => S.o (q.lv am_ag22) (S.o (q.lens am_el22) (S.o q.gtr (S.bd q.mv (fun c3 => ?_) (fun c3 => ?_))))
        · first
        | (first | omega | contradiction)
        | refine S.o (q.lv am_ag22) (S.o (q.ix am_el22 am_cl57 (hl := (by first | exact ati (hA (by omega)) (by omega) | exact ati (hB (by omega)) (by omega) | exact atig (by omega)))) (S.o (q.fs 0 am_fi57_0 am_cl3) (S.o (q.ls am_ag3) (S.o q.mv (S.o q.eql (S.o q.pt (S.end (hK _ ?_))))))))
          clear hK K
          refine EvY.cd (fun c4 => ?_) (fun c4 => ?_)
          · first
          | (first | omega | contradiction)
          | refine EvY.region_S fun K hK => S.o (q.lv am_ag22) (S.o (q.sh am_el22 am_cl57) (S.sv [_] true [_] am_in22 am_cl22 (h := S.end (hK _ ?_))))
            clear hK K
            show EvY _ _ _ _ _ _ _
            refine EvY.sr fun K hK => S.o (q.lv am_ag22) (S.o (q.lens am_el22) (S.o q.gtr (S.bd q.mv (fun c5 => ?_) (fun c5 => ?_))))
            · first
            | (first | omega | contradiction)
            | refine S.o (q.lv am_ag22) (S.o (q.ix am_el22 am_cl57 (hl := (by first | exact ati (hA (by omega)) (by omega) | exact ati (hB (by omega)) (by omega) | exact atig (by omega)))) (S.o (q.fs 0 am_fi57_0 am_cl3) (S.o (q.ls am_ag3) (S.o q.mv (S.o q.eql (S.o q.pt (S.end (hK _ ?_))))))))
              clear hK K
              refine EvY.cd (fun c6 => ?_) (fun c6 => ?_)
              · first
              | (first | omega | contradiction)
              | refine EvY.region_S fun K hK => S.o (q.lv am_ag22) (S.o (q.sh am_el22 am_cl57) (S.sv [_] true [_] am_in22 am_cl22 (h := S.end (hK _ ?_))))
                clear hK K
                refine hR0 _ _ _ ?_
                refine roundYU [0, 1] [0, 1, 2] ⟨(pre ++ [x], dropX x a', dropX x b'), brk_step hinv (by omega) hx⟩ ?_ (keep_c (he := (by first | exact row_t (hA (by omega)) (by omega) | exact row_f (hA (by omega)) (by omega) | exact row_n (by omega) | rfl)) (h := (keep_c (he := (by first | exact row_t (hB (by omega)) (by omega) | exact row_f (hB (by omega)) (by omega) | exact row_n (by omega) | rfl)) (h := keep_n)))) trivial (.c (.c (.c .n))) rfl
                skip
                all_goals exact dx_lt (by omega) hx
              · first
              | (first | omega | contradiction)
              | refine EvY.skip ?_
                refine hR0 _ _ _ ?_
                refine roundYU [0, 1] [0, 1, 2] ⟨(pre ++ [x], dropX x a', dropX x b'), brk_step hinv (by omega) hx⟩ ?_ (keep_c (he := (by first | exact row_t (hA (by omega)) (by omega) | exact row_f (hA (by omega)) (by omega) | exact row_n (by omega) | rfl)) (h := (keep_c (he := (by first | exact row_t (hB (by omega)) (by omega) | exact row_f (hB (by omega)) (by omega) | exact row_n (by omega) | rfl)) (h := keep_n)))) trivial (.c (.c (.c .n))) rfl
                skip
                all_goals exact dx_lt (by omega) hx
            · first
            | (first | omega | contradiction)
            | refine S.sk (S.sk (S.sk (S.sk (S.sk (S.sk (S.o q.pf (S.end (hK _ ?_))))))))
              clear hK K
              refine EvY.cf ?_
              refine EvY.skip ?_
              refine hR0 _ _ _ ?_
              refine roundYU [0, 1] [0, 1, 2] ⟨(pre ++ [x], dropX x a', dropX x b'), brk_step hinv (by omega) hx⟩ ?_ (keep_c (he := (by first | exact row_t (hA (by omega)) (by omega) | exact row_f (hA (by omega)) (by omega) | exact row_n (by omega) | rfl)) (h := (keep_c (he := (by first | exact row_t (hB (by omega)) (by omega) | exact row_f (hB (by omega)) (by omega) | exact row_n (by omega) | rfl)) (h := keep_n)))) trivial (.c (.c (.c .n))) rfl
              skip
              all_goals exact dx_lt (by omega) hx
          · first
          | (first | omega | contradiction)
          | refine EvY.skip ?_
            show EvY _ _ _ _ _ _ _
            refine EvY.sr fun K hK => S.o (q.lv am_ag22) (S.o (q.lens am_el22) (S.o q.gtr (S.bd q.mv (fun c7 => ?_) (fun c7 => ?_))))
            · first
            | (first | omega | contradiction)
            | refine S.o (q.lv am_ag22) (S.o (q.ix am_el22 am_cl57 (hl := (by first | exact ati (hA (by omega)) (by omega) | exact ati (hB (by omega)) (by omega) | exact atig (by omega)))) (S.o (q.fs 0 am_fi57_0 am_cl3) (S.o (q.ls am_ag3) (S.o q.mv (S.o q.eql (S.o q.pt (S.end (hK _ ?_))))))))
              clear hK K
              refine EvY.cd (fun c8 => ?_) (fun c8 => ?_)
              · first
              | (first | omega | contradiction)
              | refine EvY.region_S fun K hK => S.o (q.lv am_ag22) (S.o (q.sh am_el22 am_cl57) (S.sv [_] true [_] am_in22 am_cl22 (h := S.end (hK _ ?_))))
                clear hK K
                refine hR0 _ _ _ ?_
                refine roundYU [0, 1] [0, 1, 2] ⟨(pre ++ [x], dropX x a', dropX x b'), brk_step hinv (by omega) hx⟩ ?_ (keep_c (he := (by first | exact row_t (hA (by omega)) (by omega) | exact row_f (hA (by omega)) (by omega) | exact row_n (by omega) | rfl)) (h := (keep_c (he := (by first | exact row_t (hB (by omega)) (by omega) | exact row_f (hB (by omega)) (by omega) | exact row_n (by omega) | rfl)) (h := keep_n)))) trivial (.c (.c (.c .n))) rfl
                skip
                all_goals exact dx_lt (by omega) hx
              · first
              | (first | omega | contradiction)
              | refine EvY.skip ?_
                refine hR0 _ _ _ ?_
                refine roundYU [0, 1] [0, 1, 2] ⟨(pre ++ [x], dropX x a', dropX x b'), brk_step hinv (by omega) hx⟩ ?_ (keep_c (he := (by first | exact row_t (hA (by omega)) (by omega) | exact row_f (hA (by omega)) (by omega) | exact row_n (by omega) | rfl)) (h := (keep_c (he := (by first | exact row_t (hB (by omega)) (by omega) | exact row_f (hB (by omega)) (by omega) | exact row_n (by omega) | rfl)) (h := keep_n)))) trivial (.c (.c (.c .n))) rfl
                skip
                all_goals exact dx_lt (by omega) hx
            · first
            | (first | omega | contradiction)
            | refine S.sk (S.sk (S.sk (S.sk (S.sk (S.sk (S.o q.pf (S.end (hK _ ?_))))))))
              clear hK K
              refine EvY.cf ?_
              refine EvY.skip ?_
              refine hR0 _ _ _ ?_
              refine roundYU [0, 1] [0, 1, 2] ⟨(pre ++ [x], dropX x a', dropX x b'), brk_step hinv (by omega) hx⟩ ?_ (keep_c (he := (by first | exact row_t (hA (by omega)) (by omega) | exact row_f (hA (by omega)) (by omega) | exact row_n (by omega) | rfl)) (h := (keep_c (he := (by first | exact row_t (hB (by omega)) (by omega) | exact row_f (hB (by omega)) (by omega) | exact row_n (by omega) | rfl)) (h := keep_n)))) trivial (.c (.c (.c .n))) rfl
              skip
              all_goals exact dx_lt (by omega) hx
        · first
        | (first | omega | contradiction)
        | refine S.sk (S.sk (S.sk (S.sk (S.sk (S.sk (S.o q.pf (S.end (hK _ ?_))))))))
          clear hK K
          refine EvY.cf ?_
          refine EvY.skip ?_
          show EvY _ _ _ _ _ _ _
          refine EvY.sr fun K hK => S.o (q.lv am_ag22) (S.o (q.lens am_el22) (S.o q.gtr (S.bd q.mv (fun c9 => ?_) (fun c9 => ?_))))
          · first
          | (first | omega | contradiction)
          | refine S.o (q.lv am_ag22) (S.o (q.ix am_el22 am_cl57 (hl := (by first | exact ati (hA (by omega)) (by omega) | exact ati (hB (by omega)) (by omega) | exact atig (by omega)))) (S.o (q.fs 0 am_fi57_0 am_cl3) (S.o (q.ls am_ag3) (S.o q.mv (S.o q.eql (S.o q.pt (S.end (hK _ ?_))))))))
            clear hK K
            refine EvY.cd (fun c10 => ?_) (fun c10 => ?_)
            · first
            | (first | omega | contradiction)
            | refine EvY.region_S fun K hK => S.o (q.lv am_ag22) (S.o (q.sh am_el22 am_cl57) (S.sv [_] true [_] am_in22 am_cl22 (h := S.end (hK _ ?_))))
              clear hK K
              refine hR0 _ _ _ ?_
              refine roundYU [0, 1] [0, 1, 2] ⟨(pre ++ [x], dropX x a', dropX x b'), brk_step hinv (by omega) hx⟩ ?_ (keep_c (he := (by first | exact row_t (hA (by omega)) (by omega) | exact row_f (hA (by omega)) (by omega) | exact row_n (by omega) | rfl)) (h := (keep_c (he := (by first | exact row_t (hB (by omega)) (by omega) | exact row_f (hB (by omega)) (by omega) | exact row_n (by omega) | rfl)) (h := keep_n)))) trivial (.c (.c (.c .n))) rfl
              skip
              all_goals exact dx_lt (by omega) hx
            · first
            | (first | omega | contradiction)
            | refine EvY.skip ?_
              refine hR0 _ _ _ ?_
              refine roundYU [0, 1] [0, 1, 2] ⟨(pre ++ [x], dropX x a', dropX x b'), brk_step hinv (by omega) hx⟩ ?_ (keep_c (he := (by first | exact row_t (hA (by omega)) (by omega) | exact row_f (hA (by omega)) (by omega) | exact row_n (by omega) | rfl)) (h := (keep_c (he := (by first | exact row_t (hB (by omega)) (by omega) | exact row_f (hB (by omega)) (by omega) | exact row_n (by omega) | rfl)) (h := keep_n)))) trivial (.c (.c (.c .n))) rfl
              skip
              all_goals exact dx_lt (by omega) hx
          · first
          | (first | omega | contradiction)
          | refine S.sk (S.sk (S.sk (S.sk (S.sk (S.sk (S.o q.pf (S.end (hK _ ?_))))))))
            clear hK K
            refine EvY.cf ?_
            refine EvY.skip ?_
            refine hR0 _ _ _ ?_
            refine roundYU [0, 1] [0, 1, 2] ⟨(pre ++ [x], dropX x a', dropX x b'), brk_step hinv (by omega) hx⟩ ?_ (keep_c (he := (by first | exact row_t (hA (by omega)) (by omega) | exact row_f (hA (by omega)) (by omega) | exact row_n (by omega) | rfl)) (h := (keep_c (he := (by first | exact row_t (hB (by omega)) (by omega) | exact row_f (hB (by omega)) (by omega) | exact row_n (by omega) | rfl)) (h := keep_n)))) trivial (.c (.c (.c .n))) rfl
            skip
            all_goals exact dx_lt (by omega) hx
      · refine SeqL.k fun K hK => ?_
        simp only [List.drop_succ_cons, List.drop_zero, St.put]
        refine S.o q.notf (S.end (hK _ ?_))
        clear hK K
        refine EvY.ct ?_
        refine EvY.ret ?_
        refine hR0 _ _ _ ?_
        exact ⟨.inr rfl, fun h => (by cases h), fun _ => trivial⟩
    · first
    | (first | omega | contradiction)
    | refine EvY.sr fun K hK => S.o (q.lv am_ag22) (S.o (q.lens am_el22) (S.o q.eql (S.o q.as (S.end (hK _ ?_)))))
      clear hK K
      refine EvY.cd (fun c11 => ?_) (fun c11 => ?_)
      · first
      | (first | omega | contradiction)
      | refine EvY.region_S fun K hK => S.o (q.lv am_ag22) (S.o (q.ix am_el22 am_cl57 (hl := (by first | exact ati (hA (by omega)) (by omega) | exact ati (hB (by omega)) (by omega) | exact atig (by omega)))) (S.o (q.fs 0 am_fi57_0 am_cl3) (S.o (q.ls am_ag3) (S.o q.as (S.end (hK _ ?_))))))
        clear hK K
        show EvY _ _ _ _ _ _ _
        refine EvY.seq ?_
        have hx : ∃ x, x = nextX a' b' := ⟨_, rfl⟩
        obtain ⟨x, hx⟩ := hx
        first
        | rw [nx_m (hA (by omega)) (hB (by omega))]
        | rw [nx_b (a := a') (by omega) (hB (by omega))]
        | rw [nx_a (b := b') (by omega) (hA (by omega))]
        rw [← hx]
        refine EvY.yieldT hRnd 2 x (by omega) rfl fun K hK => ?_
        simp only [List.take_succ_cons, List.take_zero]
        refine S.o q.mv (S.o q.mv (S.end (hK _ ?_)))
        clear hK K
        refine ⟨rfl, ⟨[_], rfl, rfl⟩, Nat.le_of_ble_eq_true rfl, ?_, ?_⟩
        · refine SeqL.k fun K hK => ?_
          simp only [List.drop_succ_cons, List.drop_zero, St.put]
          refine S.o q.nott (S.end (hK _ ?_))
          clear hK K
          refine EvY.cf ?_
          refine EvY.skip ?_
          show EvY _ _ _ _ _ _ _
          refine EvY.seq ?_
          refine EvY.sr fun K hK => S.o (q.lv am_ag22) (S.o (q.lens am_el22) (S.o q.gtr (S.bd q.mv (fun c12 => ?_) (fun c12 => ?_))))
          · first
          | (first | omega | contradiction)
          | refine S.o (q.lv am_ag22) (S.o (q.ix am_el22 am_cl57 (hl := (by first | exact ati (hA (by omega)) (by omega) | exact ati (hB (by omega)) (by omega) | exact atig (by omega)))) (S.o (q.fs 0 am_fi57_0 am_cl3) (S.o (q.ls am_ag3) (S.o q.mv (S.o q.eql (S.o q.pt (S.end (hK _ ?_))))))))
            clear hK K
            refine EvY.cd (fun c13 => ?_) (fun c13 => ?_)
            · first
            | (first | omega | contradiction)
            | refine EvY.region_S fun K hK => S.o (q.lv am_ag22) (S.o (q.sh am_el22 am_cl57) (S.sv [_] true [_] am_in22 am_cl22 (h := S.end (hK _ ?_))))
              clear hK K
              show EvY _ _ _ _ _ _ _
              refine EvY.sr fun K hK => S.o (q.lv am_ag22) (S.o (q.lens am_el22) (S.o q.gtr (S.bd q.mv (fun c14 => ?_) (fun c14 => ?_))))
              · first
              | (first | omega | contradiction)
              | refine S.o (q.lv am_ag22) (S.o (q.ix am_el22 am_cl57 (hl := (by first | exact ati (hA (by omega)) (by omega) | exact ati (hB (by omega)) (by omega) | exact atig (by omega)))) (S.o (q.fs 0 am_fi57_0 am_cl3) (S.o (q.ls am_ag3) (S.o q.mv (S.o q.eql (S.o q.pt (S.end (hK _ ?_))))))))
                clear hK K
                refine EvY.cd (fun c15 => ?_) (fun c15 => ?_)
                · first
                | (first | omega | contradiction)
                | refine EvY.region_S fun K hK => S.o (q.lv am_ag22) (S.o (q.sh am_el22 am_cl57) (S.sv [_] true [_] am_in22 am_cl22 (h := S.end (hK _ ?_))))
                  clear hK K
                  refine hR0 _ _ _ ?_
                  refine roundYU [0, 1] [0, 1, 2] ⟨(pre ++ [x], dropX x a', dropX x b'), brk_step hinv (by omega) hx⟩ ?_ (keep_c (he := (by first | exact row_t (hA (by omega)) (by omega) | exact row_f (hA (by omega)) (by omega) | exact row_n (by omega) | rfl)) (h := (keep_c (he := (by first | exact row_t (hB (by omega)) (by omega) | exact row_f (hB (by omega)) (by omega) | exact row_n (by omega) | rfl)) (h := keep_n)))) trivial (.c (.c (.c .n))) rfl
                  skip
                  all_goals exact dx_lt (by omega) hx
                · first
                | (first | omega | contradiction)
                | refine EvY.skip ?_
                  refine hR0 _ _ _ ?_
                  refine roundYU [0, 1] [0, 1, 2] ⟨(pre ++ [x], dropX x a', dropX x b'), brk_step hinv (by omega) hx⟩ ?_ (keep_c (he := (by first | exact row_t (hA (by omega)) (by omega) | exact row_f (hA (by omega)) (by omega) | exact row_n (by omega) | rfl)) (h := (keep_c (he := (by first | exact row_t (hB (by omega)) (by omega) | exact row_f (hB (by omega)) (by omega) | exact row_n (by omega) | rfl)) (h := keep_n)))) trivial (.c (.c (.c .n))) rfl
                  skip
                  all_goals exact dx_lt (by omega) hx
              · first
              | (first | omega | contradiction)
              | refine S.sk (S.sk (S.sk (S.sk (S.sk (S.sk (S.o q.pf (S.end (hK _ ?_))))))))
                clear hK K
                refine EvY.cf ?_
                refine EvY.skip ?_
                refine hR0 _ _ _ ?_
                refine roundYU [0, 1] [0, 1, 2] ⟨(pre ++ [x], dropX x a', dropX x b'), brk_step hinv (by omega) hx⟩ ?_ (keep_c (he := (by first | exact row_t (hA (by omega)) (by omega) | exact row_f (hA (by omega)) (by omega) | exact row_n (by omega) | rfl)) (h := (keep_c (he := (by first | exact row_t (hB (by omega)) (by omega) | exact row_f (hB (by omega)) (by omega) | exact row_n (by omega) | rfl)) (h := keep_n)))) trivial (.c (.c (.c .n))) rfl
                skip
                all_goals exact dx_lt (by omega) hx
            · first
            | (first | omega | contradiction)
            | refine EvY.skip ?_
              show EvY _ _ _ _ _ _ _
              refine EvY.sr fun K hK => S.o (q.lv am_ag22) (S.o (q.lens am_el22) (S.o q.gtr (S.bd q.mv (fun c16 => ?_) (fun c16 => ?_))))
              · first
              | (first | omega | contradiction)
              | refine S.o (q.lv am_ag22) (S.o (q.ix am_el22 am_cl57 (hl := (by first | exact ati (hA (by omega)) (by omega) | exact ati (hB (by omega)) (by omega) | exact atig (by omega)))) (S.o (q.fs 0 am_fi57_0 am_cl3) (S.o (q.ls am_ag3) (S.o q.mv (S.o q.eql (S.o q.pt (S.end (hK _ ?_))))))))
                clear hK K
                refine EvY.cd (fun c17 => ?_) (fun c17 => ?_)
                · first
                | (first | omega | contradiction)
                | refine EvY.region_S fun K hK => S.o (q.lv am_ag22) (S.o (q.sh am_el22 am_cl57) (S.sv [_] true [_] am_in22 am_cl22 (h := S.end (hK _ ?_))))
                  clear hK K
                  refine hR0 _ _ _ ?_
                  refine roundYU [0, 1] [0, 1, 2] ⟨(pre ++ [x], dropX x a', dropX x b'), brk_step hinv (by omega) hx⟩ ?_ (keep_c (he := (by first | exact row_t (hA (by omega)) (by omega) | exact row_f (hA (by omega)) (by omega) | exact row_n (by omega) | rfl)) (h := (keep_c (he := (by first | exact row_t (hB (by omega)) (by omega) | exact row_f (hB (by omega)) (by omega) | exact row_n (by omega) | rfl)) (h := keep_n)))) trivial (.c (.c (.c .n))) rfl
                  skip
                  all_goals exact dx_lt (by omega) hx
                · first
                | (first | omega | contradiction)
                | refine EvY.skip ?_
                  refine hR0 _ _ _ ?_
                  refine roundYU [0, 1] [0, 1, 2] ⟨(pre ++ [x], dropX x a', dropX x b'), brk_step hinv (by omega) hx⟩ ?_ (keep_c (he := (by first | exact row_t (hA (by omega)) (by omega) | exact row_f (hA (by omega)) (by omega) | exact row_n (by omega) | rfl)) (h := (keep_c (he := (by first | exact row_t (hB (by omega)) (by omega) | exact row_f (hB (by omega)) (by omega) | exact row_n (by omega) | rfl)) (h := keep_n)))) trivial (.c (.c (.c .n))) rfl
                  skip
                  all_goals exact dx_lt (by omega) hx
              · first
              | (first | omega | contradiction)
              | refine S.sk (S.sk (S.sk (S.sk (S.sk (S.sk (S.o q.pf (S.end (hK _ ?_))))))))
                clear hK K
                refine EvY.cf ?_
                refine EvY.skip ?_
                refine hR0 _ _ _ ?_
                refine roundYU [0, 1] [0, 1, 2] ⟨(pre ++ [x], dropX x a', dropX x b'), brk_step hinv (by omega) hx⟩ ?_ (keep_c (he := (by first | exact row_t (hA (by omega)) (by omega) | exact row_f (hA (by omega)) (by omega) | exact row_n (by omega) | rfl)) (h := (keep_c (he := (by first | exact row_t (hB (by omega)) (by omega) | exact row_f (hB (by omega)) (by omega) | exact row_n (by omega) | rfl)) (h := keep_n)))) trivial (.c (.c (.c .n))) rfl
                skip
                all_goals exact dx_lt (by omega) hx
          · first
          | (first | omega | contradiction)
          | refine S.sk (S.sk (S.sk (S.sk (S.sk (S.sk (S.o q.pf (S.end (hK _ ?_))))))))
            clear hK K
            refine EvY.cf ?_
            refine EvY.skip ?_
            show EvY _ _ _ _ _ _ _
            refine EvY.sr fun K hK => S.o (q.lv am_ag22) (S.o (q.lens am_el22) (S.o q.gtr (S.bd q.mv (fun c18 => ?_) (fun c18 => ?_))))
            · first
            | (first | omega | contradiction)
            | refine S.o (q.lv am_ag22) (S.o (q.ix am_el22 am_cl57 (hl := (by first | exact ati (hA (by omega)) (by omega) | exact ati (hB (by omega)) (by omega) | exact atig (by omega)))) (S.o (q.fs 0 am_fi57_0 am_cl3) (S.o (q.ls am_ag3) (S.o q.mv (S.o q.eql (S.o q.pt (S.end (hK _ ?_))))))))
              clear hK K
              refine EvY.cd (fun c19 => ?_) (fun c19 => ?_)
              · first
              | (first | omega | contradiction)
              | refine EvY.region_S fun K hK => S.o (q.lv am_ag22) (S.o (q.sh am_el22 am_cl57) (S.sv [_] true [_] am_in22 am_cl22 (h := S.end (hK _ ?_))))
                clear hK K
                refine hR0 _ _ _ ?_
                refine roundYU [0, 1] [0, 1, 2] ⟨(pre ++ [x], dropX x a', dropX x b'), brk_step hinv (by omega) hx⟩ ?_ (keep_c (he := (by first | exact row_t (hA (by omega)) (by omega) | exact row_f (hA (by omega)) (by omega) | exact row_n (by omega) | rfl)) (h := (keep_c (he := (by first | exact row_t (hB (by omega)) (by omega) | exact row_f (hB (by omega)) (by omega) | exact row_n (by omega) | rfl)) (h := keep_n)))) trivial (.c (.c (.c .n))) rfl
                skip
                all_goals exact dx_lt (by omega) hx
              · first
              | (first | omega | contradiction)
              | refine EvY.skip ?_
                refine hR0 _ _ _ ?_
                refine roundYU [0, 1] [0, 1, 2] ⟨(pre ++ [x], dropX x a', dropX x b'), brk_step hinv (by omega) hx⟩ ?_ (keep_c (he := (by first | exact row_t (hA (by omega)) (by omega) | exact row_f (hA (by omega)) (by omega) | exact row_n (by omega) | rfl)) (h := (keep_c (he := (by first | exact row_t (hB (by omega)) (by omega) | exact row_f (hB (by omega)) (by omega) | exact row_n (by omega) | rfl)) (h := keep_n)))) trivial (.c (.c (.c .n))) rfl
                skip
                all_goals exact dx_lt (by omega) hx
            · first
            | (first | omega | contradiction)
            | refine S.sk (S.sk (S.sk (S.sk (S.sk (S.sk (S.o q.pf (S.end (hK _ ?_))))))))
              clear hK K
              refine EvY.cf ?_
              refine EvY.skip ?_
              refine hR0 _ _ _ ?_
              refine roundYU [0, 1] [0, 1, 2] ⟨(pre ++ [x], dropX x a', dropX x b'), brk_step hinv (by omega) hx⟩ ?_ (keep_c (he := (by first | exact row_t (hA (by omega)) (by omega) | exact row_f (hA (by omega)) (by omega) | exact row_n (by omega) | rfl)) (h := (keep_c (he := (by first | exact row_t (hB (by omega)) (by omega) | exact row_f (hB (by omega)) (by omega) | exact row_n (by omega) | rfl)) (h := keep_n)))) trivial (.c (.c (.c .n))) rfl
              skip
              all_goals exact dx_lt (by omega) hx
        · refine SeqL.k fun K hK => ?_
          simp only [List.drop_succ_cons, List.drop_zero, St.put]
          refine S.o q.notf (S.end (hK _ ?_))
          clear hK K
          refine EvY.ct ?_
          refine EvY.ret ?_
          refine hR0 _ _ _ ?_
          exact ⟨.inr rfl, fun h => (by cases h), fun _ => trivial⟩
      · first
      | (first | omega | contradiction)
      | refine EvY.region_M (tbs [(0, 0), (1, 1), (2, 3), (3, 7), (0, 0), (5, 16), (6, 48), (7, 112), (8, 255), (9, 511)]) 9 fun K hK => M.o (q.lv am_ag22) (M.o (q.ix am_el22 am_cl57 (hl := (by first | exact ati (hA (by omega)) (by omega) | exact ati (hB (by omega)) (by omega) | exact atig (by omega)))) (M.o (q.fs 0 am_fi57_0 am_cl3) (M.o (q.ls am_ag3) (M.o (q.lv am_ag22) (M.o (q.ix am_el22 am_cl57 (hl := (by first | exact ati (hA (by omega)) (by omega) | exact ati (hB (by omega)) (by omega) | exact atig (by omega)))) (M.o (q.fs 0 am_fi57_0 am_cl3) (M.o (q.ls am_ag3) (M.o q.min (M.end [_, _] (h := S.o q.as (S.end (hK _ ?_))))))))))))
        clear hK K
        show EvY _ _ _ _ _ _ _
        refine EvY.seq ?_
        have hx : ∃ x, x = nextX a' b' := ⟨_, rfl⟩
        obtain ⟨x, hx⟩ := hx
        first
        | rw [nx_m (hA (by omega)) (hB (by omega))]
        | rw [nx_b (a := a') (by omega) (hB (by omega))]
        | rw [nx_a (b := b') (by omega) (hA (by omega))]
        rw [← hx]
        refine EvY.yieldT hRnd 2 x (by omega) rfl fun K hK => ?_
        simp only [List.take_succ_cons, List.take_zero]
        refine S.o q.mv (S.o q.mv (S.end (hK _ ?_)))
        clear hK K
        refine ⟨rfl, ⟨[_], rfl, rfl⟩, Nat.le_of_ble_eq_true rfl, ?_, ?_⟩
        · refine SeqL.k fun K hK => ?_
          simp only [List.drop_succ_cons, List.drop_zero, St.put]
          refine S.o q.nott (S.end (hK _ ?_))
          clear hK K
          refine EvY.cf ?_
          refine EvY.skip ?_
          show EvY _ _ _ _ _ _ _
          refine EvY.seq ?_
          refine EvY.sr fun K hK => S.o (q.lv am_ag22) (S.o (q.lens am_el22) (S.o q.gtr (S.bd q.mv (fun c20 => ?_) (fun c20 => ?_))))
          · first
          | (first | omega | contradiction)
          | refine S.o (q.lv am_ag22) (S.o (q.ix am_el22 am_cl57 (hl := (by first | exact ati (hA (by omega)) (by omega) | exact ati (hB (by omega)) (by omega) | exact atig (by omega)))) (S.o (q.fs 0 am_fi57_0 am_cl3) (S.o (q.ls am_ag3) (S.o q.mv (S.o q.eql (S.o q.pt (S.end (hK _ ?_))))))))
            clear hK K
            refine EvY.cd (fun c21 => ?_) (fun c21 => ?_)
            · first
            | (first | omega | contradiction)
            | refine EvY.region_S fun K hK => S.o (q.lv am_ag22) (S.o (q.sh am_el22 am_cl57) (S.sv [_] true [_] am_in22 am_cl22 (h := S.end (hK _ ?_))))
              clear hK K
              show EvY _ _ _ _ _ _ _
              refine EvY.sr fun K hK => S.o (q.lv am_ag22) (S.o (q.lens am_el22) (S.o q.gtr (S.bd q.mv (fun c22 => ?_) (fun c22 => ?_))))
              · first
              | (first | omega | contradiction)
              | refine S.o (q.lv am_ag22) (S.o (q.ix am_el22 am_cl57 (hl := (by first | exact ati (hA (by omega)) (by omega) | exact ati (hB (by omega)) (by omega) | exact atig (by omega)))) (S.o (q.fs 0 am_fi57_0 am_cl3) (S.o (q.ls am_ag3) (S.o q.mv (S.o q.eql (S.o q.pt (S.end (hK _ ?_))))))))
                clear hK K
                refine EvY.cd (fun c23 => ?_) (fun c23 => ?_)
                · first
                | (first | omega | contradiction)
                | refine EvY.region_S fun K hK => S.o (q.lv am_ag22) (S.o (q.sh am_el22 am_cl57) (S.sv [_] true [_] am_in22 am_cl22 (h := S.end (hK _ ?_))))
                  clear hK K
                  refine hR0 _ _ _ ?_
                  refine roundYU [0, 1] [0, 1, 2] ⟨(pre ++ [x], dropX x a', dropX x b'), brk_step hinv (by omega) hx⟩ ?_ (keep_c (he := (by first | exact row_t (hA (by omega)) (by omega) | exact row_f (hA (by omega)) (by omega) | exact row_n (by omega) | rfl)) (h := (keep_c (he := (by first | exact row_t (hB (by omega)) (by omega) | exact row_f (hB (by omega)) (by omega) | exact row_n (by omega) | rfl)) (h := keep_n)))) trivial (.c (.c (.c .n))) rfl
                  skip
                  all_goals exact dx_lt (by omega) hx
                · first
                | (first | omega | contradiction)
                | refine EvY.skip ?_
                  refine hR0 _ _ _ ?_
                  refine roundYU [0, 1] [0, 1, 2] ⟨(pre ++ [x], dropX x a', dropX x b'), brk_step hinv (by omega) hx⟩ ?_ (keep_c (he := (by first | exact row_t (hA (by omega)) (by omega) | exact row_f (hA (by omega)) (by omega) | exact row_n (by omega) | rfl)) (h := (keep_c (he := (by first | exact row_t (hB (by omega)) (by omega) | exact row_f (hB (by omega)) (by omega) | exact row_n (by omega) | rfl)) (h := keep_n)))) trivial (.c (.c (.c .n))) rfl
                  skip
                  all_goals exact dx_lt (by omega) hx
              · first
              | (first | omega | contradiction)
              | refine S.sk (S.sk (S.sk (S.sk (S.sk (S.sk (S.o q.pf (S.end (hK _ ?_))))))))
                clear hK K
                refine EvY.cf ?_
                refine EvY.skip ?_
                refine hR0 _ _ _ ?_
                refine roundYU [0, 1] [0, 1, 2] ⟨(pre ++ [x], dropX x a', dropX x b'), brk_step hinv (by omega) hx⟩ ?_ (keep_c (he := (by first | exact row_t (hA (by omega)) (by omega) | exact row_f (hA (by omega)) (by omega) | exact row_n (by omega) | rfl)) (h := (keep_c (he := (by first | exact row_t (hB (by omega)) (by omega) | exact row_f (hB (by omega)) (by omega) | exact row_n (by omega) | rfl)) (h := keep_n)))) trivial (.c (.c (.c .n))) rfl
                skip
                all_goals exact dx_lt (by omega) hx
            · first
            | (first | omega | contradiction)
            | refine EvY.skip ?_
              show EvY _ _ _ _ _ _ _
              refine EvY.sr fun K hK => S.o (q.lv am_ag22) (S.o (q.lens am_el22) (S.o q.gtr (S.bd q.mv (fun c24 => ?_) (fun c24 => ?_))))
              · first
              | (first | omega | contradiction)
              | refine S.o (q.lv am_ag22) (S.o (q.ix am_el22 am_cl57 (hl := (by first | exact ati (hA (by omega)) (by omega) | exact ati (hB (by omega)) (by omega) | exact atig (by omega)))) (S.o (q.fs 0 am_fi57_0 am_cl3) (S.o (q.ls am_ag3) (S.o q.mv (S.o q.eql (S.o q.pt (S.end (hK _ ?_))))))))
                clear hK K
                refine EvY.cd (fun c25 => ?_) (fun c25 => ?_)
                · first
                | (first | omega | contradiction)
                | refine EvY.region_S fun K hK => S.o (q.lv am_ag22) (S.o (q.sh am_el22 am_cl57) (S.sv [_] true [_] am_in22 am_cl22 (h := S.end (hK _ ?_))))
                  clear hK K
                  refine hR0 _ _ _ ?_
                  refine roundYU [0, 1] [0, 1, 2] ⟨(pre ++ [x], dropX x a', dropX x b'), brk_step hinv (by omega) hx⟩ ?_ (keep_c (he := (by first | exact row_t (hA (by omega)) (by omega) | exact row_f (hA (by omega)) (by omega) | exact row_n (by omega) | rfl)) (h := (keep_c (he := (by first | exact row_t (hB (by omega)) (by omega) | exact row_f (hB (by omega)) (by omega) | exact row_n (by omega) | rfl)) (h := keep_n)))) trivial (.c (.c (.c .n))) rfl
                  skip
                  all_goals exact dx_lt (by omega) hx
                · first
                | (first | omega | contradiction)
                | refine EvY.skip ?_
                  refine hR0 _ _ _ ?_
                  refine roundYU [0, 1] [0, 1, 2] ⟨(pre ++ [x], dropX x a', dropX x b'), brk_step hinv (by omega) hx⟩ ?_ (keep_c (he := (by first | exact row_t (hA (by omega)) (by omega) | exact row_f (hA (by omega)) (by omega) | exact row_n (by omega) | rfl)) (h := (keep_c (he := (by first | exact row_t (hB (by omega)) (by omega) | exact row_f (hB (by omega)) (by omega) | exact row_n (by omega) | rfl)) (h := keep_n)))) trivial (.c (.c (.c .n))) rfl
                  skip
                  all_goals exact dx_lt (by omega) hx
              · first
              | (first | omega | contradiction)
              | refine S.sk (S.sk (S.sk (S.sk (S.sk (S.sk (S.o q.pf (S.end (hK _ ?_))))))))
                clear hK K
                refine EvY.cf ?_
                refine EvY.skip ?_
                refine hR0 _ _ _ ?_
                refine roundYU [0, 1] [0, 1, 2] ⟨(pre ++ [x], dropX x a', dropX x b'), brk_step hinv (by omega) hx⟩ ?_ (keep_c (he := (by first | exact row_t (hA (by omega)) (by omega) | exact row_f (hA (by omega)) (by omega) | exact row_n (by omega) | rfl)) (h := (keep_c (he := (by first | exact row_t (hB (by omega)) (by omega) | exact row_f (hB (by omega)) (by omega) | exact row_n (by omega) | rfl)) (h := keep_n)))) trivial (.c (.c (.c .n))) rfl
                skip
                all_goals exact dx_lt (by omega) hx
          · first
          | (first | omega | contradiction)
          | refine S.sk (S.sk (S.sk (S.sk (S.sk (S.sk (S.o q.pf (S.end (hK _ ?_))))))))
            clear hK K
            refine EvY.cf ?_
            refine EvY.skip ?_
            show EvY _ _ _ _ _ _ _
            refine EvY.sr fun K hK => S.o (q.lv am_ag22) (S.o (q.lens am_el22) (S.o q.gtr (S.bd q.mv (fun c26 => ?_) (fun c26 => ?_))))
            · first
            | (first | omega | contradiction)
            | refine S.o (q.lv am_ag22) (S.o (q.ix am_el22 am_cl57 (hl := (by first | exact ati (hA (by omega)) (by omega) | exact ati (hB (by omega)) (by omega) | exact atig (by omega)))) (S.o (q.fs 0 am_fi57_0 am_cl3) (S.o (q.ls am_ag3) (S.o q.mv (S.o q.eql (S.o q.pt (S.end (hK _ ?_))))))))
              clear hK K
              refine EvY.cd (fun c27 => ?_) (fun c27 => ?_)
              · first
              | (first | omega | contradiction)
              | refine EvY.region_S fun K hK => S.o (q.lv am_ag22) (S.o (q.sh am_el22 am_cl57) (S.sv [_] true [_] am_in22 am_cl22 (h := S.end (hK _ ?_))))
                clear hK K
                refine hR0 _ _ _ ?_
                refine roundYU [0, 1] [0, 1, 2] ⟨(pre ++ [x], dropX x a', dropX x b'), brk_step hinv (by omega) hx⟩ ?_ (keep_c (he := (by first | exact row_t (hA (by omega)) (by omega) | exact row_f (hA (by omega)) (by omega) | exact row_n (by omega) | rfl)) (h := (keep_c (he := (by first | exact row_t (hB (by omega)) (by omega) | exact row_f (hB (by omega)) (by omega) | exact row_n (by omega) | rfl)) (h := keep_n)))) trivial (.c (.c (.c .n))) rfl
                skip
                all_goals exact dx_lt (by omega) hx
              · first
              | (first | omega | contradiction)
              | refine EvY.skip ?_
                refine hR0 _ _ _ ?_
                refine roundYU [0, 1] [0, 1, 2] ⟨(pre ++ [x], dropX x a', dropX x b'), brk_step hinv (by omega) hx⟩ ?_ (keep_c (he := (by first | exact row_t (hA (by omega)) (by omega) | exact row_f (hA (by omega)) (by omega) | exact row_n (by omega) | rfl)) (h := (keep_c (he := (by first | exact row_t (hB (by omega)) (by omega) | exact row_f (hB (by omega)) (by omega) | exact row_n (by omega) | rfl)) (h := keep_n)))) trivial (.c (.c (.c .n))) rfl
                skip
                all_goals exact dx_lt (by omega) hx
            · first
            | (first | omega | contradiction)
            | refine S.sk (S.sk (S.sk (S.sk (S.sk (S.sk (S.o q.pf (S.end (hK _ ?_))))))))
              clear hK K
              refine EvY.cf ?_
              refine EvY.skip ?_
              refine hR0 _ _ _ ?_
              refine roundYU [0, 1] [0, 1, 2] ⟨(pre ++ [x], dropX x a', dropX x b'), brk_step hinv (by omega) hx⟩ ?_ (keep_c (he := (by first | exact row_t (hA (by omega)) (by omega) | exact row_f (hA (by omega)) (by omega) | exact row_n (by omega) | rfl)) (h := (keep_c (he := (by first | exact row_t (hB (by omega)) (by omega) | exact row_f (hB (by omega)) (by omega) | exact row_n (by omega) | rfl)) (h := keep_n)))) trivial (.c (.c (.c .n))) rfl
              skip
              all_goals exact dx_lt (by omega) hx
        · refine SeqL.k fun K hK => ?_
          simp only [List.drop_succ_cons, List.drop_zero, St.put]
          refine S.o q.notf (S.end (hK _ ?_))
          clear hK K
          refine EvY.ct ?_
          refine EvY.ret ?_
          refine hR0 _ _ _ ?_
          exact ⟨.inr rfl, fun h => (by cases h), fun _ => trivial⟩
  · first
  | (first | omega | contradiction)
  | refine S.o (q.lv am_ag22) (S.o (q.lens am_el22) (S.o q.gtr (S.o q.pf (S.end (hK _ ?_)))))
    clear hK K
    refine EvY.cd (fun c28 => ?_) (fun c28 => ?_)
    · first
    | (first | omega | contradiction)
    | refine EvY.skip ?_
      show EvY _ _ _ _ _ _ _
      refine EvY.block ?_
      refine EvY.sr fun K hK => S.o q.as (S.end (hK _ ?_))
      clear hK K
      refine EvY.seq ?_
      refine EvY.block ?_
      refine EvY.sr fun K hK => S.o (q.lv am_ag22) (S.o (q.lens am_el22) (S.o q.eql (S.o q.as (S.end (hK _ ?_)))))
      clear hK K
      refine EvY.cd (fun c29 => ?_) (fun c29 => ?_)
      · first
      | (first | omega | contradiction)
      | refine EvY.region_S fun K hK => S.o (q.lv am_ag22) (S.o (q.ix am_el22 am_cl57 (hl := (by first | exact ati (hA (by omega)) (by omega) | exact ati (hB (by omega)) (by omega) | exact atig (by omega)))) (S.o (q.fs 0 am_fi57_0 am_cl3) (S.o (q.ls am_ag3) (S.o q.as (S.end (hK _ ?_))))))
        clear hK K
        show EvY _ _ _ _ _ _ _
        refine EvY.seq ?_
        have hx : ∃ x, x = nextX a' b' := ⟨_, rfl⟩
        obtain ⟨x, hx⟩ := hx
        first
        | rw [nx_m (hA (by omega)) (hB (by omega))]
        | rw [nx_b (a := a') (by omega) (hB (by omega))]
        | rw [nx_a (b := b') (by omega) (hA (by omega))]
        rw [← hx]
        refine EvY.yieldT hRnd 2 x (by omega) rfl fun K hK => ?_
        simp only [List.take_succ_cons, List.take_zero]
        refine S.o q.mv (S.o q.mv (S.end (hK _ ?_)))
        clear hK K
        refine ⟨rfl, ⟨[_], rfl, rfl⟩, Nat.le_of_ble_eq_true rfl, ?_, ?_⟩
        · refine SeqL.k fun K hK => ?_
          simp only [List.drop_succ_cons, List.drop_zero, St.put]
          refine S.o q.nott (S.end (hK _ ?_))
          clear hK K
          refine EvY.cf ?_
          refine EvY.skip ?_
          show EvY _ _ _ _ _ _ _
          refine EvY.seq ?_
          refine EvY.sr fun K hK => S.o (q.lv am_ag22) (S.o (q.lens am_el22) (S.o q.gtr (S.bd q.mv (fun c30 => ?_) (fun c30 => ?_))))
          · first
          | (first | omega | contradiction)
          | refine S.o (q.lv am_ag22) (S.o (q.ix am_el22 am_cl57 (hl := (by first | exact ati (hA (by omega)) (by omega) | exact ati (hB (by omega)) (by omega) | exact atig (by omega)))) (S.o (q.fs 0 am_fi57_0 am_cl3) (S.o (q.ls am_ag3) (S.o q.mv (S.o q.eql (S.o q.pt (S.end (hK _ ?_))))))))
            clear hK K
            refine EvY.cd (fun c31 => ?_) (fun c31 => ?_)
            · first
            | (first | omega | contradiction)
            | refine EvY.region_S fun K hK => S.o (q.lv am_ag22) (S.o (q.sh am_el22 am_cl57) (S.sv [_] true [_] am_in22 am_cl22 (h := S.end (hK _ ?_))))
              clear hK K
              show EvY _ _ _ _ _ _ _
              refine EvY.sr fun K hK => S.o (q.lv am_ag22) (S.o (q.lens am_el22) (S.o q.gtr (S.bd q.mv (fun c32 => ?_) (fun c32 => ?_))))
              · first
              | (first | omega | contradiction)
              | refine S.o (q.lv am_ag22) (S.o (q.ix am_el22 am_cl57 (hl := (by first | exact ati (hA (by omega)) (by omega) | exact ati (hB (by omega)) (by omega) | exact atig (by omega)))) (S.o (q.fs 0 am_fi57_0 am_cl3) (S.o (q.ls am_ag3) (S.o q.mv (S.o q.eql (S.o q.pt (S.end (hK _ ?_))))))))
                clear hK K
                refine EvY.cd (fun c33 => ?_) (fun c33 => ?_)
                · first
                | (first | omega | contradiction)
                | refine EvY.region_S fun K hK => S.o (q.lv am_ag22) (S.o (q.sh am_el22 am_cl57) (S.sv [_] true [_] am_in22 am_cl22 (h := S.end (hK _ ?_))))
                  clear hK K
                  refine hR0 _ _ _ ?_
                  refine roundYU [0, 1] [0, 1, 2] ⟨(pre ++ [x], dropX x a', dropX x b'), brk_step hinv (by omega) hx⟩ ?_ (keep_c (he := (by first | exact row_t (hA (by omega)) (by omega) | exact row_f (hA (by omega)) (by omega) | exact row_n (by omega) | rfl)) (h := (keep_c (he := (by first | exact row_t (hB (by omega)) (by omega) | exact row_f (hB (by omega)) (by omega) | exact row_n (by omega) | rfl)) (h := keep_n)))) trivial (.c (.c (.c .n))) rfl
                  skip
                  all_goals exact dx_lt (by omega) hx
                · first
                | (first | omega | contradiction)
                | refine EvY.skip ?_
                  refine hR0 _ _ _ ?_
                  refine roundYU [0, 1] [0, 1, 2] ⟨(pre ++ [x], dropX x a', dropX x b'), brk_step hinv (by omega) hx⟩ ?_ (keep_c (he := (by first | exact row_t (hA (by omega)) (by omega) | exact row_f (hA (by omega)) (by omega) | exact row_n (by omega) | rfl)) (h := (keep_c (he := (by first | exact row_t (hB (by omega)) (by omega) | exact row_f (hB (by omega)) (by omega) | exact row_n (by omega) | rfl)) (h := keep_n)))) trivial (.c (.c (.c .n))) rfl
                  skip
                  all_goals exact dx_lt (by omega) hx
              · first
              | (first | omega | contradiction)
              | refine S.sk (S.sk (S.sk (S.sk (S.sk (S.sk (S.o q.pf (S.end (hK _ ?_))))))))
                clear hK K
                refine EvY.cf ?_
                refine EvY.skip ?_
                refine hR0 _ _ _ ?_
                refine roundYU [0, 1] [0, 1, 2] ⟨(pre ++ [x], dropX x a', dropX x b'), brk_step hinv (by omega) hx⟩ ?_ (keep_c (he := (by first | exact row_t (hA (by omega)) (by omega) | exact row_f (hA (by omega)) (by omega) | exact row_n (by omega) | rfl)) (h := (keep_c (he := (by first | exact row_t (hB (by omega)) (by omega) | exact row_f (hB (by omega)) (by omega) | exact row_n (by omega) | rfl)) (h := keep_n)))) trivial (.c (.c (.c .n))) rfl
                skip
                all_goals exact dx_lt (by omega) hx
            · first
            | (first | omega | contradiction)
            | refine EvY.skip ?_
              show EvY _ _ _ _ _ _ _
              refine EvY.sr fun K hK => S.o (q.lv am_ag22) (S.o (q.lens am_el22) (S.o q.gtr (S.bd q.mv (fun c34 => ?_) (fun c34 => ?_))))
              · first
              | (first | omega | contradiction)
              | refine S.o (q.lv am_ag22) (S.o (q.ix am_el22 am_cl57 (hl := (by first | exact ati (hA (by omega)) (by omega) | exact ati (hB (by omega)) (by omega) | exact atig (by omega)))) (S.o (q.fs 0 am_fi57_0 am_cl3) (S.o (q.ls am_ag3) (S.o q.mv (S.o q.eql (S.o q.pt (S.end (hK _ ?_))))))))
                clear hK K
                refine EvY.cd (fun c35 => ?_) (fun c35 => ?_)
                · first
                | (first | omega | contradiction)
                | refine EvY.region_S fun K hK => S.o (q.lv am_ag22) (S.o (q.sh am_el22 am_cl57) (S.sv [_] true [_] am_in22 am_cl22 (h := S.end (hK _ ?_))))
                  clear hK K
                  refine hR0 _ _ _ ?_
                  refine roundYU [0, 1] [0, 1, 2] ⟨(pre ++ [x], dropX x a', dropX x b'), brk_step hinv (by omega) hx⟩ ?_ (keep_c (he := (by first | exact row_t (hA (by omega)) (by omega) | exact row_f (hA (by omega)) (by omega) | exact row_n (by omega) | rfl)) (h := (keep_c (he := (by first | exact row_t (hB (by omega)) (by omega) | exact row_f (hB (by omega)) (by omega) | exact row_n (by omega) | rfl)) (h := keep_n)))) trivial (.c (.c (.c .n))) rfl
                  skip
                  all_goals exact dx_lt (by omega) hx
                · first
                | (first | omega | contradiction)
                | refine EvY.skip ?_
                  refine hR0 _ _ _ ?_
                  refine roundYU [0, 1] [0, 1, 2] ⟨(pre ++ [x], dropX x a', dropX x b'), brk_step hinv (by omega) hx⟩ ?_ (keep_c (he := (by first | exact row_t (hA (by omega)) (by omega) | exact row_f (hA (by omega)) (by omega) | exact row_n (by omega) | rfl)) (h := (keep_c (he := (by first | exact row_t (hB (by omega)) (by omega) | exact row_f (hB (by omega)) (by omega) | exact row_n (by omega) | rfl)) (h := keep_n)))) trivial (.c (.c (.c .n))) rfl
                  skip
                  all_goals exact dx_lt (by omega) hx
              · first
              | (first | omega | contradiction)
              | refine S.sk (S.sk (S.sk (S.sk (S.sk (S.sk (S.o q.pf (S.end (hK _ ?_))))))))
                clear hK K
                refine EvY.cf ?_
                refine EvY.skip ?_
                refine hR0 _ _ _ ?_
                refine roundYU [0, 1] [0, 1, 2] ⟨(pre ++ [x], dropX x a', dropX x b'), brk_step hinv (by omega) hx⟩ ?_ (keep_c (he := (by first | exact row_t (hA (by omega)) (by omega) | exact row_f (hA (by omega)) (by omega) | exact row_n (by omega) | rfl)) (h := (keep_c (he := (by first | exact row_t (hB (by omega)) (by omega) | exact row_f (hB (by omega)) (by omega) | exact row_n (by omega) | rfl)) (h := keep_n)))) trivial (.c (.c (.c .n))) rfl
                skip
                all_goals exact dx_lt (by omega) hx
          · first
          | (first | omega | contradiction)
          | refine S.sk (S.sk (S.sk (S.sk (S.sk (S.sk (S.o q.pf (S.end (hK _ ?_))))))))
            clear hK K
            refine EvY.cf ?_
            refine EvY.skip ?_
            show EvY _ _ _ _ _ _ _
            refine EvY.sr fun K hK => S.o (q.lv am_ag22) (S.o (q.lens am_el22) (S.o q.gtr (S.bd q.mv (fun c36 => ?_) (fun c36 => ?_))))
            · first
            | (first | omega | contradiction)
            | refine S.o (q.lv am_ag22) (S.o (q.ix am_el22 am_cl57 (hl := (by first | exact ati (hA (by omega)) (by omega) | exact ati (hB (by omega)) (by omega) | exact atig (by omega)))) (S.o (q.fs 0 am_fi57_0 am_cl3) (S.o (q.ls am_ag3) (S.o q.mv (S.o q.eql (S.o q.pt (S.end (hK _ ?_))))))))
              clear hK K
              refine EvY.cd (fun c37 => ?_) (fun c37 => ?_)
              · first
              | (first | omega | contradiction)
              | refine EvY.region_S fun K hK => S.o (q.lv am_ag22) (S.o (q.sh am_el22 am_cl57) (S.sv [_] true [_] am_in22 am_cl22 (h := S.end (hK _ ?_))))
                clear hK K
                refine hR0 _ _ _ ?_
                refine roundYU [0, 1] [0, 1, 2] ⟨(pre ++ [x], dropX x a', dropX x b'), brk_step hinv (by omega) hx⟩ ?_ (keep_c (he := (by first | exact row_t (hA (by omega)) (by omega) | exact row_f (hA (by omega)) (by omega) | exact row_n (by omega) | rfl)) (h := (keep_c (he := (by first | exact row_t (hB (by omega)) (by omega) | exact row_f (hB (by omega)) (by omega) | exact row_n (by omega) | rfl)) (h := keep_n)))) trivial (.c (.c (.c .n))) rfl
                skip
                all_goals exact dx_lt (by omega) hx
              · first
              | (first | omega | contradiction)
              | refine EvY.skip ?_
                refine hR0 _ _ _ ?_
                refine roundYU [0, 1] [0, 1, 2] ⟨(pre ++ [x], dropX x a', dropX x b'), brk_step hinv (by omega) hx⟩ ?_ (keep_c (he := (by first | exact row_t (hA (by omega)) (by omega) | exact row_f (hA (by omega)) (by omega) | exact row_n (by omega) | rfl)) (h := (keep_c (he := (by first | exact row_t (hB (by omega)) (by omega) | exact row_f (hB (by omega)) (by omega) | exact row_n (by omega) | rfl)) (h := keep_n)))) trivial (.c (.c (.c .n))) rfl
                skip
                all_goals exact dx_lt (by omega) hx
            · first
            | (first | omega | contradiction)
            | refine S.sk (S.sk (S.sk (S.sk (S.sk (S.sk (S.o q.pf (S.end (hK _ ?_))))))))
              clear hK K
              refine EvY.cf ?_
              refine EvY.skip ?_
              refine hR0 _ _ _ ?_
              refine roundYU [0, 1] [0, 1, 2] ⟨(pre ++ [x], dropX x a', dropX x b'), brk_step hinv (by omega) hx⟩ ?_ (keep_c (he := (by first | exact row_t (hA (by omega)) (by omega) | exact row_f (hA (by omega)) (by omega) | exact row_n (by omega) | rfl)) (h := (keep_c (he := (by first | exact row_t (hB (by omega)) (by omega) | exact row_f (hB (by omega)) (by omega) | exact row_n (by omega) | rfl)) (h := keep_n)))) trivial (.c (.c (.c .n))) rfl
              skip
              all_goals exact dx_lt (by omega) hx
        · refine SeqL.k fun K hK => ?_
          simp only [List.drop_succ_cons, List.drop_zero, St.put]
          refine S.o q.notf (S.end (hK _ ?_))
          clear hK K
          refine EvY.ct ?_
          refine EvY.ret ?_
          refine hR0 _ _ _ ?_
          exact ⟨.inr rfl, fun h => (by cases h), fun _ => trivial⟩
      · first
      | (first | omega | contradiction)
      | refine EvY.sr fun K hK => S.o (q.lv am_ag22) (S.o (q.lens am_el22) (S.o q.eql (S.o q.as (S.end (hK _ ?_)))))
        clear hK K
        refine EvY.cd (fun c38 => ?_) (fun c38 => ?_)
        · first
        | (first | omega | contradiction)
        | refine EvY.region_S fun K hK => S.o (q.lv am_ag22) (S.o (q.ix am_el22 am_cl57 (hl := (by first | exact ati (hA (by omega)) (by omega) | exact ati (hB (by omega)) (by omega) | exact atig (by omega)))) (S.o (q.fs 0 am_fi57_0 am_cl3) (S.o (q.ls am_ag3) (S.o q.as (S.end (hK _ ?_))))))
          clear hK K
          show EvY _ _ _ _ _ _ _
          refine EvY.seq ?_
          have hx : ∃ x, x = nextX a' b' := ⟨_, rfl⟩
          obtain ⟨x, hx⟩ := hx
          first
          | rw [nx_m (hA (by omega)) (hB (by omega))]
          | rw [nx_b (a := a') (by omega) (hB (by omega))]
          | rw [nx_a (b := b') (by omega) (hA (by omega))]
          rw [← hx]
          refine EvY.yieldT hRnd 2 x (by omega) rfl fun K hK => ?_
          simp only [List.take_succ_cons, List.take_zero]
          refine S.o q.mv (S.o q.mv (S.end (hK _ ?_)))
          clear hK K
          refine ⟨rfl, ⟨[_], rfl, rfl⟩, Nat.le_of_ble_eq_true rfl, ?_, ?_⟩
          · refine SeqL.k fun K hK => ?_
            simp only [List.drop_succ_cons, List.drop_zero, St.put]
            refine S.o q.nott (S.end (hK _ ?_))
            clear hK K
            refine EvY.cf ?_
            refine EvY.skip ?_
            show EvY _ _ _ _ _ _ _
            refine EvY.seq ?_
            refine EvY.sr fun K hK => S.o (q.lv am_ag22) (S.o (q.lens am_el22) (S.o q.gtr (S.bd q.mv (fun c39 => ?_) (fun c39 => ?_))))
            · first
            | (first | omega | contradiction)
            | refine S.o (q.lv am_ag22) (S.o (q.ix am_el22 am_cl57 (hl := (by first | exact ati (hA (by omega)) (by omega) | exact ati (hB (by omega)) (by omega) | exact atig (by omega)))) (S.o (q.fs 0 am_fi57_0 am_cl3) (S.o (q.ls am_ag3) (S.o q.mv (S.o q.eql (S.o q.pt (S.end (hK _ ?_))))))))
              clear hK K
              refine EvY.cd (fun c40 => ?_) (fun c40 => ?_)
              · first
              | (first | omega | contradiction)
              | refine EvY.region_S fun K hK => S.o (q.lv am_ag22) (S.o (q.sh am_el22 am_cl57) (S.sv [_] true [_] am_in22 am_cl22 (h := S.end (hK _ ?_))))
                clear hK K
                show EvY _ _ _ _ _ _ _
                refine EvY.sr fun K hK => S.o (q.lv am_ag22) (S.o (q.lens am_el22) (S.o q.gtr (S.bd q.mv (fun c41 => ?_) (fun c41 => ?_))))
                · first
                | (first | omega | contradiction)
                | refine S.o (q.lv am_ag22) (S.o (q.ix am_el22 am_cl57 (hl := (by first | exact ati (hA (by omega)) (by omega) | exact ati (hB (by omega)) (by omega) | exact atig (by omega)))) (S.o (q.fs 0 am_fi57_0 am_cl3) (S.o (q.ls am_ag3) (S.o q.mv (S.o q.eql (S.o q.pt (S.end (hK _ ?_))))))))
                  clear hK K
                  refine EvY.cd (fun c42 => ?_) (fun c42 => ?_)
                  · first
                  | (first | omega | contradiction)
                  | refine EvY.region_S fun K hK => S.o (q.lv am_ag22) (S.o (q.sh am_el22 am_cl57) (S.sv [_] true [_] am_in22 am_cl22 (h := S.end (hK _ ?_))))
                    clear hK K
                    refine hR0 _ _ _ ?_
                    refine roundYU [0, 1] [0, 1, 2] ⟨(pre ++ [x], dropX x a', dropX x b'), brk_step hinv (by omega) hx⟩ ?_ (keep_c (he := (by first | exact row_t (hA (by omega)) (by omega) | exact row_f (hA (by omega)) (by omega) | exact row_n (by omega) | rfl)) (h := (keep_c (he := (by first | exact row_t (hB (by omega)) (by omega) | exact row_f (hB (by omega)) (by omega) | exact row_n (by omega) | rfl)) (h := keep_n)))) trivial (.c (.c (.c .n))) rfl
                    skip
                    all_goals exact dx_lt (by omega) hx
                  · first
                  | (first | omega | contradiction)
                  | refine EvY.skip ?_
                    refine hR0 _ _ _ ?_
                    refine roundYU [0, 1] [0, 1, 2] ⟨(pre ++ [x], dropX x a', dropX x b'), brk_step hinv (by omega) hx⟩ ?_ (keep_c (he := (by first | exact row_t (hA (by omega)) (by omega) | exact row_f (hA (by omega)) (by omega) | exact row_n (by omega) | rfl)) (h := (keep_c (he := (by first | exact row_t (hB (by omega)) (by omega) | exact row_f (hB (by omega)) (by omega) | exact row_n (by omega) | rfl)) (h := keep_n)))) trivial (.c (.c (.c .n))) rfl
                    skip
                    all_goals exact dx_lt (by omega) hx
                · first
                | (first | omega | contradiction)
                | refine S.sk (S.sk (S.sk (S.sk (S.sk (S.sk (S.o q.pf (S.end (hK _ ?_))))))))
                  clear hK K
                  refine EvY.cf ?_
                  refine EvY.skip ?_
                  refine hR0 _ _ _ ?_
                  refine roundYU [0, 1] [0, 1, 2] ⟨(pre ++ [x], dropX x a', dropX x b'), brk_step hinv (by omega) hx⟩ ?_ (keep_c (he := (by first | exact row_t (hA (by omega)) (by omega) | exact row_f (hA (by omega)) (by omega) | exact row_n (by omega) | rfl)) (h := (keep_c (he := (by first | exact row_t (hB (by omega)) (by omega) | exact row_f (hB (by omega)) (by omega) | exact row_n (by omega) | rfl)) (h := keep_n)))) trivial (.c (.c (.c .n))) rfl
                  skip
                  all_goals exact dx_lt (by omega) hx
              · first
              | (first | omega | contradiction)
              | refine EvY.skip ?_
                show EvY _ _ _ _ _ _ _
                refine EvY.sr fun K hK => S.o (q.lv am_ag22) (S.o (q.lens am_el22) (S.o q.gtr (S.bd q.mv (fun c43 => ?_) (fun c43 => ?_))))
                · first
                | (first | omega | contradiction)
                | refine S.o (q.lv am_ag22) (S.o (q.ix am_el22 am_cl57 (hl := (by first | exact ati (hA (by omega)) (by omega) | exact ati (hB (by omega)) (by omega) | exact atig (by omega)))) (S.o (q.fs 0 am_fi57_0 am_cl3) (S.o (q.ls am_ag3) (S.o q.mv (S.o q.eql (S.o q.pt (S.end (hK _ ?_))))))))
                  clear hK K
                  refine EvY.cd (fun c44 => ?_) (fun c44 => ?_)
                  · first
                  | (first | omega | contradiction)
                  | refine EvY.region_S fun K hK => S.o (q.lv am_ag22) (S.o (q.sh am_el22 am_cl57) (S.sv [_] true [_] am_in22 am_cl22 (h := S.end (hK _ ?_))))
                    clear hK K
                    refine hR0 _ _ _ ?_
                    refine roundYU [0, 1] [0, 1, 2] ⟨(pre ++ [x], dropX x a', dropX x b'), brk_step hinv (by omega) hx⟩ ?_ (keep_c (he := (by first | exact row_t (hA (by omega)) (by omega) | exact row_f (hA (by omega)) (by omega) | exact row_n (by omega) | rfl)) (h := (keep_c (he := (by first | exact row_t (hB (by omega)) (by omega) | exact row_f (hB (by omega)) (by omega) | exact row_n (by omega) | rfl)) (h := keep_n)))) trivial (.c (.c (.c .n))) rfl
                    skip
                    all_goals exact dx_lt (by omega) hx
                  · first
                  | (first | omega | contradiction)
                  | refine EvY.skip ?_
                    refine hR0 _ _ _ ?_
                    refine roundYU [0, 1] [0, 1, 2] ⟨(pre ++ [x], dropX x a', dropX x b'), brk_step hinv (by omega) hx⟩ ?_ (keep_c (he := (by first | exact row_t (hA (by omega)) (by omega) | exact row_f (hA (by omega)) (by omega) | exact row_n (by omega) | rfl)) (h := (keep_c (he := (by first | exact row_t (hB (by omega)) (by omega) | exact row_f (hB (by omega)) (by omega) | exact row_n (by omega) | rfl)) (h := keep_n)))) trivial (.c (.c (.c .n))) rfl
                    skip
                    all_goals exact dx_lt (by omega) hx
                · first
                | (first | omega | contradiction)
                | refine S.sk (S.sk (S.sk (S.sk (S.sk (S.sk (S.o q.pf (S.end (hK _ ?_))))))))
                  clear hK K
                  refine EvY.cf ?_
                  refine EvY.skip ?_
                  refine hR0 _ _ _ ?_
                  refine roundYU [0, 1] [0, 1, 2] ⟨(pre ++ [x], dropX x a', dropX x b'), brk_step hinv (by omega) hx⟩ ?_ (keep_c (he := (by first | exact row_t (hA (by omega)) (by omega) | exact row_f (hA (by omega)) (by omega) | exact row_n (by omega) | rfl)) (h := (keep_c (he := (by first | exact row_t (hB (by omega)) (by omega) | exact row_f (hB (by omega)) (by omega) | exact row_n (by omega) | rfl)) (h := keep_n)))) trivial (.c (.c (.c .n))) rfl
                  skip
                  all_goals exact dx_lt (by omega) hx
            · first
            | (first | omega | contradiction)
            | refine S.sk (S.sk (S.sk (S.sk (S.sk (S.sk (S.o q.pf (S.end (hK _ ?_))))))))
              clear hK K
              refine EvY.cf ?_
              refine EvY.skip ?_
              show EvY _ _ _ _ _ _ _
              refine EvY.sr fun K hK => S.o (q.lv am_ag22) (S.o (q.lens am_el22) (S.o q.gtr (S.bd q.mv (fun c45 => ?_) (fun c45 => ?_))))
              · first
              | (first | omega | contradiction)
              | refine S.o (q.lv am_ag22) (S.o (q.ix am_el22 am_cl57 (hl := (by first | exact ati (hA (by omega)) (by omega) | exact ati (hB (by omega)) (by omega) | exact atig (by omega)))) (S.o (q.fs 0 am_fi57_0 am_cl3) (S.o (q.ls am_ag3) (S.o q.mv (S.o q.eql (S.o q.pt (S.end (hK _ ?_))))))))
                clear hK K
                refine EvY.cd (fun c46 => ?_) (fun c46 => ?_)
                · first
                | (first | omega | contradiction)
                | refine EvY.region_S fun K hK => S.o (q.lv am_ag22) (S.o (q.sh am_el22 am_cl57) (S.sv [_] true [_] am_in22 am_cl22 (h := S.end (hK _ ?_))))
                  clear hK K
                  refine hR0 _ _ _ ?_
                  refine roundYU [0, 1] [0, 1, 2] ⟨(pre ++ [x], dropX x a', dropX x b'), brk_step hinv (by omega) hx⟩ ?_ (keep_c (he := (by first | exact row_t (hA (by omega)) (by omega) | exact row_f (hA (by omega)) (by omega) | exact row_n (by omega) | rfl)) (h := (keep_c (he := (by first | exact row_t (hB (by omega)) (by omega) | exact row_f (hB (by omega)) (by omega) | exact row_n (by omega) | rfl)) (h := keep_n)))) trivial (.c (.c (.c .n))) rfl
                  skip
                  all_goals exact dx_lt (by omega) hx
                · first
                | (first | omega | contradiction)
                | refine EvY.skip ?_
                  refine hR0 _ _ _ ?_
                  refine roundYU [0, 1] [0, 1, 2] ⟨(pre ++ [x], dropX x a', dropX x b'), brk_step hinv (by omega) hx⟩ ?_ (keep_c (he := (by first | exact row_t (hA (by omega)) (by omega) | exact row_f (hA (by omega)) (by omega) | exact row_n (by omega) | rfl)) (h := (keep_c (he := (by first | exact row_t (hB (by omega)) (by omega) | exact row_f (hB (by omega)) (by omega) | exact row_n (by omega) | rfl)) (h := keep_n)))) trivial (.c (.c (.c .n))) rfl
                  skip
                  all_goals exact dx_lt (by omega) hx
              · first
              | (first | omega | contradiction)
              | refine S.sk (S.sk (S.sk (S.sk (S.sk (S.sk (S.o q.pf (S.end (hK _ ?_))))))))
                clear hK K
                refine EvY.cf ?_
                refine EvY.skip ?_
                refine hR0 _ _ _ ?_
                refine roundYU [0, 1] [0, 1, 2] ⟨(pre ++ [x], dropX x a', dropX x b'), brk_step hinv (by omega) hx⟩ ?_ (keep_c (he := (by first | exact row_t (hA (by omega)) (by omega) | exact row_f (hA (by omega)) (by omega) | exact row_n (by omega) | rfl)) (h := (keep_c (he := (by first | exact row_t (hB (by omega)) (by omega) | exact row_f (hB (by omega)) (by omega) | exact row_n (by omega) | rfl)) (h := keep_n)))) trivial (.c (.c (.c .n))) rfl
                skip
                all_goals exact dx_lt (by omega) hx
          · refine SeqL.k fun K hK => ?_
            simp only [List.drop_succ_cons, List.drop_zero, St.put]
            refine S.o q.notf (S.end (hK _ ?_))
            clear hK K
            refine EvY.ct ?_
            refine EvY.ret ?_
            refine hR0 _ _ _ ?_
            exact ⟨.inr rfl, fun h => (by cases h), fun _ => trivial⟩
        · first
        | (first | omega | contradiction)
        | refine EvY.region_M (tbs [(0, 0), (1, 1), (2, 3), (3, 7), (0, 0), (5, 16), (6, 48), (7, 112), (8, 255), (9, 511)]) 9 fun K hK => M.o (q.lv am_ag22) (M.o (q.ix am_el22 am_cl57 (hl := (by first | exact ati (hA (by omega)) (by omega) | exact ati (hB (by omega)) (by omega) | exact atig (by omega)))) (M.o (q.fs 0 am_fi57_0 am_cl3) (M.o (q.ls am_ag3) (M.o (q.lv am_ag22) (M.o (q.ix am_el22 am_cl57 (hl := (by first | exact ati (hA (by omega)) (by omega) | exact ati (hB (by omega)) (by omega) | exact atig (by omega)))) (M.o (q.fs 0 am_fi57_0 am_cl3) (M.o (q.ls am_ag3) (M.o q.min (M.end [_, _] (h := S.o q.as (S.end (hK _ ?_))))))))))))
          clear hK K
          show EvY _ _ _ _ _ _ _
          refine EvY.seq ?_
          have hx : ∃ x, x = nextX a' b' := ⟨_, rfl⟩
          obtain ⟨x, hx⟩ := hx
          first
          | rw [nx_m (hA (by omega)) (hB (by omega))]
          | rw [nx_b (a := a') (by omega) (hB (by omega))]
          | rw [nx_a (b := b') (by omega) (hA (by omega))]
          rw [← hx]
          refine EvY.yieldT hRnd 2 x (by omega) rfl fun K hK => ?_
          simp only [List.take_succ_cons, List.take_zero]
          refine S.o q.mv (S.o q.mv (S.end (hK _ ?_)))
          clear hK K
          refine ⟨rfl, ⟨[_], rfl, rfl⟩, Nat.le_of_ble_eq_true rfl, ?_, ?_⟩
          · refine SeqL.k fun K hK => ?_
            simp only [List.drop_succ_cons, List.drop_zero, St.put]
            refine S.o q.nott (S.end (hK _ ?_))
            clear hK K
            refine EvY.cf ?_
            refine EvY.skip ?_
            show EvY _ _ _ _ _ _ _
            refine EvY.seq ?_
            refine EvY.sr fun K hK => S.o (q.lv am_ag22) (S.o (q.lens am_el22) (S.o q.gtr (S.bd q.mv (fun c47 => ?_) (fun c47 => ?_))))
            · first
            | (first | omega | contradiction)
            | refine S.o (q.lv am_ag22) (S.o (q.ix am_el22 am_cl57 (hl := (by first | exact ati (hA (by omega)) (by omega) | exact ati (hB (by omega)) (by omega) | exact atig (by omega)))) (S.o (q.fs 0 am_fi57_0 am_cl3) (S.o (q.ls am_ag3) (S.o q.mv (S.o q.eql (S.o q.pt (S.end (hK _ ?_))))))))
              clear hK K
              refine EvY.cd (fun c48 => ?_) (fun c48 => ?_)
              · first
              | (first | omega | contradiction)
              | refine EvY.region_S fun K hK => S.o (q.lv am_ag22) (S.o (q.sh am_el22 am_cl57) (S.sv [_] true [_] am_in22 am_cl22 (h := S.end (hK _ ?_))))
                clear hK K
                show EvY _ _ _ _ _ _ _
                refine EvY.sr fun K hK => S.o (q.lv am_ag22) (S.o (q.lens am_el22) (S.o q.gtr (S.bd q.mv (fun c49 => ?_) (fun c49 => ?_))))
                · first
                | (first | omega | contradiction)
                | refine S.o (q.lv am_ag22) (S.o (q.ix am_el22 am_cl57 (hl := (by first | exact ati (hA (by omega)) (by omega) | exact ati (hB (by omega)) (by omega) | exact atig (by omega)))) (S.o (q.fs 0 am_fi57_0 am_cl3) (S.o (q.ls am_ag3) (S.o q.mv (S.o q.eql (S.o q.pt (S.end (hK _ ?_))))))))
                  clear hK K
                  refine EvY.cd (fun c50 => ?_) (fun c50 => ?_)
                  · first
                  | (first | omega | contradiction)
                  | refine EvY.region_S fun K hK => S.o (q.lv am_ag22) (S.o (q.sh am_el22 am_cl57) (S.sv [_] true [_] am_in22 am_cl22 (h := S.end (hK _ ?_))))
                    clear hK K
                    refine hR0 _ _ _ ?_
                    refine roundYU [0, 1] [0, 1, 2] ⟨(pre ++ [x], dropX x a', dropX x b'), brk_step hinv (by omega) hx⟩ ?_ (keep_c (he := (by first | exact row_t (hA (by omega)) (by omega) | exact row_f (hA (by omega)) (by omega) | exact row_n (by omega) | rfl)) (h := (keep_c (he := (by first | exact row_t (hB (by omega)) (by omega) | exact row_f (hB (by omega)) (by omega) | exact row_n (by omega) | rfl)) (h := keep_n)))) trivial (.c (.c (.c .n))) rfl
                    skip
                    all_goals exact dx_lt (by omega) hx
                  · first
                  | (first | omega | contradiction)
                  | refine EvY.skip ?_
                    refine hR0 _ _ _ ?_
                    refine roundYU [0, 1] [0, 1, 2] ⟨(pre ++ [x], dropX x a', dropX x b'), brk_step hinv (by omega) hx⟩ ?_ (keep_c (he := (by first | exact row_t (hA (by omega)) (by omega) | exact row_f (hA (by omega)) (by omega) | exact row_n (by omega) | rfl)) (h := (keep_c (he := (by first | exact row_t (hB (by omega)) (by omega) | exact row_f (hB (by omega)) (by omega) | exact row_n (by omega) | rfl)) (h := keep_n)))) trivial (.c (.c (.c .n))) rfl
                    skip
                    all_goals exact dx_lt (by omega) hx
                · first
                | (first | omega | contradiction)
                | refine S.sk (S.sk (S.sk (S.sk (S.sk (S.sk (S.o q.pf (S.end (hK _ ?_))))))))
                  clear hK K
                  refine EvY.cf ?_
                  refine EvY.skip ?_
                  refine hR0 _ _ _ ?_
                  refine roundYU [0, 1] [0, 1, 2] ⟨(pre ++ [x], dropX x a', dropX x b'), brk_step hinv (by omega) hx⟩ ?_ (keep_c (he := (by first | exact row_t (hA (by omega)) (by omega) | exact row_f (hA (by omega)) (by omega) | exact row_n (by omega) | rfl)) (h := (keep_c (he := (by first | exact row_t (hB (by omega)) (by omega) | exact row_f (hB (by omega)) (by omega) | exact row_n (by omega) | rfl)) (h := keep_n)))) trivial (.c (.c (.c .n))) rfl
                  skip
                  all_goals exact dx_lt (by omega) hx
              · first
              | (first | omega | contradiction)
              | refine EvY.skip ?_
                show EvY _ _ _ _ _ _ _
                refine EvY.sr fun K hK => S.o (q.lv am_ag22) (S.o (q.lens am_el22) (S.o q.gtr (S.bd q.mv (fun c51 => ?_) (fun c51 => ?_))))
                · first
                | (first | omega | contradiction)
                | refine S.o (q.lv am_ag22) (S.o (q.ix am_el22 am_cl57 (hl := (by first | exact ati (hA (by omega)) (by omega) | exact ati (hB (by omega)) (by omega) | exact atig (by omega)))) (S.o (q.fs 0 am_fi57_0 am_cl3) (S.o (q.ls am_ag3) (S.o q.mv (S.o q.eql (S.o q.pt (S.end (hK _ ?_))))))))
                  clear hK K
                  refine EvY.cd (fun c52 => ?_) (fun c52 => ?_)
                  · first
                  | (first | omega | contradiction)
                  | refine EvY.region_S fun K hK => S.o (q.lv am_ag22) (S.o (q.sh am_el22 am_cl57) (S.sv [_] true [_] am_in22 am_cl22 (h := S.end (hK _ ?_))))
                    clear hK K
                    refine hR0 _ _ _ ?_
                    refine roundYU [0, 1] [0, 1, 2] ⟨(pre ++ [x], dropX x a', dropX x b'), brk_step hinv (by omega) hx⟩ ?_ (keep_c (he := (by first | exact row_t (hA (by omega)) (by omega) | exact row_f (hA (by omega)) (by omega) | exact row_n (by omega) | rfl)) (h := (keep_c (he := (by first | exact row_t (hB (by omega)) (by omega) | exact row_f (hB (by omega)) (by omega) | exact row_n (by omega) | rfl)) (h := keep_n)))) trivial (.c (.c (.c .n))) rfl
                    skip
                    all_goals exact dx_lt (by omega) hx
                  · first
                  | (first | omega | contradiction)
                  | refine EvY.skip ?_
                    refine hR0 _ _ _ ?_
                    refine roundYU [0, 1] [0, 1, 2] ⟨(pre ++ [x], dropX x a', dropX x b'), brk_step hinv (by omega) hx⟩ ?_ (keep_c (he := (by first | exact row_t (hA (by omega)) (by omega) | exact row_f (hA (by omega)) (by omega) | exact row_n (by omega) | rfl)) (h := (keep_c (he := (by first | exact row_t (hB (by omega)) (by omega) | exact row_f (hB (by omega)) (by omega) | exact row_n (by omega) | rfl)) (h := keep_n)))) trivial (.c (.c (.c .n))) rfl
                    skip
                    all_goals exact dx_lt (by omega) hx
                · first
                | (first | omega | contradiction)
                | refine S.sk (S.sk (S.sk (S.sk (S.sk (S.sk (S.o q.pf (S.end (hK _ ?_))))))))
                  clear hK K
                  refine EvY.cf ?_
                  refine EvY.skip ?_
                  refine hR0 _ _ _ ?_
                  refine roundYU [0, 1] [0, 1, 2] ⟨(pre ++ [x], dropX x a', dropX x b'), brk_step hinv (by omega) hx⟩ ?_ (keep_c (he := (by first | exact row_t (hA (by omega)) (by omega) | exact row_f (hA (by omega)) (by omega) | exact row_n (by omega) | rfl)) (h := (keep_c (he := (by first | exact row_t (hB (by omega)) (by omega) | exact row_f (hB (by omega)) (by omega) | exact row_n (by omega) | rfl)) (h := keep_n)))) trivial (.c (.c (.c .n))) rfl
                  skip
                  all_goals exact dx_lt (by omega) hx
            · first
            | (first | omega | contradiction)
            | refine S.sk (S.sk (S.sk (S.sk (S.sk (S.sk (S.o q.pf (S.end (hK _ ?_))))))))
              clear hK K
              refine EvY.cf ?_
              refine EvY.skip ?_
              show EvY _ _ _ _ _ _ _
              refine EvY.sr fun K hK => S.o (q.lv am_ag22) (S.o (q.lens am_el22) (S.o q.gtr (S.bd q.mv (fun c53 => ?_) (fun c53 => ?_))))
              · first
              | (first | omega | contradiction)
              | refine S.o (q.lv am_ag22) (S.o (q.ix am_el22 am_cl57 (hl := (by first | exact ati (hA (by omega)) (by omega) | exact ati (hB (by omega)) (by omega) | exact atig (by omega)))) (S.o (q.fs 0 am_fi57_0 am_cl3) (S.o (q.ls am_ag3) (S.o q.mv (S.o q.eql (S.o q.pt (S.end (hK _ ?_))))))))
                clear hK K
                refine EvY.cd (fun c54 => ?_) (fun c54 => ?_)
                · first
                | (first | omega | contradiction)
                | refine EvY.region_S fun K hK => S.o (q.lv am_ag22) (S.o (q.sh am_el22 am_cl57) (S.sv [_] true [_] am_in22 am_cl22 (h := S.end (hK _ ?_))))
                  clear hK K
                  refine hR0 _ _ _ ?_
                  refine roundYU [0, 1] [0, 1, 2] ⟨(pre ++ [x], dropX x a', dropX x b'), brk_step hinv (by omega) hx⟩ ?_ (keep_c (he := (by first | exact row_t (hA (by omega)) (by omega) | exact row_f (hA (by omega)) (by omega) | exact row_n (by omega) | rfl)) (h := (keep_c (he := (by first | exact row_t (hB (by omega)) (by omega) | exact row_f (hB (by omega)) (by omega) | exact row_n (by omega) | rfl)) (h := keep_n)))) trivial (.c (.c (.c .n))) rfl
                  skip
                  all_goals exact dx_lt (by omega) hx
                · first
                | (first | omega | contradiction)
                | refine EvY.skip ?_
                  refine hR0 _ _ _ ?_
                  refine roundYU [0, 1] [0, 1, 2] ⟨(pre ++ [x], dropX x a', dropX x b'), brk_step hinv (by omega) hx⟩ ?_ (keep_c (he := (by first | exact row_t (hA (by omega)) (by omega) | exact row_f (hA (by omega)) (by omega) | exact row_n (by omega) | rfl)) (h := (keep_c (he := (by first | exact row_t (hB (by omega)) (by omega) | exact row_f (hB (by omega)) (by omega) | exact row_n (by omega) | rfl)) (h := keep_n)))) trivial (.c (.c (.c .n))) rfl
                  skip
                  all_goals exact dx_lt (by omega) hx
              · first
              | (first | omega | contradiction)
              | refine S.sk (S.sk (S.sk (S.sk (S.sk (S.sk (S.o q.pf (S.end (hK _ ?_))))))))
                clear hK K
                refine EvY.cf ?_
                refine EvY.skip ?_
                refine hR0 _ _ _ ?_
                refine roundYU [0, 1] [0, 1, 2] ⟨(pre ++ [x], dropX x a', dropX x b'), brk_step hinv (by omega) hx⟩ ?_ (keep_c (he := (by first | exact row_t (hA (by omega)) (by omega) | exact row_f (hA (by omega)) (by omega) | exact row_n (by omega) | rfl)) (h := (keep_c (he := (by first | exact row_t (hB (by omega)) (by omega) | exact row_f (hB (by omega)) (by omega) | exact row_n (by omega) | rfl)) (h := keep_n)))) trivial (.c (.c (.c .n))) rfl
                skip
                all_goals exact dx_lt (by omega) hx
          · refine SeqL.k fun K hK => ?_
            simp only [List.drop_succ_cons, List.drop_zero, St.put]
            refine S.o q.notf (S.end (hK _ ?_))
            clear hK K
            refine EvY.ct ?_
            refine EvY.ret ?_
            refine hR0 _ _ _ ?_
            exact ⟨.inr rfl, fun h => (by cases h), fun _ => trivial⟩
    · first
    | (first | omega | contradiction)
    | refine EvY.exit ?_
      refine hR0 _ _ _ ?_
      have hfin := hinv.1 [] ⟨List.eq_nil_of_length_eq_zero (by omega), List.eq_nil_of_length_eq_zero (by omega)⟩
      rw [List.append_nil] at hfin
      exact ⟨.inl rfl, fun _ => hfin, fun h => by cases h⟩
end Go.Proofs.Ytigjoaejncfmdaa
namespace Go.Proofs.Ytigjoaejncfmdaa
open Go Go.AM
set_option linter.unusedSimpArgs false
set_option linter.unusedVariables false
set_option maxRecDepth 100000
set_option maxHeartbeats 1000000

theorem breaks_fun (a b : List (Int × Int)) : Fun Try.prog 68 [.sh 2 (a.map stepC), .sh 2 (b.map stepC)] (Ret (.fn (.func 75) [] [.adr 0 0 0, .adr 1 0 0]) [(0, ⟨false, 22, 1, [[.sh 2 (a.map stepC)]], true⟩), (1, ⟨false, 22, 1, [[.sh 2 (b.map stepC)]], true⟩)]) := by
  refine Fun.of (nt := 6) (rs := [.tmp 4]) Try.func68 rfl rfl rfl rfl rfl ?_
  refine Ev.sr fun K hK => S.nn (q.bx [_] true) (S.nn (q.bx [_] true) (S.o q.as (S.end (hK _ ?_))))
  clear hK K
  refine Ev.sr fun K hK => S.o q.mf (S.o q.as (S.end (hK _ ?_)))
  clear hK K
  refine Ev.ret ?_
  refine Ev.retg [0, 1] (res_t res_n) ?_
  refine ⟨?_, ?_⟩
  all_goals rfl

theorem tupJ {a b v : List (Int × Int)} {xs : List Int} {e : Int} (h : joinE a b xs = e ∧ joinV a b xs = v) : AV.tup [.sh 2 (v.map stepC), .lit (.int .i64 e)] = AV.tup [.sh 2 ((joinV a b xs).map stepC), .lit (.int .i64 (joinE a b xs))] := by rw [h.1, h.2]
theorem over_iff {l : List (Int × Int)} : (∃ s ∈ l, overS s = true) ↔ ∃ s ∈ l, 1099511627776 < s.2 := by simp [overS]
theorem sjoined_fun (a b : List (Int × Int)) (xs : List Int) (hxs : Brk a b xs) : Fun Try.prog 52 [.sh 2 (a.map stepC), .sh 2 (b.map stepC), .fn (.func 53) [] []] (Ret (.tup [.sh 2 ((joinV a b xs).map stepC), .lit (.int .i64 (joinE a b xs))]) []) := by
  refine Fun.ofT (nt := 45) (rs := [.tmp 6, .tmp 7]) Try.func52 rfl rfl rfl rfl rfl ?_
  refine EvT.sr fun K hK => S.nn (q.bx [_] true) (S.nn (q.bx [_] true) (S.nn (q.bx [_] true) (S.o q.as (S.o q.as (S.end (hK _ ?_))))))
  clear hK K
  refine EvT.split ?_
  refine Ev.sr fun K hK => S.o (q.lv am_ag22) (S.c0 (hF := valid_fun _) (h := S.o q.not (S.bn q.mv (fun c1 => ?_) (fun c1 => ?_))))
  · first
  | (first | omega | contradiction)
  | refine S.sk (S.sk (S.sk (S.o q.pt (S.end (hK _ ?_)))))
    clear hK K
    refine Ev.ct ?_
    refine Ev.sr fun K hK => S.o q.as (S.o q.as (S.end (hK _ ?_)))
    clear hK K
    refine Ev.weaken (Wk.nsh stepC 6 2) ?_
    refine Ev.ret ?_
    refine Ev.ret2 ?_
    refine ⟨?_, rfl⟩
    first
     | exact tupJ (join1 fun h => absurd h.1 ‹_›)
     | exact tupJ (join1 fun h => absurd h.2 ‹_›)
     | exact tupJ (join5 ⟨‹OKSteps a›, ‹OKSteps b›⟩ (over_iff.1 ‹_›))
     | exact tupJ (join4 ⟨‹OKSteps a›, ‹OKSteps b›⟩ (fun h => absurd (over_iff.2 h) ‹_›) (by unfold sumL; omega))
     | exact tupJ (join0 ⟨‹OKSteps a›, ‹OKSteps b›⟩ (fun h => absurd (over_iff.2 h) ‹_›) (by unfold sumL; omega))
  · first
  | (first | omega | contradiction)
  | refine S.o (q.lv am_ag22) (S.c0 (hF := valid_fun _) (h := S.o q.not (S.o q.pf (S.end (hK _ ?_)))))
    clear hK K
    refine Ev.cn (fun c2 => ?_) (fun c2 => ?_)
    · first
    | (first | omega | contradiction)
    | refine Ev.sr fun K hK => S.o q.as (S.o q.as (S.end (hK _ ?_)))
      clear hK K
      refine Ev.weaken (Wk.nsh stepC 6 2) ?_
      refine Ev.ret ?_
      refine Ev.ret2 ?_
      refine ⟨?_, rfl⟩
      first
       | exact tupJ (join1 fun h => absurd h.1 ‹_›)
       | exact tupJ (join1 fun h => absurd h.2 ‹_›)
       | exact tupJ (join5 ⟨‹OKSteps a›, ‹OKSteps b›⟩ (over_iff.1 ‹_›))
       | exact tupJ (join4 ⟨‹OKSteps a›, ‹OKSteps b›⟩ (fun h => absurd (over_iff.2 h) ‹_›) (by unfold sumL; omega))
       | exact tupJ (join0 ⟨‹OKSteps a›, ‹OKSteps b›⟩ (fun h => absurd (over_iff.2 h) ‹_›) (by unfold sumL; omega))
    · first
    | (first | omega | contradiction)
    | refine Ev.skip ?_
      show EvT _ _ _ _
      refine EvT.weaken (Wk.frzv 3 [_, _]) ?_
      refine EvT.weaken (Wk.frzv 4 [_]) ?_
      refine EvT.weaken (Wk.frzv 5 []) ?_
      refine EvT.sr fun K hK => S.nn (q.al am_ze22) (S.end (hK _ ?_))
      clear hK K
      refine EvT.ofB ?_
      refine EvB.weaken (Wk.nilv (f := stepC) 3 0 57 2 []) ?_
      refine EvB.sr fun K hK => S.o (q.ls am_ag22) (S.o (q.ls am_ag22) (S.cg 7 [_, _, _, _] (hF := breaks_fun _ _) (hn' := belowL rfl rfl) (h := S.end (hK _ ?_))))
      clear hK K
      refine EvB.weaken (WkU [3, 4, 5, 6] [3, 4, 5] [(20, .fn (.func 75) [] [.adr 2 0 0, .adr 3 0 0]), (8, .adr 0 0 0)] [(0, ⟨false, 22, 1, [[.als 1 0 (mapS a b []).length]], false⟩), (1, ⟨true, 57, 2, (mapS a b []).map stepC, true⟩), (2, ⟨false, 22, 1, [[.sh 2 (a.map stepC)]], true⟩), (3, ⟨false, 22, 1, [[.sh 2 (b.map stepC)]], true⟩)] (.c (.c (.c .n))) (keep_d (he := rfl) (h := (keep_c (he := rfl) (h := (keep_c (he := rfl) (h := (keep_c (he := rfl) (h := keep_n)))))))) (slots_c (he := rfl) (h := (slots_c (he := rfl) (h := trivial))))) ?_
      dsimp only [List.cons_append, List.nil_append, List.length_cons, List.length_nil]
      refine EvB.range (α := Int) (enc := fun x => .int .i64 x) (N := a.length + b.length) (K := 1) [2, 3] (fun pre => [(0, ⟨false, 22, 1, [[.als 1 0 (mapS a b pre).length]], false⟩), (1, ⟨true, 57, 2, (mapS a b pre).map stepC, true⟩)]) (fun _ _ => False) (breaks1_seq a b (by have := (‹OKSteps a›).1; omega) (by have := (‹OKSteps b›).1; omega)) rfl rfl rfl (by decide) (keep_c (he := rfl) (h := (keep_c (he := rfl) (h := keep_n)))) (h0_app (m := [(2, ⟨false, 22, 1, [[.sh 2 (a.map stepC)]], true⟩), (3, ⟨false, 22, 1, [[.sh 2 (b.map stepC)]], true⟩)]) rfl) (fun pre r hr => by rcases r with _ | _ | _ | r <;> first | exact ⟨_, rfl⟩ | omega) (stays.c (stays.c (stays.c (stays.c (stays.nil 1) rfl) rfl) rfl) rfl) (by decide) (by decide) ?_ ?_ ?_
      · intro l0 m0 pre x hlen
        try dsimp only
        have hml := mapS_len a b pre
        have ha1 := (‹OKSteps a›).1
        have hb1 := (‹OKSteps b›).1
        refine EvI.block ?_
        refine EvI.rtp (m := 14) (L0 := #[false, false, false, false, false, false, false, false, false, false, false, false, false, false]) rfl (by kernel_rfl) (by exact rfl) fun K hK => ?_
        refine HP.mv (i := 1) rfl (h := ?_)
        refine HP.ls1 (i := 2) am_ag67 rfl (h := ?_)
        refine HP.ls1 (i := 3) am_ag22 rfl (h := ?_)
        refine HP.mv (i := 4) rfl (h := ?_)
        refine HP.ls1 (i := 6) am_ag22 rfl (h := ?_)
        refine HP.mv (i := 7) rfl (h := ?_)
        refine .done ?_
        refine HT.two (i := 0) (j := 5) trivial rfl rfl (S.o (q.lv am_ag22) (S.end ?_)) (S.c0 (hF := at_fun a _ (‹OKSteps a›).2 (‹OKSteps a›).1) (h := S.end ?_))
        · skip
          refine HT.one (i := 5) trivial rfl (S.c0 (hF := at_fun a _ (‹OKSteps a›).2 (‹OKSteps a›).1) (h := S.end ?_))
          refine HT.one (i := 8) trivial rfl (S.c0 (hF := at_fun b _ (‹OKSteps b›).2 (‹OKSteps b›).1) (h := S.end ?_))
          refine HT.one (i := 9) trivial rfl (S.c0 (hF := add1_fun _ _ (atF_ok ‹OKSteps a› _) (atF_ok ‹OKSteps b› _)) (h := S.end ?_))
          refine HT.one (i := 10) trivial rfl (S.o (q.bd [_, _] am_ze57 am_pl57) (S.end ?_))
          refine HT.one (i := 11) trivial rfl (S.nn (q.bs [[_, _]] true am_el22 am_ze57 am_cl57) (S.end ?_))
          refine HT.one (i := 12) trivial rfl (S.ap' [_, _] am_el22 am_ze57 am_cl57 am_by57 (hh := head_own') (hr := (rows_lit [(⟨_, _⟩ : Int × Int)])) (h := S.end ?_))
          refine HT.one (i := 13) trivial rfl (S.sv [_] false [_, _] am_in22 am_cl22 (h := S.end ?_))
          refine HT.nil trivial (by kernel_rfl) (hK _ ?_)
          clear hK K
          refine roundQ_n (QX := fun _ _ => False) [0, 5] (kR_d (he := (by rw [mapS_snoc, List.length_append] <;> rfl)) (h := (kR_c (he := (by rw [mapS_snoc, List.map_append] <;> rfl)) (h := kR_n)))) (by decide) (by decide) (leadsB rfl)
        · skip
          refine HT.two (i := 0) (j := 8) trivial rfl rfl (S.o (q.lv am_ag22) (S.end ?_)) (S.c0 (hF := at_fun b _ (‹OKSteps b›).2 (‹OKSteps b›).1) (h := S.end ?_))
          · skip
            refine HT.one (i := 8) trivial rfl (S.c0 (hF := at_fun b _ (‹OKSteps b›).2 (‹OKSteps b›).1) (h := S.end ?_))
            refine HT.one (i := 9) trivial rfl (S.c0 (hF := add1_fun _ _ (atF_ok ‹OKSteps a› _) (atF_ok ‹OKSteps b› _)) (h := S.end ?_))
            refine HT.one (i := 10) trivial rfl (S.o (q.bd [_, _] am_ze57 am_pl57) (S.end ?_))
            refine HT.one (i := 11) trivial rfl (S.nn (q.bs [[_, _]] true am_el22 am_ze57 am_cl57) (S.end ?_))
            refine HT.one (i := 12) trivial rfl (S.ap' [_, _] am_el22 am_ze57 am_cl57 am_by57 (hh := head_own') (hr := (rows_lit [(⟨_, _⟩ : Int × Int)])) (h := S.end ?_))
            refine HT.one (i := 13) trivial rfl (S.sv [_] false [_, _] am_in22 am_cl22 (h := S.end ?_))
            refine HT.nil trivial (by kernel_rfl) (hK _ ?_)
            clear hK K
            refine roundQ_n (QX := fun _ _ => False) [0, 5] (kR_d (he := (by rw [mapS_snoc, List.length_append] <;> rfl)) (h := (kR_c (he := (by rw [mapS_snoc, List.map_append] <;> rfl)) (h := kR_n)))) (by decide) (by decide) (leadsB rfl)
          · skip
            refine HT.two (i := 0) (j := 9) trivial rfl rfl (S.o (q.lv am_ag22) (S.end ?_)) (S.c0 (hF := add1_fun _ _ (atF_ok ‹OKSteps a› _) (atF_ok ‹OKSteps b› _)) (h := S.end ?_))
            · skip
              refine HT.one (i := 9) trivial rfl (S.c0 (hF := add1_fun _ _ (atF_ok ‹OKSteps a› _) (atF_ok ‹OKSteps b› _)) (h := S.end ?_))
              refine HT.one (i := 10) trivial rfl (S.o (q.bd [_, _] am_ze57 am_pl57) (S.end ?_))
              refine HT.one (i := 11) trivial rfl (S.nn (q.bs [[_, _]] true am_el22 am_ze57 am_cl57) (S.end ?_))
              refine HT.one (i := 12) trivial rfl (S.ap' [_, _] am_el22 am_ze57 am_cl57 am_by57 (hh := head_own') (hr := (rows_lit [(⟨_, _⟩ : Int × Int)])) (h := S.end ?_))
              refine HT.one (i := 13) trivial rfl (S.sv [_] false [_, _] am_in22 am_cl22 (h := S.end ?_))
              refine HT.nil trivial (by kernel_rfl) (hK _ ?_)
              clear hK K
              refine roundQ_n (QX := fun _ _ => False) [0, 5] (kR_d (he := (by rw [mapS_snoc, List.length_append] <;> rfl)) (h := (kR_c (he := (by rw [mapS_snoc, List.map_append] <;> rfl)) (h := kR_n)))) (by decide) (by decide) (leadsB rfl)
            · skip
              refine HT.two (i := 0) (j := 10) trivial rfl rfl (S.o (q.lv am_ag22) (S.end ?_)) (S.o (q.bd [_, _] am_ze57 am_pl57) (S.end ?_))
              · skip
                refine HT.one (i := 10) trivial rfl (S.o (q.bd [_, _] am_ze57 am_pl57) (S.end ?_))
                refine HT.one (i := 11) trivial rfl (S.nn (q.bs [[_, _]] true am_el22 am_ze57 am_cl57) (S.end ?_))
                refine HT.one (i := 12) trivial rfl (S.ap' [_, _] am_el22 am_ze57 am_cl57 am_by57 (hh := head_own') (hr := (rows_lit [(⟨_, _⟩ : Int × Int)])) (h := S.end ?_))
                refine HT.one (i := 13) trivial rfl (S.sv [_] false [_, _] am_in22 am_cl22 (h := S.end ?_))
                refine HT.nil trivial (by kernel_rfl) (hK _ ?_)
                clear hK K
                refine roundQ_n (QX := fun _ _ => False) [0, 5] (kR_d (he := (by rw [mapS_snoc, List.length_append] <;> rfl)) (h := (kR_c (he := (by rw [mapS_snoc, List.map_append] <;> rfl)) (h := kR_n)))) (by decide) (by decide) (leadsB rfl)
              · skip
                refine HT.two (i := 0) (j := 11) trivial rfl rfl (S.o (q.lv am_ag22) (S.end ?_)) (S.nn (q.bs [[_, _]] true am_el22 am_ze57 am_cl57) (S.end ?_))
                · skip
                  refine HT.one (i := 11) trivial rfl (S.nn (q.bs [[_, _]] true am_el22 am_ze57 am_cl57) (S.end ?_))
                  refine HT.one (i := 12) trivial rfl (S.ap' [_, _] am_el22 am_ze57 am_cl57 am_by57 (hh := head_own') (hr := (rows_lit [(⟨_, _⟩ : Int × Int)])) (h := S.end ?_))
                  refine HT.one (i := 13) trivial rfl (S.sv [_] false [_, _] am_in22 am_cl22 (h := S.end ?_))
                  refine HT.nil trivial (by kernel_rfl) (hK _ ?_)
                  clear hK K
                  refine roundQ_n (QX := fun _ _ => False) [0, 5] (kR_d (he := (by rw [mapS_snoc, List.length_append] <;> rfl)) (h := (kR_c (he := (by rw [mapS_snoc, List.map_append] <;> rfl)) (h := kR_n)))) (by decide) (by decide) (leadsB rfl)
                · skip
                  refine HT.one (i := 0) trivial rfl (S.o (q.lv am_ag22) (S.end ?_))
                  refine HT.one (i := 12) trivial rfl (S.ap' [_, _] am_el22 am_ze57 am_cl57 am_by57 (hh := head_own') (hr := (rows_lit [(⟨_, _⟩ : Int × Int)])) (h := S.end ?_))
                  refine HT.one (i := 13) trivial rfl (S.sv [_] false [_, _] am_in22 am_cl22 (h := S.end ?_))
                  refine HT.nil trivial (by kernel_rfl) (hK _ ?_)
                  clear hK K
                  refine roundQ_n (QX := fun _ _ => False) [0, 5] (kR_d (he := (by rw [mapS_snoc, List.length_append] <;> rfl)) (h := (kR_c (he := (by rw [mapS_snoc, List.map_append] <;> rfl)) (h := kR_n)))) (by decide) (by decide) (leadsB rfl)
      · intro pre hS
        try dsimp only
        obtain rfl := brk_uniq _ _ _ _ hS hxs
        have hml := mapS_len a b pre
        have hbl := brk_len _ _ _ hxs
        have ha1 := (‹OKSteps a›).1
        have hb1 := (‹OKSteps b›).1
        have hsl := shortG_len (mapS a b pre) 0
        refine Ev.sr fun K hK => S.o (q.lv am_ag22) ?_
        refine SeqL.weaken (Wk.frz 35 [_]) ?_
        refine S.c0 (hF := short_fun (mapS a b pre) (by omega)) (h := S.sv [_] false [] am_in22 am_cl22 (h := S.end (hK _ ?_)))
        clear hK K
        refine Ev.seq ?_
        refine Ev.block ?_
        refine Ev.sr fun K hK => S.o (q.lv am_ag22) (S.c0 (hF := containsFuncStep0 _ _ over1_fun _ (by omega)) (h := S.o q.as (S.end (hK _ ?_))))
        clear hK K
        refine Ev.cd (fun c3 => ?_) (fun c3 => ?_)
        · first
        | (first | omega | contradiction)
        | refine Ev.sr fun K hK => S.o q.as (S.o q.as (S.end (hK _ ?_)))
          clear hK K
          refine Ev.weaken (Wk.nsh stepC 6 2) ?_
          refine Ev.ret ?_
          refine Ev.ret2 ?_
          refine ⟨?_, rfl⟩
          first
           | exact tupJ (join1 fun h => absurd h.1 ‹_›)
           | exact tupJ (join1 fun h => absurd h.2 ‹_›)
           | exact tupJ (join5 ⟨‹OKSteps a›, ‹OKSteps b›⟩ (over_iff.1 ‹_›))
           | exact tupJ (join4 ⟨‹OKSteps a›, ‹OKSteps b›⟩ (fun h => absurd (over_iff.2 h) ‹_›) (by unfold sumL; omega))
           | exact tupJ (join0 ⟨‹OKSteps a›, ‹OKSteps b›⟩ (fun h => absurd (over_iff.2 h) ‹_›) (by unfold sumL; omega))
        · first
        | (first | omega | contradiction)
        | refine Ev.sr fun K hK => S.o (q.lv am_ag22) (S.o (q.lens am_el22) (S.o q.gtr (S.o q.as (S.end (hK _ ?_)))))
          clear hK K
          refine Ev.cd (fun c4 => ?_) (fun c4 => ?_)
          · first
          | (first | omega | contradiction)
          | refine Ev.sr fun K hK => S.o q.as (S.o q.as (S.end (hK _ ?_)))
            clear hK K
            refine Ev.weaken (Wk.nsh stepC 6 2) ?_
            refine Ev.ret ?_
            refine Ev.ret2 ?_
            refine ⟨?_, rfl⟩
            first
             | exact tupJ (join1 fun h => absurd h.1 ‹_›)
             | exact tupJ (join1 fun h => absurd h.2 ‹_›)
             | exact tupJ (join5 ⟨‹OKSteps a›, ‹OKSteps b›⟩ (over_iff.1 ‹_›))
             | exact tupJ (join4 ⟨‹OKSteps a›, ‹OKSteps b›⟩ (fun h => absurd (over_iff.2 h) ‹_›) (by unfold sumL; omega))
             | exact tupJ (join0 ⟨‹OKSteps a›, ‹OKSteps b›⟩ (fun h => absurd (over_iff.2 h) ‹_›) (by unfold sumL; omega))
          · first
          | (first | omega | contradiction)
          | refine Ev.skip ?_
            show Ev _ _ _ _
            refine Ev.sr fun K hK => S.o (q.lv am_ag22) (S.o q.as (S.o q.as (S.end (hK _ ?_))))
            clear hK K
            refine Ev.ret ?_
            refine Ev.ret2 ?_
            refine ⟨?_, rfl⟩
            first
             | exact tupJ (join1 fun h => absurd h.1 ‹_›)
             | exact tupJ (join1 fun h => absurd h.2 ‹_›)
             | exact tupJ (join5 ⟨‹OKSteps a›, ‹OKSteps b›⟩ (over_iff.1 ‹_›))
             | exact tupJ (join4 ⟨‹OKSteps a›, ‹OKSteps b›⟩ (fun h => absurd (over_iff.2 h) ‹_›) (by unfold sumL; omega))
             | exact tupJ (join0 ⟨‹OKSteps a›, ‹OKSteps b›⟩ (fun h => absurd (over_iff.2 h) ‹_›) (by unfold sumL; omega))
      · exact fun _ _ _ h => h.elim
end Go.Proofs.Ytigjoaejncfmdaa
