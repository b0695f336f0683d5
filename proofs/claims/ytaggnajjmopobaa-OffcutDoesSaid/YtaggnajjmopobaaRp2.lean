/-
  Lists of pieces.
  Conditions: none.
-/
import Derived.Test.YtaggnajjmopobaaRp1
import Derived.Test.YtaggnajjmopobaaSo5
namespace Go.Proofs.Ytaggnajjmopobaa
open Go Go.AM
set_option linter.unusedSimpArgs false
set_option linter.unusedVariables false
set_option maxRecDepth 100000
set_option maxHeartbeats 1000000

def numP (l : List (Int × Int)) : Int := (l.map fun p => p.2).sum
theorem numP_snoc (l : List (Int × Int)) (s : Int × Int) : numP (l ++ [s]) = numP l + s.2 := by simp [numP]
theorem numP_bd : ∀ l : List (Int × Int), (∀ b ∈ l, okPc b) → 0 ≤ numP l ∧ numP l ≤ 1000000 * l.length := by
  refine snoc_ind (fun _ => by simp [numP]) ?_
  intro l s ih h
  obtain ⟨i1, i2⟩ := ih fun b hb => h b (by simp [hb])
  obtain ⟨h1, h2, h3, h4⟩ := h s (by simp)
  rw [numP_snoc, List.length_append, List.length_singleton]
  omega
theorem numP_app (a b : List (Int × Int)) : numP (a ++ b) = numP a + numP b := by simp [numP]
theorem numP_cut {l pre suf : List (Int × Int)} {s : Int × Int} (hok : ∀ b ∈ l, okPc b) (hp : pre ++ s :: suf = l) : 0 ≤ numP pre ∧ numP pre + s.2 ≤ numP l := by
  have h1 := (numP_bd pre fun x hx => hok x (by rw [← hp]; simp [hx])).1
  have h2 := (numP_bd suf fun x hx => hok x (by rw [← hp]; simp [hx])).1
  rw [← hp, numP_app]
  have : numP (s :: suf) = s.2 + numP suf := by simp [numP]
  omega
def listP (l : List (Int × Int)) : List Int := l.flatMap fun p => List.replicate p.2.toNat p.1
theorem listP_snoc (l : List (Int × Int)) (s : Int × Int) : listP (l ++ [s]) = listP l ++ List.replicate s.2.toNat s.1 := by simp [listP]
theorem listP_len : ∀ l : List (Int × Int), (∀ b ∈ l, okPc b) → ((listP l).length : Int) = numP l := by
  refine snoc_ind (fun _ => by simp [numP, listP]) ?_
  intro l s ih h
  have i1 := ih fun b hb => h b (by simp [hb])
  obtain ⟨h1, h2, h3, h4⟩ := h s (by simp)
  rw [numP_snoc, listP_snoc, List.length_append, List.length_replicate]
  omega
def lsV (l : List (Int × Int)) : List Int := if okOrd l then (if numP l ≤ 1000 then listP l else []) else []
def lsE (l : List (Int × Int)) : Int := if okOrd l then (if numP l ≤ 1000 then 0 else 4) else 1
theorem stList_fun (l : List (Int × Int)) (hlen : l.length ≤ 140737488355328) : Fun Try.prog 37 [.sh 2 (l.map pairC)] (Ret (.tup [.sh 1 ((lsV l).map intC), .lit (.int .i64 (lsE l))]) []) := by
  refine Fun.of (nt := 42) (rs := [.tmp 2, .tmp 3]) Try.func37 rfl rfl rfl rfl rfl ?_
  refine Ev.sr fun K hK => S.o q.as (S.o q.as (S.end (hK _ ?_)))
  clear hK K
  refine Ev.seq ?_
  refine Ev.sr fun K hK => S.o q.mv (S.c0 (hF := order_fun _ (by omega)) (h := S.o q.not (S.end (hK _ ?_))))
  clear hK K
  refine Ev.cn (fun c1 => ?_) (fun c1 => ?_)
  · first
  | (first | omega | contradiction)
  | refine Ev.sr fun K hK => S.o q.as (S.o q.as (S.end (hK _ ?_)))
    clear hK K
    refine Ev.weaken (Wk.nsh intC 2 1) ?_
    refine Ev.ret ?_
    refine Ev.ret2 ?_
    refine ⟨?_, rfl⟩
    first
     | (rw [show lsV l = [] from if_neg ‹_›, show lsE l = 1 from if_neg ‹_›]; done)
     | (rw [show lsV l = [] from (if_pos hok).trans (if_neg (by rw [← hp]; omega)), show lsE l = 4 from (if_pos hok).trans (if_neg (by rw [← hp]; omega))]; done)
     | (rw [show lsV l = listP l from (if_pos hok).trans (if_pos hnm), show lsE l = 0 from (if_pos hok).trans (if_pos hnm), ← hp]; done)
  · first
  | (first | omega | contradiction)
  | refine Ev.skip ?_
    show Ev _ _ _ _
    have hok : okOrd l := ‹_›
    have hll := hok.1
    refine Ev.sr fun K hK => S.o q.as (S.end (hK _ ?_))
    clear hK K
    refine Ev.seq ?_
    refine Ev.sr fun K hK => S.o q.mv (S.o (q.lens am_el28) (S.o q.mv (S.end (hK _ ?_))))
    clear hK K
    refine Ev.block ?_
    refine Ev.loopU (ι := {p : List (Int × Int) × List (Int × Int) // p.1 ++ p.2 = l ∧ True}) [] [0, 2, 3, 13, 14] (fun ⟨(pre, suf), _⟩ => [(15, .lit (.int .i64 ((pre.length : Int)))), (4, .lit (.int .i64 (numP pre)))]) (fun ⟨(pre, suf), _⟩ => []) (fun ⟨(pre, suf), _⟩ => suf.length) ⟨([], l), rfl, trivial⟩ (.c (.c (.c (.c (.c .n))))) keep_n (slots_c (he := (by first | rfl | (congr 2; simp; done))) (h := (slots_c (he := (by first | rfl | exact iE (by rw [numP_snoc]))) (h := trivial)))) ?_
    rintro ⟨⟨pre, suf⟩, hp, hinv⟩ R0 hR0
    dsimp only [List.cons_append, List.nil_append, List.length_cons, List.length_nil]
    simp only at hp hinv
    have hpl : pre.length + suf.length = (l).length := by rw [← hp, List.length_append]
    rcases suf with _ | ⟨s, suf⟩
    · rw [List.append_nil] at hp; simp only [List.length_nil] at hpl
      refine Ev.sr fun K hK => S.o q.lss (S.end (hK _ ?_))
      clear hK K
      refine Ev.ud (fun c2 => ?_) (fun c2 => ?_)
      · first
      | (first | omega | contradiction)
      | refine Ev.seq ?_
        refine Ev.block ?_
        refine Ev.sr fun K hK => S.o (q.ix am_el28 am_cl52 (hl := (by first | exact atig (by omega)))) (S.o (q.lsA [_, _] am_ag52 am_cl52) (S.nn (q.al am_ze52) (S.sv [_, _] true [] am_in52 am_cl52 (h := S.end (hK _ ?_)))))
        clear hK K
        refine Ev.region_S fun K hK => S.o q.mv (S.o (q.fa 1 am_fi52_1 am_cl3) (S.o (q.lv am_ag3) (S.o q.add (S.o q.as (S.end (hK _ ?_))))))
        clear hK K
        show Ev _ _ _ _
        refine Ev.region_S fun K hK => S.o q.add (S.o q.mv (S.end (hK _ ?_)))
        clear hK K
        refine hR0 _ _ ?_
        refine roundU [] [0, 2, 3, 13, 14] ⟨(pre ++ [(sx, sy)], suf), by rw [← hp]; simp, ?_⟩ ?_ keep_n (slots_c (he := (by first | rfl | (congr 2; simp; done))) (h := (slots_c (he := (by first | rfl | exact iE (by rw [numP_snoc]))) (h := trivial)))) (.c (.c (.c (.c (.c .n)))))
        trivial
        all_goals (dsimp only; simp only [List.length_cons]; omega)
      · first
      | (first | omega | contradiction)
      | refine Ev.exit ?_
        refine hR0 _ _ ?_
        show Ev _ _ _ _
        refine Ev.seq ?_
        refine Ev.sr fun K hK => S.o q.mv (S.o q.gtr (S.end (hK _ ?_)))
        clear hK K
        refine Ev.cd (fun c3 => ?_) (fun c3 => ?_)
        · first
        | (first | omega | contradiction)
        | refine Ev.sr fun K hK => S.o q.as (S.o q.as (S.end (hK _ ?_)))
          clear hK K
          refine Ev.weaken (Wk.nsh intC 2 1) ?_
          refine Ev.ret ?_
          refine Ev.ret2 ?_
          refine ⟨?_, rfl⟩
          first
           | (rw [show lsV l = [] from if_neg ‹_›, show lsE l = 1 from if_neg ‹_›]; done)
           | (rw [show lsV l = [] from (if_pos hok).trans (if_neg (by rw [← hp]; omega)), show lsE l = 4 from (if_pos hok).trans (if_neg (by rw [← hp]; omega))]; done)
           | (rw [show lsV l = listP l from (if_pos hok).trans (if_pos hnm), show lsE l = 0 from (if_pos hok).trans (if_pos hnm), ← hp]; done)
        · first
        | (first | omega | contradiction)
        | refine Ev.skip ?_
          show Ev _ _ _ _
          have hnm : numP l ≤ 1000 := by rw [← hp]; omega
          refine Ev.sr fun K hK => S.o q.as (S.end (hK _ ?_))
          clear hK K
          refine Ev.seq ?_
          refine Ev.sr fun K hK => S.o q.mv (S.o (q.lens am_el28) (S.o q.mv (S.end (hK _ ?_))))
          clear hK K
          refine Ev.block ?_
          refine Ev.weaken (Wk.nown intC 7 3 1) ?_
          refine Ev.loopU (ι := {p : List (Int × Int) × List (Int × Int) // p.1 ++ p.2 = l ∧ True}) [0] [0, 2, 3, 4, 13, 14, 15, 16, 24, 25, 26, 27] (fun ⟨(pre, suf), _⟩ => [(28, .lit (.int .i64 ((pre.length : Int)))), (7, .als 0 0 (listP pre).length)]) (fun ⟨(pre, suf), _⟩ => [(0, ⟨true, 3, 1, (listP pre).map intC, true⟩)]) (fun ⟨(pre, suf), _⟩ => suf.length) ⟨([], l), rfl, trivial⟩ (.c (.c (.c (.c (.c (.c (.c (.c (.c (.c (.c (.c .n)))))))))))) (keep_c (he := (by first | rfl | (rw [listP_snoc, List.map_append]; done) | (simp [listP]; done))) (h := keep_n)) (slots_c (he := (by first | rfl | (congr 2; simp; done))) (h := (slots_c (he := (by first | rfl | (rw [listP_snoc, List.length_append]; done))) (h := trivial)))) ?_
          rintro ⟨⟨pre, suf⟩, hp, hinv⟩ R2 hR2
          dsimp only [List.cons_append, List.nil_append, List.length_cons, List.length_nil]
          simp only at hp hinv
          have hpl : pre.length + suf.length = (l).length := by rw [← hp, List.length_append]
          rcases suf with _ | ⟨s, suf⟩
          · rw [List.append_nil] at hp; simp only [List.length_nil] at hpl
            refine Ev.sr fun K hK => S.o q.lss (S.end (hK _ ?_))
            clear hK K
            refine Ev.ud (fun c4 => ?_) (fun c4 => ?_)
            · first
            | (first | omega | contradiction)
            | refine Ev.seq ?_
              refine Ev.block ?_
              refine Ev.sr fun K hK => S.o (q.ix am_el28 am_cl52 (hl := (by first | exact atig (by omega)))) (S.o (q.lsA [_, _] am_ag52 am_cl52) (S.nn (q.al am_ze52) (S.sv [_, _] true [_] am_in52 am_cl52 (h := S.end (hK _ ?_)))))
              clear hK K
              refine Ev.region_S fun K hK => S.o q.mv (S.o (q.fa 0 am_fi52_0 am_cl3) (S.o (q.lv am_ag3) (S.nn (q.bs [[_]] true am_el70 am_ze3 am_cl3) (S.o (q.fa 1 am_fi52_1 am_cl3) (S.o (q.lv am_ag3) ?_)))))
              refine SeqL.weaken (Wk.frzl (f := intC) [sx] 35 [_, _]) ?_
              refine S.c1 (hF := repeat_fun sx sy (by omega) (by omega)) (h := S.ap' [_, _] am_el70 am_ze3 am_cl3 am_by3 (hh := head_own') (hr := rows_own') (h := S.o q.as (S.end (hK _ ?_))))
              clear hK K
              show Ev _ _ _ _
              refine Ev.region_S fun K hK => S.o q.add (S.o q.mv (S.end (hK _ ?_)))
              clear hK K
              refine hR2 _ _ ?_
              refine roundU [4] [0, 2, 3, 4, 13, 14, 15, 16, 24, 25, 26, 27] ⟨(pre ++ [(sx, sy)], suf), by rw [← hp]; simp, ?_⟩ ?_ (keep_c (he := (by first | rfl | (rw [listP_snoc, List.map_append]; done) | (simp [listP]; done))) (h := keep_n)) (slots_c (he := (by first | rfl | (congr 2; simp; done))) (h := (slots_c (he := (by first | rfl | (rw [listP_snoc, List.length_append]; done))) (h := trivial)))) (.c (.c (.c (.c (.c (.c (.c (.c (.c (.c (.c (.c .n))))))))))))
              trivial
              all_goals (dsimp only; simp only [List.length_cons]; omega)
            · first
            | (first | omega | contradiction)
            | refine Ev.exit ?_
              refine hR2 _ _ ?_
              show Ev _ _ _ _
              refine Ev.sr fun K hK => S.o q.mv (S.o q.as (S.o q.as (S.end (hK _ ?_))))
              clear hK K
              refine Ev.weaken (Wk.frz 2 []) ?_
              refine Ev.ret ?_
              refine Ev.ret2 ?_
              refine ⟨?_, rfl⟩
              first
               | (rw [show lsV l = [] from if_neg ‹_›, show lsE l = 1 from if_neg ‹_›]; done)
               | (rw [show lsV l = [] from (if_pos hok).trans (if_neg (by rw [← hp]; omega)), show lsE l = 4 from (if_pos hok).trans (if_neg (by rw [← hp]; omega))]; done)
               | (rw [show lsV l = listP l from (if_pos hok).trans (if_pos hnm), show lsE l = 0 from (if_pos hok).trans (if_pos hnm), ← hp]; done)
          · simp only [List.length_cons] at hpl
            have hidx : l[pre.length]? = some s := by rw [← hp]; simp
            obtain ⟨sx, sy⟩ := s
            obtain ⟨g1, g2, g3, g4⟩ := hok.2 (sx, sy) (by rw [← hp]; simp)
            simp only at g1 g2 g3 g4
            obtain ⟨t1, t2⟩ := numP_bd pre (fun x hx => hok.2 x (by rw [← hp]; simp [hx]))
            obtain ⟨t3, t4⟩ := numP_cut hok.2 hp
            simp only at t4
            have t5 := listP_len pre (fun x hx => hok.2 x (by rw [← hp]; simp [hx]))
            have t6 : (List.replicate sy.toNat sx).length ≤ 1000 := by rw [List.length_replicate]; omega
            refine Ev.sr fun K hK => S.o q.lss (S.end (hK _ ?_))
            clear hK K
            refine Ev.ud (fun c5 => ?_) (fun c5 => ?_)
            · first
            | (first | omega | contradiction)
            | refine Ev.seq ?_
              refine Ev.block ?_
              refine Ev.sr fun K hK => S.o (q.ix am_el28 am_cl52 (hl := (by first | exact ati hidx (by omega) | exact atig (by omega)))) (S.o (q.lsA [_, _] am_ag52 am_cl52) (S.nn (q.al am_ze52) (S.sv [_, _] true [_] am_in52 am_cl52 (h := S.end (hK _ ?_)))))
              clear hK K
              refine Ev.region_S fun K hK => S.o q.mv (S.o (q.fa 0 am_fi52_0 am_cl3) (S.o (q.lv am_ag3) (S.nn (q.bs [[_]] true am_el70 am_ze3 am_cl3) (S.o (q.fa 1 am_fi52_1 am_cl3) (S.o (q.lv am_ag3) ?_)))))
              refine SeqL.weaken (Wk.frzl (f := intC) [sx] 35 [_, _]) ?_
              refine S.c1 (hF := repeat_fun sx sy (by omega) (by omega)) (h := S.ap' [_, _] am_el70 am_ze3 am_cl3 am_by3 (hh := head_own') (hr := rows_own') (h := S.o q.as (S.end (hK _ ?_))))
              clear hK K
              show Ev _ _ _ _
              refine Ev.region_S fun K hK => S.o q.add (S.o q.mv (S.end (hK _ ?_)))
              clear hK K
              refine hR2 _ _ ?_
              refine roundU [4] [0, 2, 3, 4, 13, 14, 15, 16, 24, 25, 26, 27] ⟨(pre ++ [(sx, sy)], suf), by rw [← hp]; simp, ?_⟩ ?_ (keep_c (he := (by first | rfl | (rw [listP_snoc, List.map_append]; done) | (simp [listP]; done))) (h := keep_n)) (slots_c (he := (by first | rfl | (congr 2; simp; done))) (h := (slots_c (he := (by first | rfl | (rw [listP_snoc, List.length_append]; done))) (h := trivial)))) (.c (.c (.c (.c (.c (.c (.c (.c (.c (.c (.c (.c .n))))))))))))
              trivial
              all_goals (dsimp only; simp only [List.length_cons]; omega)
            · first
            | (first | omega | contradiction)
            | refine Ev.exit ?_
              refine hR2 _ _ ?_
              show Ev _ _ _ _
              refine Ev.sr fun K hK => S.o q.mv (S.o q.as (S.o q.as (S.end (hK _ ?_))))
              clear hK K
              refine Ev.weaken (Wk.frz 2 []) ?_
              refine Ev.ret ?_
              refine Ev.ret2 ?_
              refine ⟨?_, rfl⟩
              first
               | (rw [show lsV l = [] from if_neg ‹_›, show lsE l = 1 from if_neg ‹_›]; done)
               | (rw [show lsV l = [] from (if_pos hok).trans (if_neg (by rw [← hp]; omega)), show lsE l = 4 from (if_pos hok).trans (if_neg (by rw [← hp]; omega))]; done)
               | (rw [show lsV l = listP l from (if_pos hok).trans (if_pos hnm), show lsE l = 0 from (if_pos hok).trans (if_pos hnm), ← hp]; done)
    · simp only [List.length_cons] at hpl
      have hidx : l[pre.length]? = some s := by rw [← hp]; simp
      obtain ⟨sx, sy⟩ := s
      obtain ⟨g1, g2, g3, g4⟩ := hok.2 (sx, sy) (by rw [← hp]; simp)
      simp only at g1 g2 g3 g4
      obtain ⟨t1, t2⟩ := numP_bd pre (fun x hx => hok.2 x (by rw [← hp]; simp [hx]))
      refine Ev.sr fun K hK => S.o q.lss (S.end (hK _ ?_))
      clear hK K
      refine Ev.ud (fun c6 => ?_) (fun c6 => ?_)
      · first
      | (first | omega | contradiction)
      | refine Ev.seq ?_
        refine Ev.block ?_
        refine Ev.sr fun K hK => S.o (q.ix am_el28 am_cl52 (hl := (by first | exact ati hidx (by omega) | exact atig (by omega)))) (S.o (q.lsA [_, _] am_ag52 am_cl52) (S.nn (q.al am_ze52) (S.sv [_, _] true [] am_in52 am_cl52 (h := S.end (hK _ ?_)))))
        clear hK K
        refine Ev.region_S fun K hK => S.o q.mv (S.o (q.fa 1 am_fi52_1 am_cl3) (S.o (q.lv am_ag3) (S.o q.add (S.o q.as (S.end (hK _ ?_))))))
        clear hK K
        show Ev _ _ _ _
        refine Ev.region_S fun K hK => S.o q.add (S.o q.mv (S.end (hK _ ?_)))
        clear hK K
        refine hR0 _ _ ?_
        refine roundU [] [0, 2, 3, 13, 14] ⟨(pre ++ [(sx, sy)], suf), by rw [← hp]; simp, ?_⟩ ?_ keep_n (slots_c (he := (by first | rfl | (congr 2; simp; done))) (h := (slots_c (he := (by first | rfl | exact iE (by rw [numP_snoc]))) (h := trivial)))) (.c (.c (.c (.c (.c .n)))))
        trivial
        all_goals (dsimp only; simp only [List.length_cons]; omega)
      · first
      | (first | omega | contradiction)
      | refine Ev.exit ?_
        refine hR0 _ _ ?_
        show Ev _ _ _ _
        refine Ev.seq ?_
        refine Ev.sr fun K hK => S.o q.mv (S.o q.gtr (S.end (hK _ ?_)))
        clear hK K
        refine Ev.cd (fun c7 => ?_) (fun c7 => ?_)
        · first
        | (first | omega | contradiction)
        | refine Ev.sr fun K hK => S.o q.as (S.o q.as (S.end (hK _ ?_)))
          clear hK K
          refine Ev.weaken (Wk.nsh intC 2 1) ?_
          refine Ev.ret ?_
          refine Ev.ret2 ?_
          refine ⟨?_, rfl⟩
          first
           | (rw [show lsV l = [] from if_neg ‹_›, show lsE l = 1 from if_neg ‹_›]; done)
           | (rw [show lsV l = [] from (if_pos hok).trans (if_neg (by rw [← hp]; omega)), show lsE l = 4 from (if_pos hok).trans (if_neg (by rw [← hp]; omega))]; done)
           | (rw [show lsV l = listP l from (if_pos hok).trans (if_pos hnm), show lsE l = 0 from (if_pos hok).trans (if_pos hnm), ← hp]; done)
        · first
        | (first | omega | contradiction)
        | refine Ev.skip ?_
          show Ev _ _ _ _
          have hnm : numP l ≤ 1000 := by rw [← hp]; omega
          refine Ev.sr fun K hK => S.o q.as (S.end (hK _ ?_))
          clear hK K
          refine Ev.seq ?_
          refine Ev.sr fun K hK => S.o q.mv (S.o (q.lens am_el28) (S.o q.mv (S.end (hK _ ?_))))
          clear hK K
          refine Ev.block ?_
          refine Ev.weaken (Wk.nown intC 7 3 1) ?_
          refine Ev.loopU (ι := {p : List (Int × Int) × List (Int × Int) // p.1 ++ p.2 = l ∧ True}) [0] [0, 2, 3, 4, 13, 14, 15, 16, 24, 25, 26, 27] (fun ⟨(pre, suf), _⟩ => [(28, .lit (.int .i64 ((pre.length : Int)))), (7, .als 0 0 (listP pre).length)]) (fun ⟨(pre, suf), _⟩ => [(0, ⟨true, 3, 1, (listP pre).map intC, true⟩)]) (fun ⟨(pre, suf), _⟩ => suf.length) ⟨([], l), rfl, trivial⟩ (.c (.c (.c (.c (.c (.c (.c (.c (.c (.c (.c (.c .n)))))))))))) (keep_c (he := (by first | rfl | (rw [listP_snoc, List.map_append]; done) | (simp [listP]; done))) (h := keep_n)) (slots_c (he := (by first | rfl | (congr 2; simp; done))) (h := (slots_c (he := (by first | rfl | (rw [listP_snoc, List.length_append]; done))) (h := trivial)))) ?_
          rintro ⟨⟨pre, suf⟩, hp, hinv⟩ R2 hR2
          dsimp only [List.cons_append, List.nil_append, List.length_cons, List.length_nil]
          simp only at hp hinv
          have hpl : pre.length + suf.length = (l).length := by rw [← hp, List.length_append]
          rcases suf with _ | ⟨s, suf⟩
          · rw [List.append_nil] at hp; simp only [List.length_nil] at hpl
            refine Ev.sr fun K hK => S.o q.lss (S.end (hK _ ?_))
            clear hK K
            refine Ev.ud (fun c8 => ?_) (fun c8 => ?_)
            · first
            | (first | omega | contradiction)
            | refine Ev.seq ?_
              refine Ev.block ?_
              refine Ev.sr fun K hK => S.o (q.ix am_el28 am_cl52 (hl := (by first | exact ati hidx (by omega) | exact atig (by omega)))) (S.o (q.lsA [_, _] am_ag52 am_cl52) (S.nn (q.al am_ze52) (S.sv [_, _] true [_] am_in52 am_cl52 (h := S.end (hK _ ?_)))))
              clear hK K
              refine Ev.region_S fun K hK => S.o q.mv (S.o (q.fa 0 am_fi52_0 am_cl3) (S.o (q.lv am_ag3) (S.nn (q.bs [[_]] true am_el70 am_ze3 am_cl3) (S.o (q.fa 1 am_fi52_1 am_cl3) (S.o (q.lv am_ag3) ?_)))))
              refine SeqL.weaken (Wk.frzl (f := intC) [sx] 35 [_, _]) ?_
              refine S.c1 (hF := repeat_fun sx sy (by omega) (by omega)) (h := S.ap' [_, _] am_el70 am_ze3 am_cl3 am_by3 (hh := head_own') (hr := rows_own') (h := S.o q.as (S.end (hK _ ?_))))
              clear hK K
              show Ev _ _ _ _
              refine Ev.region_S fun K hK => S.o q.add (S.o q.mv (S.end (hK _ ?_)))
              clear hK K
              refine hR2 _ _ ?_
              refine roundU [4] [0, 2, 3, 4, 13, 14, 15, 16, 24, 25, 26, 27] ⟨(pre ++ [(sx, sy)], suf), by rw [← hp]; simp, ?_⟩ ?_ (keep_c (he := (by first | rfl | (rw [listP_snoc, List.map_append]; done) | (simp [listP]; done))) (h := keep_n)) (slots_c (he := (by first | rfl | (congr 2; simp; done))) (h := (slots_c (he := (by first | rfl | (rw [listP_snoc, List.length_append]; done))) (h := trivial)))) (.c (.c (.c (.c (.c (.c (.c (.c (.c (.c (.c (.c .n))))))))))))
              trivial
              all_goals (dsimp only; simp only [List.length_cons]; omega)
            · first
            | (first | omega | contradiction)
            | refine Ev.exit ?_
              refine hR2 _ _ ?_
              show Ev _ _ _ _
              refine Ev.sr fun K hK => S.o q.mv (S.o q.as (S.o q.as (S.end (hK _ ?_))))
              clear hK K
              refine Ev.weaken (Wk.frz 2 []) ?_
              refine Ev.ret ?_
              refine Ev.ret2 ?_
              refine ⟨?_, rfl⟩
              first
               | (rw [show lsV l = [] from if_neg ‹_›, show lsE l = 1 from if_neg ‹_›]; done)
               | (rw [show lsV l = [] from (if_pos hok).trans (if_neg (by rw [← hp]; omega)), show lsE l = 4 from (if_pos hok).trans (if_neg (by rw [← hp]; omega))]; done)
               | (rw [show lsV l = listP l from (if_pos hok).trans (if_pos hnm), show lsE l = 0 from (if_pos hok).trans (if_pos hnm), ← hp]; done)
          · simp only [List.length_cons] at hpl
            have hidx : l[pre.length]? = some s := by rw [← hp]; simp
            obtain ⟨sx, sy⟩ := s
            obtain ⟨g1, g2, g3, g4⟩ := hok.2 (sx, sy) (by rw [← hp]; simp)
            simp only at g1 g2 g3 g4
            obtain ⟨t1, t2⟩ := numP_bd pre (fun x hx => hok.2 x (by rw [← hp]; simp [hx]))
            obtain ⟨t3, t4⟩ := numP_cut hok.2 hp
            simp only at t4
            have t5 := listP_len pre (fun x hx => hok.2 x (by rw [← hp]; simp [hx]))
            have t6 : (List.replicate sy.toNat sx).length ≤ 1000 := by rw [List.length_replicate]; omega
            refine Ev.sr fun K hK => S.o q.lss (S.end (hK _ ?_))
            clear hK K
            refine Ev.ud (fun c9 => ?_) (fun c9 => ?_)
            · first
            | (first | omega | contradiction)
            | refine Ev.seq ?_
              refine Ev.block ?_
              refine Ev.sr fun K hK => S.o (q.ix am_el28 am_cl52 (hl := (by first | exact ati hidx (by omega) | exact ati hidx (by omega) | exact atig (by omega)))) (S.o (q.lsA [_, _] am_ag52 am_cl52) (S.nn (q.al am_ze52) (S.sv [_, _] true [_] am_in52 am_cl52 (h := S.end (hK _ ?_)))))
              clear hK K
              refine Ev.region_S fun K hK => S.o q.mv (S.o (q.fa 0 am_fi52_0 am_cl3) (S.o (q.lv am_ag3) (S.nn (q.bs [[_]] true am_el70 am_ze3 am_cl3) (S.o (q.fa 1 am_fi52_1 am_cl3) (S.o (q.lv am_ag3) ?_)))))
              refine SeqL.weaken (Wk.frzl (f := intC) [sx] 35 [_, _]) ?_
              refine S.c1 (hF := repeat_fun sx sy (by omega) (by omega)) (h := S.ap' [_, _] am_el70 am_ze3 am_cl3 am_by3 (hh := head_own') (hr := rows_own') (h := S.o q.as (S.end (hK _ ?_))))
              clear hK K
              show Ev _ _ _ _
              refine Ev.region_S fun K hK => S.o q.add (S.o q.mv (S.end (hK _ ?_)))
              clear hK K
              refine hR2 _ _ ?_
              refine roundU [4] [0, 2, 3, 4, 13, 14, 15, 16, 24, 25, 26, 27] ⟨(pre ++ [(sx, sy)], suf), by rw [← hp]; simp, ?_⟩ ?_ (keep_c (he := (by first | rfl | (rw [listP_snoc, List.map_append]; done) | (simp [listP]; done))) (h := keep_n)) (slots_c (he := (by first | rfl | (congr 2; simp; done))) (h := (slots_c (he := (by first | rfl | (rw [listP_snoc, List.length_append]; done))) (h := trivial)))) (.c (.c (.c (.c (.c (.c (.c (.c (.c (.c (.c (.c .n))))))))))))
              trivial
              all_goals (dsimp only; simp only [List.length_cons]; omega)
            · first
            | (first | omega | contradiction)
            | refine Ev.exit ?_
              refine hR2 _ _ ?_
              show Ev _ _ _ _
              refine Ev.sr fun K hK => S.o q.mv (S.o q.as (S.o q.as (S.end (hK _ ?_))))
              clear hK K
              refine Ev.weaken (Wk.frz 2 []) ?_
              refine Ev.ret ?_
              refine Ev.ret2 ?_
              refine ⟨?_, rfl⟩
              first
               | (rw [show lsV l = [] from if_neg ‹_›, show lsE l = 1 from if_neg ‹_›]; done)
               | (rw [show lsV l = [] from (if_pos hok).trans (if_neg (by rw [← hp]; omega)), show lsE l = 4 from (if_pos hok).trans (if_neg (by rw [← hp]; omega))]; done)
               | (rw [show lsV l = listP l from (if_pos hok).trans (if_pos hnm), show lsE l = 0 from (if_pos hok).trans (if_pos hnm), ← hp]; done)
end Go.Proofs.Ytaggnajjmopobaa
