/-
  Layer 41: the example of the chapter.
  Conditions: none.
-/
import Derived.Test.YtccddakkegelkaaRev2
import Derived.Test.YtccddakkegelkaaRev3
import Derived.Test.YtccddakkegelkaaRev4
import Derived.Test.YtccddakkegelkaaRev7
import Derived.Test.YtccddakkegelkaaRev11
import Derived.Test.YtccddakkegelkaaRev15
namespace Go.Proofs.Ytccddakkegelkaa
open Go Go.AM
set_option linter.unusedSimpArgs false
set_option linter.unusedVariables false
set_option maxRecDepth 100000
set_option maxHeartbeats 1000000

def exA : List Bar := [⟨[97], 12, 1, 0, [1000]⟩, ⟨[98], 12, 1, 0, [1000]⟩]
def exB : List Bar := [⟨[98], 12, 2, 0, [1000]⟩, ⟨[99], 12, 1, 0, [1000]⟩]
theorem exA_w : schedW exA := by
  intro b hb
  simp only [exA, List.mem_cons, List.not_mem_nil, or_false] at hb
  rcases hb with rfl | rfl <;> exact ⟨by decide, by decide⟩
theorem exB_w : schedW exB := by
  intro b hb
  simp only [exB, List.mem_cons, List.not_mem_nil, or_false] at hb
  rcases hb with rfl | rfl <;> exact ⟨by decide, by decide⟩
theorem ex_cmpE : cmpE exA exB = 0 := by decide +kernel
theorem ex_cmpV : cmpV exA exB = [(4, [97]), (2, [98]), (3, [99])] := by decide +kernel
theorem ex_w : chgW [(4, [97]), (2, [98]), (3, [99])] := by
  intro c hc
  simp only [List.mem_cons, List.not_mem_nil, or_false] at hc
  rcases hc with rfl | rfl | rfl <;> decide
theorem ex_textE : textE [(4, [97]), (2, [98]), (3, [99])] = 0 := by decide +kernel
theorem ex_textV : textV [(4, [97]), (2, [98]), (3, [99])] = [99, 97, 110, 99, 101, 108, 108, 101, 100, 32, 97, 10, 99, 104, 97, 110, 103, 101, 100, 32, 98, 10, 97, 100, 100, 101, 100, 32, 99, 10] := by decide +kernel
theorem ex_appE : appE exA exB [(4, [97]), (2, [98]), (3, [99])] = 0 := by decide +kernel
theorem ex_appV : appV exA exB [(4, [97]), (2, [98]), (3, [99])] = exB := by decide +kernel
theorem ex_comes : stV exA exB (comesP exA exB) = 2664 := by decide +kernel
theorem ex_goes : stV exA exB (goesP exA exB) = 1776 := by decide +kernel
theorem awake_fun : Fun Try.prog 8 [] (Ret (.lit (.bool true)) []) := by
  have he := ex_cmpE
  have h1 := ex_textE
  have h2 := ex_textV
  have h3 := ex_appE
  have h4 := ex_comes
  have h5 := ex_goes
  have hsd : ∀ x ∈ exB, x.dims.length ≤ 140737488355328 := fun x hx => (exB_w x hx).2
  refine Fun.of (nt := 74) (rs := [.tmp 0]) Try.func8 rfl rfl rfl rfl rfl ?_
  refine Ev.sr fun K hK => S.o q.as (S.end (hK _ ?_))
  clear hK K
  refine Ev.sr fun K hK => S.c0 (hF := line_fun _ _) (h := S.c0 (hF := line_fun _ _) (h := S.nn (q.bs [[_, _, _, _, _], [_, _, _, _, _]] true am_el22 am_ze43 am_cl43) (S.c0 (hF := line_fun _ _) (h := S.c0 (hF := line_fun _ _) (h := S.nn (q.bs [[_, _, _, _, _], [_, _, _, _, _]] true am_el22 am_ze43 am_cl43) (S.o q.as (S.o q.as (S.end (hK _ ?_)))))))))
  clear hK K
  refine Ev.weaken (Wk.frzl (f := Bar.c) exA 1 [_]) ?_
  refine Ev.weaken (Wk.frzl (f := Bar.c) exB 2 []) ?_
  refine Ev.sr fun K hK => S.o q.mv (S.o q.mv (S.c0 (hF := (ex_cmpV ▸ Compare_fun exA exB (by decide) (by decide) exA_w exB_w)) (h := S.o q.mv (S.o q.ex (S.o q.ex (S.o q.as (S.o q.as (S.end (hK _ ?_)))))))))
  clear hK K
  refine Ev.sr fun K hK => S.o q.mv (S.c0 (hF := Text_fun _ (by decide) ex_w) (h := S.o q.mv (S.o q.ex (S.o q.ex (S.o q.as (S.o q.as (S.end (hK _ ?_))))))))
  clear hK K
  refine Ev.sr fun K hK => S.o q.mv (S.o q.mv (S.o q.mv (S.c0 (hF := (ex_appV ▸ Apply_fun exA exB _ (by decide) (by decide) (by decide) exA_w exB_w ex_w)) (h := S.o q.mv (S.o q.ex (S.o q.ex (S.o q.as (S.o q.as (S.end (hK _ ?_))))))))))
  clear hK K
  refine Ev.sr fun K hK => S.o q.mv (S.o q.mv (S.c0 (hF := Steel_fun exA exB (by decide) (by decide) exA_w exB_w) (h := S.o q.mv (S.o q.ex (S.o q.ex (S.o q.ex (S.o q.as (S.o q.as (S.o q.as (S.end (hK _ ?_)))))))))))
  clear hK K
  refine Ev.sr fun K hK => S.o q.mv (S.o q.eql (S.bd q.mv (fun c1 => ?_) (fun c1 => ?_)))
  · first
  | (first | omega | contradiction)
  | refine S.o q.mv (S.o q.eql (S.o q.pt (S.bd q.mv (fun c2 => ?_) (fun c2 => ?_))))
    · first
    | (first | omega | contradiction)
    | refine S.o q.mv (S.o q.seqs (S.o q.pt (S.bd q.mv (fun c3 => ?_) (fun c3 => ?_))))
      · first
      | (first | omega | contradiction)
      | refine S.o q.mv (S.o q.eql (S.o q.pt (S.bd q.mv (fun c4 => ?_) (fun c4 => ?_))))
        · first
        | (first | omega | contradiction)
        | refine S.o q.mv (S.o q.mv (S.c0 (hF := same14_fun exB exB (by decide) (by decide) hsd hsd) (h := S.o q.pt (S.bd q.mv (fun c5 => ?_) (fun c5 => ?_)))))
          · first
          | (first | omega | contradiction)
          | refine S.o q.mv (S.o q.eql (S.o q.pt (S.bd q.mv (fun c6 => ?_) (fun c6 => ?_))))
            · first
            | (first | omega | contradiction)
            | refine S.o q.mv (S.o q.eql (S.o q.pt (S.bd q.mv (fun c7 => ?_) (fun c7 => ?_))))
              · first
              | (first | omega | contradiction)
              | refine S.o q.mv (S.o q.eql (S.o q.pt (S.o q.as (S.end (hK _ ?_)))))
                clear hK K
                refine Ev.ret ?_
                refine Ev.ret1 ?_
                refine ⟨?_, rfl⟩
                first | exact lawT ex_goes | contradiction | omega
              · first
              | (first | omega | contradiction)
              | refine S.sk (S.sk (S.o q.pf (S.o q.as (S.end (hK _ ?_)))))
                clear hK K
                refine Ev.ret ?_
                refine Ev.ret1 ?_
                refine ⟨?_, rfl⟩
                first | exact lawT ex_goes | contradiction | omega
            · first
            | (first | omega | contradiction)
            | refine S.sk (S.sk (S.o q.pf (S.o q.mv (S.sk (S.sk (S.o q.pf (S.o q.as (S.end (hK _ ?_)))))))))
              clear hK K
              refine Ev.ret ?_
              refine Ev.ret1 ?_
              refine ⟨?_, rfl⟩
              first | exact lawT ex_goes | contradiction | omega
          · first
          | (first | omega | contradiction)
          | refine S.sk (S.sk (S.o q.pf (S.o q.mv (S.sk (S.sk (S.o q.pf (S.o q.mv (S.sk (S.sk (S.o q.pf (S.o q.as (S.end (hK _ ?_)))))))))))))
            clear hK K
            refine Ev.ret ?_
            refine Ev.ret1 ?_
            refine ⟨?_, rfl⟩
            first | exact lawT ex_goes | contradiction | omega
        · first
        | (first | omega | contradiction)
        | refine S.sk (S.sk (S.sk (S.o q.pf (S.o q.mv (S.sk (S.sk (S.o q.pf (S.o q.mv (S.sk (S.sk (S.o q.pf (S.o q.mv (S.sk (S.sk (S.o q.pf (S.o q.as (S.end (hK _ ?_))))))))))))))))))
          clear hK K
          refine Ev.ret ?_
          refine Ev.ret1 ?_
          refine ⟨?_, rfl⟩
          first | exact lawT ex_goes | contradiction | omega
      · first
      | (first | omega | contradiction)
      | refine S.sk (S.sk (S.o q.pf (S.o q.mv (S.sk (S.sk (S.sk (S.o q.pf (S.o q.mv (S.sk (S.sk (S.o q.pf (S.o q.mv (S.sk (S.sk (S.o q.pf (S.o q.mv (S.sk (S.sk (S.o q.pf (S.o q.as (S.end (hK _ ?_))))))))))))))))))))))
        clear hK K
        refine Ev.ret ?_
        refine Ev.ret1 ?_
        refine ⟨?_, rfl⟩
        first | exact lawT ex_goes | contradiction | omega
    · first
    | (first | omega | contradiction)
    | refine S.sk (S.sk (S.o q.pf (S.o q.mv (S.sk (S.sk (S.o q.pf (S.o q.mv (S.sk (S.sk (S.sk (S.o q.pf (S.o q.mv (S.sk (S.sk (S.o q.pf (S.o q.mv (S.sk (S.sk (S.o q.pf (S.o q.mv (S.sk (S.sk (S.o q.pf (S.o q.as (S.end (hK _ ?_))))))))))))))))))))))))))
      clear hK K
      refine Ev.ret ?_
      refine Ev.ret1 ?_
      refine ⟨?_, rfl⟩
      first | exact lawT ex_goes | contradiction | omega
  · first
  | (first | omega | contradiction)
  | refine S.sk (S.sk (S.o q.pf (S.o q.mv (S.sk (S.sk (S.o q.pf (S.o q.mv (S.sk (S.sk (S.o q.pf (S.o q.mv (S.sk (S.sk (S.sk (S.o q.pf (S.o q.mv (S.sk (S.sk (S.o q.pf (S.o q.mv (S.sk (S.sk (S.o q.pf (S.o q.mv (S.sk (S.sk (S.o q.pf (S.o q.as (S.end (hK _ ?_))))))))))))))))))))))))))))))
    clear hK K
    refine Ev.ret ?_
    refine Ev.ret1 ?_
    refine ⟨?_, rfl⟩
    first | exact lawT ex_goes | contradiction | omega
end Go.Proofs.Ytccddakkegelkaa
