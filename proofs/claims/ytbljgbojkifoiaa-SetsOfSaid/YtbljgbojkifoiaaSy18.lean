/- SetsKeys: what the law answers. -/
import Derived.Test.YtbljgbojkifoiaaSy17
set_option linter.unusedVariables false
set_option linter.unusedSimpArgs false
namespace Go.Proofs.Ytbljgbojkifoiaa
open Go Go.L

theorem given_lies {s : StateS} (h : s.given) : s.lies := ⟨h.1.2.2.2.2.2.2.1, h.1.2.2.2.2.2.2.2⟩

set_option maxHeartbeats 8000000 in
theorem r3 (a b : StateS) (ha : a.given) (hb : b.given) (fa : a.few) (fb : b.few) (A B v5 : LVal) (bb : Bool) (hA : A.stay = A) (hB : B.stay = B) (h5 : v5.stay = v5) :
    codeW D.T D.r3_0 { vars := [A, B, .ptr 0 0, .ptr 1 0, .bool bb, v5], st := [.cells 31 a.cells, .cells 31 b.cells], rs := [] } =
      some (.normal, { vars := [A, B, .ptr 0 0, .ptr 1 0, .bool true, v5], st := [.cells 31 a.cells, .cells 31 b.cells], rs := [] }) := by
  have k1 := key_eq a ha.1 fa
  have k2 := key_eq b hb.1 fb
  have k3 := rkey_eq a ha.1 fa
  have k4 := same_eq a b (ha.1.shut fa) (hb.1.shut fb)
  have k5 : ((keyB a == keyB b) == (@decide (Alike a b) (Classical.propDecidable _))) = true := by
    by_cases h : Alike a b
    · have := (key_inj a b).2 h
      simp [h, this]
    · have : keyB a ≠ keyB b := fun e => h ((key_inj a b).1 e)
      simp [h, this]
  generalize @decide (Alike a b) (Classical.propDecidable _) = e at k4 k5
  have oa : a.o = .sh := ha.2.1
  have ob : b.o = .sh := hb.2.1
  unfold D.r3_0
  simp only [LoginS.cells, StateS.cells, LinkS.cells, List.cons_append, List.nil_append, oa, ob] at k1 k2 k3 k4 ⊢
  apply regD
  simp only [RS.settle, List.map_cons, List.map_nil, hA, hB, h5, stay_ptr, stay_bool, stay_int, stay_str, stay_sh, settle_cells, List.replicate]
  repeat
    apply runD_cons
    · first
        | (simp [runFun, LMode.isPure, LVal.pfs, LVal.pf, Go.L.initVars, codeW_seq, codeW_region, codeW_regionD, codeW_cond, codeW_ret, codeW_skip, codeW_exit, codeW_block, codeW_fence, thenW, outW, fenceOut, kill, LVal.withins, LVal.within, runOps, runOpsD, Go.L.step, stepD, semD, sem, RS.peek, RS.put, RS.give, RS.take, RS.takes, RS.takeElems, RS.takeParts, RS.peeks, RS.peekO, RS.setVar, RS.noPk, RS.settle, RS.alloc, callOut, LVal.arg, LVal.isAgg, LVal.cells, LVal.unpk, LVal.copy, LVal.down, LVal.plain, LVal.settled, binL, binInt, binStr, unL, resL, resOne, res1, resAll, LVal.isTup, outL, LOp.quiet, LOp.acts, LOp.peeks, LOper.fix, calmOk, loadCalm, awayOk, dstFree, LVal.free, LVal.calm, LVal.calm1, LOp.opds, optL, RS.acquire, appendL, elemsL, bound, inRange, intL, loadL, storeL, setElems, setParts, fitsElem, lenL, isNilL, partL, chunks, k1, k2, k3, k4, k5]; done)
        | (simp [runFun, LMode.isPure, LVal.pfs, LVal.pf, Go.L.initVars, codeW_seq, codeW_region, codeW_regionD, codeW_cond, codeW_ret, codeW_skip, codeW_exit, codeW_block, codeW_fence, thenW, outW, fenceOut, kill, LVal.withins, LVal.within, runOps, runOpsD, Go.L.step, stepD, semD, sem, RS.peek, RS.put, RS.give, RS.take, RS.takes, RS.takeElems, RS.takeParts, RS.peeks, RS.peekO, RS.setVar, RS.noPk, RS.settle, RS.alloc, callOut, LVal.arg, LVal.isAgg, LVal.cells, LVal.unpk, LVal.copy, LVal.down, LVal.plain, LVal.settled, binL, binInt, binStr, unL, resL, resOne, res1, resAll, LVal.isTup, outL, LOp.quiet, LOp.acts, LOp.peeks, LOper.fix, calmOk, loadCalm, awayOk, dstFree, LVal.free, LVal.calm, LVal.calm1, LOp.opds, optL, RS.acquire, appendL, elemsL, bound, inRange, intL, loadL, storeL, setElems, setParts, fitsElem, lenL, isNilL, partL, chunks, k1, k2, k3, k4, k5]; rfl)
  exact runD_nil

theorem fn3 : D.T.fns 3 = some (.fn D.l3) := rfl
set_option maxHeartbeats 8000000 in
theorem setsKeys_eq (a b : StateS) (ha : a.given) (hb : b.given) : callW D.T 3 [.agg a.cells, .agg b.cells] [] = some (.bool true, none) := by
  have oa : a.o = .sh := ha.2.1
  have ob : b.o = .sh := hb.2.1
  have hf := few_eq false [a, b] (by intro s hs; simp at hs; rcases hs with rfl | rfl; exact given_lies ha; exact given_lies hb)
  have e7 : ∀ (n : Nat) (l : List DueS), LVal.withins n (duesL l) = true := fun n l => duesL_within n l
  rw [callW_fn fn3]
  cases hx : fewL [a, b] with
  | false =>
    rw [hx] at hf
    simp only [statesL, List.map_cons, List.map_nil, LoginS.cells, StateS.cells, LinkS.cells, List.cons_append, List.nil_append, oa, ob] at hf ⊢
    simp [D.l3, D.c3, runFun, LMode.isPure, LVal.pfs, LVal.pf, Go.L.initVars, codeW_seq, codeW_region, codeW_regionD, codeW_cond, codeW_ret, codeW_skip, codeW_exit, codeW_block, codeW_fence, thenW, outW, fenceOut, kill, LVal.withins, LVal.within, runOps, runOpsD, Go.L.step, stepD, semD, sem, RS.peek, RS.put, RS.give, RS.take, RS.takes, RS.takeElems, RS.takeParts, RS.peeks, RS.peekO, RS.setVar, RS.noPk, RS.settle, RS.alloc, callOut, LVal.arg, LVal.isAgg, LVal.cells, LVal.unpk, LVal.copy, LVal.down, LVal.plain, LVal.settled, binL, binInt, binStr, unL, resL, resOne, res1, resAll, LVal.isTup, outL, LOp.quiet, LOp.acts, LOp.peeks, LOper.fix, calmOk, loadCalm, awayOk, dstFree, LVal.free, LVal.calm, LVal.calm1, LOp.opds, optL, RS.acquire, appendL, elemsL, bound, inRange, intL, loadL, storeL, setElems, setParts, fitsElem, lenL, isNilL, partL, chunks, awake_eq, hf]
  | true =>
    rw [hx] at hf
    have hfew := (fewL_ok hx).2
    have hr := r3 a b ha hb (hfew a (by simp)) (hfew b (by simp)) (.agg a.cells) (.agg b.cells) (.bool false) false rfl rfl rfl
    simp only [statesL, List.map_cons, List.map_nil, LoginS.cells, StateS.cells, LinkS.cells, List.cons_append, List.nil_append, oa, ob] at hf hr ⊢
    simp [D.l3, D.c3, runFun, LMode.isPure, LVal.pfs, LVal.pf, Go.L.initVars, codeW_seq, codeW_region, codeW_regionD, codeW_cond, codeW_ret, codeW_skip, codeW_exit, codeW_block, codeW_fence, thenW, outW, fenceOut, kill, LVal.withins, LVal.within, runOps, runOpsD, Go.L.step, stepD, semD, sem, RS.peek, RS.put, RS.give, RS.take, RS.takes, RS.takeElems, RS.takeParts, RS.peeks, RS.peekO, RS.setVar, RS.noPk, RS.settle, RS.alloc, callOut, LVal.arg, LVal.isAgg, LVal.cells, LVal.unpk, LVal.copy, LVal.down, LVal.plain, LVal.settled, binL, binInt, binStr, unL, resL, resOne, res1, resAll, LVal.isTup, outL, LOp.quiet, LOp.acts, LOp.peeks, LOper.fix, calmOk, loadCalm, awayOk, dstFree, LVal.free, LVal.calm, LVal.calm1, LOp.opds, optL, RS.acquire, appendL, elemsL, bound, inRange, intL, loadL, storeL, setElems, setParts, fitsElem, lenL, isNilL, partL, chunks, awake_eq, hf, hr]
end Go.Proofs.Ytbljgbojkifoiaa
