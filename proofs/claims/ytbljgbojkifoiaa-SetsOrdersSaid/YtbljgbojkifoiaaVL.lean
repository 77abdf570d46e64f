/- SetsOf: what the law answers. -/
import Derived.Test.YtbljgbojkifoiaaVK
import Derived.Test.YtbljgbojkifoiaaVF
set_option linter.unusedVariables false
set_option linter.unusedSimpArgs false
namespace Go.Proofs.Ytbljgbojkifoiaa
open Go Go.L

theorem fn4 : D.T.fns 4 = some (.fn D.l4) := rfl
theorem stay_full (n : Bool) (m : Nat) (l : List LVal) : LVal.stay (.vs n .full m l) = .vs n .full m l := rfl

set_option maxHeartbeats 8000000 in
theorem setsOf_eq (b : Bool) (l : List StateS) (hl : ∀ s ∈ l, s.given) : callW D.T 4 [.vs b .sh 31 (statesL l)] [] = some (.bool true, none) := by
  have hn : l = [] ∨ 31 = 31 := .inr rfl
  have hf := few_eq b l (fun s hs => given_lies (hl s hs))
  have e7 : ∀ l : List StateS, LVal.pfs (statesL l) = true := statesL_pfs
  rw [callW_fn fn4]
  cases hx : fewL l with
  | false =>
    rw [hx] at hf
    simp [D.l4, D.c4, runFun, LMode.isPure, LVal.pfs, LVal.pf, Go.L.initVars, codeW_seq, codeW_region, codeW_regionD, codeW_cond, codeW_ret, codeW_skip, codeW_exit, codeW_block, codeW_fence, thenW, outW, fenceOut, kill, LVal.withins, LVal.within, runOps, runOpsD, Go.L.step, stepD, semD, sem, RS.peek, RS.put, RS.give, RS.take, RS.takes, RS.takeElems, RS.takeParts, RS.peeks, RS.peekO, RS.setVar, RS.noPk, RS.settle, RS.alloc, callOut, LVal.arg, LVal.isAgg, LVal.cells, LVal.unpk, LVal.copy, LVal.down, LVal.plain, LVal.settled, binL, binInt, binStr, unL, resL, resOne, res1, resAll, LVal.isTup, outL, LOp.quiet, LOp.acts, LOp.peeks, LOper.fix, calmOk, loadCalm, awayOk, dstFree, LVal.free, LVal.calm, LVal.calm1, LOp.opds, optL, RS.acquire, appendL, elemsL, bound, inRange, intL, loadL, storeL, setElems, setParts, fitsElem, lenL, isNilL, partL, chunks, awake_eq, hf, e7]
  | true =>
    rw [hx] at hf
    obtain ⟨hlen, hfew⟩ := fewL_ok hx
    have hok : ∀ s ∈ l, s.ok ∧ s.few := fun s hs => ⟨(hl s hs).1, hfew s hs⟩
    obtain ⟨v, k15, hS⟩ := of_eq (b := b) (n := 31) hn hok (by omega)
    obtain ⟨u, k13, hU⟩ := rof_eq (b := b) (n := 31) hn hok (by omega)
    obtain ⟨q1, q2, q3⟩ := setsOf_law l
    have ok1 : ∀ s ∈ setS l, s.ok ∧ s.few := fun s hs => hok s (setS_mem hs)
    have ok2 : ∀ s ∈ ofS l, s.ok ∧ s.few := fun s hs => hok s (ofS_mem hs)
    have n1 := setS_len l
    have n2 := ofS_len l
    have k16 := is_eq (b0 := b) (n0 := 31) hn hok (by omega)
    obtain ⟨bu, nu, hu, hnu⟩ : ∃ bu nu, (u = .vs bu .sh nu (statesL (ofS l)) ∨ u = .vs bu .full nu (statesL (ofS l))) ∧ (ofS l = [] ∨ nu = 31) := by
      rcases hU with ⟨h1, rfl⟩ | ⟨h1, o, rfl, rfl | rfl⟩
      · exact ⟨true, 0, .inl (by rw [h1]; rfl), .inl h1⟩
      · exact ⟨false, 31, .inl rfl, .inr rfl⟩
      · exact ⟨false, 31, .inr rfl, .inr rfl⟩
    obtain ⟨bv, nv, hv, hnv⟩ : ∃ bv nv, (v = .vs bv .sh nv (statesL (setS l)) ∨ v = .vs bv .full nv (statesL (setS l))) ∧ (setS l = [] ∨ nv = 31) := by
      rcases hS with ⟨h1, rfl⟩ | ⟨h1, o, rfl, rfl | rfl⟩
      · exact ⟨true, 0, .inl (by rw [h1]; rfl), .inl h1⟩
      · exact ⟨false, 31, .inl rfl, .inr rfl⟩
      · exact ⟨false, 31, .inr rfl, .inr rfl⟩
    have k14a := rsame_eq (b0 := bv) (b1 := bu) hnv hnu ok1 ok2 (by omega) (by omega)
    have k14b := rsame_eq (b0 := b) (n0 := 31) (b1 := bu) hn hnu hok ok2 (by omega) (by omega)
    have k16b := is_eq (b0 := bu) hnu ok2 (by omega)
    rw [q1] at k14a
    rw [q3] at k16b
    rw [q2] at k16
    have hr : ∀ v3 : LVal, v3.stay = v3 → codeW D.T D.r4_0 { vars := [.vs b .sh 31 (statesL l), .bool false, u, v3], st := [], rs := [] } = some (.normal, { vars := [.vs b .sh 31 (statesL l), .bool true, u, v3], st := [], rs := [] }) := by
      intro v3 h3
      unfold D.r4_0
      rcases hu with rfl | rfl <;> rcases hv with rfl | rfl
      all_goals
        apply regN
        simp only [List.replicate]
        repeat
          apply run_cons
          · first
              | (simp [runFun, LMode.isPure, LVal.pfs, LVal.pf, Go.L.initVars, codeW_seq, codeW_region, codeW_regionD, codeW_cond, codeW_ret, codeW_skip, codeW_exit, codeW_block, codeW_fence, thenW, outW, fenceOut, kill, LVal.withins, LVal.within, runOps, runOpsD, Go.L.step, stepD, semD, sem, RS.peek, RS.put, RS.give, RS.take, RS.takes, RS.takeElems, RS.takeParts, RS.peeks, RS.peekO, RS.setVar, RS.noPk, RS.settle, RS.alloc, callOut, LVal.arg, LVal.isAgg, LVal.cells, LVal.unpk, LVal.copy, LVal.down, LVal.plain, LVal.settled, binL, binInt, binStr, unL, resL, resOne, res1, resAll, LVal.isTup, outL, LOp.quiet, LOp.acts, LOp.peeks, LOper.fix, calmOk, loadCalm, awayOk, dstFree, LVal.free, LVal.calm, LVal.calm1, LOp.opds, optL, RS.acquire, appendL, elemsL, bound, inRange, intL, loadL, storeL, setElems, setParts, fitsElem, lenL, isNilL, partL, chunks, k15, k14a, k14b, k16, k16b, e7, h3]; done)
              | (simp [runFun, LMode.isPure, LVal.pfs, LVal.pf, Go.L.initVars, codeW_seq, codeW_region, codeW_regionD, codeW_cond, codeW_ret, codeW_skip, codeW_exit, codeW_block, codeW_fence, thenW, outW, fenceOut, kill, LVal.withins, LVal.within, runOps, runOpsD, Go.L.step, stepD, semD, sem, RS.peek, RS.put, RS.give, RS.take, RS.takes, RS.takeElems, RS.takeParts, RS.peeks, RS.peekO, RS.setVar, RS.noPk, RS.settle, RS.alloc, callOut, LVal.arg, LVal.isAgg, LVal.cells, LVal.unpk, LVal.copy, LVal.down, LVal.plain, LVal.settled, binL, binInt, binStr, unL, resL, resOne, res1, resAll, LVal.isTup, outL, LOp.quiet, LOp.acts, LOp.peeks, LOper.fix, calmOk, loadCalm, awayOk, dstFree, LVal.free, LVal.calm, LVal.calm1, LOp.opds, optL, RS.acquire, appendL, elemsL, bound, inRange, intL, loadL, storeL, setElems, setParts, fitsElem, lenL, isNilL, partL, chunks, k15, k14a, k14b, k16, k16b, e7, h3]; rfl)
        exact run_nil
    rcases hu with rfl | rfl
    all_goals
      have h4 := hr (.bool false) rfl
      simp [D.l4, D.c4, runFun, LMode.isPure, LVal.pfs, LVal.pf, Go.L.initVars, codeW_seq, codeW_region, codeW_regionD, codeW_cond, codeW_ret, codeW_skip, codeW_exit, codeW_block, codeW_fence, thenW, outW, fenceOut, kill, LVal.withins, LVal.within, runOps, runOpsD, Go.L.step, stepD, semD, sem, RS.peek, RS.put, RS.give, RS.take, RS.takes, RS.takeElems, RS.takeParts, RS.peeks, RS.peekO, RS.setVar, RS.noPk, RS.settle, RS.alloc, callOut, LVal.arg, LVal.isAgg, LVal.cells, LVal.unpk, LVal.copy, LVal.down, LVal.plain, LVal.settled, binL, binInt, binStr, unL, resL, resOne, res1, resAll, LVal.isTup, outL, LOp.quiet, LOp.acts, LOp.peeks, LOper.fix, calmOk, loadCalm, awayOk, dstFree, LVal.free, LVal.calm, LVal.calm1, LOp.opds, optL, RS.acquire, appendL, elemsL, bound, inRange, intL, loadL, storeL, setElems, setParts, fitsElem, lenL, isNilL, partL, chunks, awake_eq, hf, e7, k13]
      rw [h4]
      simp [runFun, LMode.isPure, LVal.pfs, LVal.pf, Go.L.initVars, codeW_seq, codeW_region, codeW_regionD, codeW_cond, codeW_ret, codeW_skip, codeW_exit, codeW_block, codeW_fence, thenW, outW, fenceOut, kill, LVal.withins, LVal.within, runOps, runOpsD, Go.L.step, stepD, semD, sem, RS.peek, RS.put, RS.give, RS.take, RS.takes, RS.takeElems, RS.takeParts, RS.peeks, RS.peekO, RS.setVar, RS.noPk, RS.settle, RS.alloc, callOut, LVal.arg, LVal.isAgg, LVal.cells, LVal.unpk, LVal.copy, LVal.down, LVal.plain, LVal.settled, binL, binInt, binStr, unL, resL, resOne, res1, resAll, LVal.isTup, outL, LOp.quiet, LOp.acts, LOp.peeks, LOper.fix, calmOk, loadCalm, awayOk, dstFree, LVal.free, LVal.calm, LVal.calm1, LOp.opds, optL, RS.acquire, appendL, elemsL, bound, inRange, intL, loadL, storeL, setElems, setParts, fitsElem, lenL, isNilL, partL, chunks]
end Go.Proofs.Ytbljgbojkifoiaa
