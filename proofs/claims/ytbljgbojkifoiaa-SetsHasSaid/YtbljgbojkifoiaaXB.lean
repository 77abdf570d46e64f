/- SetsHas: what the law answers. -/
import Derived.Test.YtbljgbojkifoiaaXA
set_option linter.unusedVariables false
set_option linter.unusedSimpArgs false
namespace Go.Proofs.Ytbljgbojkifoiaa
open Go Go.L

set_option maxHeartbeats 40000000 in
theorem setsHas_eq (b0 b1 : Bool) (l m : List StateS) (s : StateS) (hl : ∀ s ∈ l, s.given) (hm : ∀ s ∈ m, s.given) (hs : s.given) : callW D.T 5 [.vs b0 .sh 31 (statesL l), .vs b1 .sh 31 (statesL m), .agg s.cells] [] = some (.bool true, none) := by
  have h5a := r5a b0 b1 l m s hl hm hs
  have e7 : ∀ l : List StateS, LVal.pfs (statesL l) = true := statesL_pfs
  have e7' : ∀ (n : Nat) (l : List StateS), LVal.withins n (statesL l) = true := fun n l => statesL_within n l
  have e8 : ∀ (n : Nat) (s : StateS), LVal.withins n s.cells = true := fun n s => cells_within n
  have ls := given_lies hs
  obtain ⟨fs1, fs2, fs3⟩ := fits_state ls
  have fs4 := cells_own ls
  have fs5 := cells_down ls
  have fs6 := cells_stay ls
  have fs7 := cells_settled ls
  have fs8 : ∀ x_1, x_1 ∈ s.cells → x_1.plain = true ∨ x_1.isOwn = true := fun _ h => .inl (fs3 _ h)
  have ft : List.take 31 s.cells = s.cells := rfl
  rw [callW_fn fn5]
  by_cases hx : (fewL l && fewL m && fewL [s]) = true
  · rw [hx] at h5a
    simp only [Bool.and_eq_true] at hx
    obtain ⟨⟨hx1, hx2⟩, hx3⟩ := hx
    obtain ⟨nl, fl⟩ := fewL_ok hx1
    obtain ⟨nm, fm⟩ := fewL_ok hx2
    obtain ⟨-, fs⟩ := fewL_ok hx3
    have okl : ∀ x ∈ l, x.ok ∧ x.few := fun x h => ⟨(hl x h).1, fl x h⟩
    have okm : ∀ x ∈ m, x.ok ∧ x.few := fun x h => ⟨(hm x h).1, fm x h⟩
    have oks : s.ok ∧ s.few := ⟨hs.1, fs s (by simp)⟩
    have n1 := ofS_len l
    have n2 := ofS_len m
    obtain ⟨u, k13, hU⟩ := rof_eq (b := b0) (n := 31) (.inr rfl) okl (by omega)
    obtain ⟨w, k13', hW⟩ := rof_eq (b := b1) (n := 31) (.inr rfl) okm (by omega)
    obtain ⟨b5, n5, h5, k5⟩ := hd_of hU
    obtain ⟨b6, n6, h6, k6⟩ := hd_of hW
    obtain ⟨v, k17, hV⟩ := join_eq (b0 := b5) (b1 := b6) k5 k6 (fun x h => okl x (ofS_mem h)) (fun x h => okm x (ofS_mem h)) (by omega) (by omega)
    obtain ⟨b7, n7, h7, k7⟩ := hd_of hV
    have hb := r5b b0 b1 l m s okl okm oks nl nm b5 n5 b6 n6 b7 n7 u w v h5 k5 h6 h7 k7
    clear hU hW hV n1 n2 nl nm
    rcases h5 with rfl | rfl <;> rcases h6 with rfl | rfl <;> rcases h7 with rfl | rfl
    all_goals
      simp [D.l5, D.c5, runFun, LMode.isPure, LVal.pfs, LVal.pf, Go.L.initVars, codeW_seq, codeW_region, codeW_regionD, codeW_cond, codeW_ret, codeW_skip, codeW_exit, codeW_block, codeW_fence, thenW, outW, fenceOut, kill, LVal.withins, LVal.within, runOps, runOpsD, Go.L.step, stepD, semD, sem, RS.peek, RS.put, RS.give, RS.take, RS.takes, RS.takeElems, RS.takeParts, RS.peeks, RS.peekO, RS.setVar, RS.noPk, RS.settle, RS.alloc, callOut, LVal.arg, LVal.isAgg, LVal.cells, LVal.unpk, LVal.copy, LVal.down, binL, binInt, binStr, unL, resL, resOne, res1, resAll, LVal.isTup, outL, LOp.quiet, LOp.acts, LOp.peeks, LOper.fix, calmOk, loadCalm, awayOk, dstFree, LVal.free, LVal.calm, LVal.calm1, LOp.opds, optL, RS.acquire, appendL, elemsL, bound, inRange, intL, loadL, storeL, setElems, setParts, fitsElem, lenL, isNilL, partL, chunks, e7, e7', e8, fs1, fs2, eq_true fs3, eq_true fs7, eq_true fs8, fs4, fs5, fs6, ft]
      rw [h5a]
      simp [runFun, LMode.isPure, LVal.pfs, LVal.pf, Go.L.initVars, codeW_seq, codeW_region, codeW_regionD, codeW_cond, codeW_ret, codeW_skip, codeW_exit, codeW_block, codeW_fence, thenW, outW, fenceOut, kill, LVal.withins, LVal.within, runOps, runOpsD, Go.L.step, stepD, semD, sem, RS.peek, RS.put, RS.give, RS.take, RS.takes, RS.takeElems, RS.takeParts, RS.peeks, RS.peekO, RS.setVar, RS.noPk, RS.settle, RS.alloc, callOut, LVal.arg, LVal.isAgg, LVal.cells, LVal.unpk, LVal.copy, LVal.down, binL, binInt, binStr, unL, resL, resOne, res1, resAll, LVal.isTup, outL, LOp.quiet, LOp.acts, LOp.peeks, LOper.fix, calmOk, loadCalm, awayOk, dstFree, LVal.free, LVal.calm, LVal.calm1, LOp.opds, optL, RS.acquire, appendL, elemsL, bound, inRange, intL, loadL, storeL, setElems, setParts, fitsElem, lenL, isNilL, partL, chunks, awake_eq, e7, e7', e8, fs1, fs2, eq_true fs3, eq_true fs7, eq_true fs8, fs4, fs5, fs6, ft, k13, k13', k17]
      rw [hb]
      simp [runFun, LMode.isPure, LVal.pfs, LVal.pf, Go.L.initVars, codeW_seq, codeW_region, codeW_regionD, codeW_cond, codeW_ret, codeW_skip, codeW_exit, codeW_block, codeW_fence, thenW, outW, fenceOut, kill, LVal.withins, LVal.within, runOps, runOpsD, Go.L.step, stepD, semD, sem, RS.peek, RS.put, RS.give, RS.take, RS.takes, RS.takeElems, RS.takeParts, RS.peeks, RS.peekO, RS.setVar, RS.noPk, RS.settle, RS.alloc, callOut, LVal.arg, LVal.isAgg, LVal.cells, LVal.unpk, LVal.copy, LVal.down, binL, binInt, binStr, unL, resL, resOne, res1, resAll, LVal.isTup, outL, LOp.quiet, LOp.acts, LOp.peeks, LOper.fix, calmOk, loadCalm, awayOk, dstFree, LVal.free, LVal.calm, LVal.calm1, LOp.opds, optL, RS.acquire, appendL, elemsL, bound, inRange, intL, loadL, storeL, setElems, setParts, fitsElem, lenL, isNilL, partL, chunks, e7, e7', e8, fs1, fs2, eq_true fs3, eq_true fs7, eq_true fs8, fs4, fs5, fs6, ft]
  · have hx' : (fewL l && fewL m && fewL [s]) = false := by simpa using hx
    rw [hx'] at h5a
    simp [D.l5, D.c5, runFun, LMode.isPure, LVal.pfs, LVal.pf, Go.L.initVars, codeW_seq, codeW_region, codeW_regionD, codeW_cond, codeW_ret, codeW_skip, codeW_exit, codeW_block, codeW_fence, thenW, outW, fenceOut, kill, LVal.withins, LVal.within, runOps, runOpsD, Go.L.step, stepD, semD, sem, RS.peek, RS.put, RS.give, RS.take, RS.takes, RS.takeElems, RS.takeParts, RS.peeks, RS.peekO, RS.setVar, RS.noPk, RS.settle, RS.alloc, callOut, LVal.arg, LVal.isAgg, LVal.cells, LVal.unpk, LVal.copy, LVal.down, binL, binInt, binStr, unL, resL, resOne, res1, resAll, LVal.isTup, outL, LOp.quiet, LOp.acts, LOp.peeks, LOper.fix, calmOk, loadCalm, awayOk, dstFree, LVal.free, LVal.calm, LVal.calm1, LOp.opds, optL, RS.acquire, appendL, elemsL, bound, inRange, intL, loadL, storeL, setElems, setParts, fitsElem, lenL, isNilL, partL, chunks, e7, e7', e8, fs1, fs2, eq_true fs3, eq_true fs7, eq_true fs8, fs4, fs5, fs6, ft]
    rw [h5a]
    simp [runFun, LMode.isPure, LVal.pfs, LVal.pf, Go.L.initVars, codeW_seq, codeW_region, codeW_regionD, codeW_cond, codeW_ret, codeW_skip, codeW_exit, codeW_block, codeW_fence, thenW, outW, fenceOut, kill, LVal.withins, LVal.within, runOps, runOpsD, Go.L.step, stepD, semD, sem, RS.peek, RS.put, RS.give, RS.take, RS.takes, RS.takeElems, RS.takeParts, RS.peeks, RS.peekO, RS.setVar, RS.noPk, RS.settle, RS.alloc, callOut, LVal.arg, LVal.isAgg, LVal.cells, LVal.unpk, LVal.copy, LVal.down, binL, binInt, binStr, unL, resL, resOne, res1, resAll, LVal.isTup, outL, LOp.quiet, LOp.acts, LOp.peeks, LOper.fix, calmOk, loadCalm, awayOk, dstFree, LVal.free, LVal.calm, LVal.calm1, LOp.opds, optL, RS.acquire, appendL, elemsL, bound, inRange, intL, loadL, storeL, setElems, setParts, fitsElem, lenL, isNilL, partL, chunks, awake_eq, e7, e7', e8, fs1, fs2, eq_true fs3, eq_true fs7, eq_true fs8, fs4, fs5, fs6, ft]
end Go.Proofs.Ytbljgbojkifoiaa
