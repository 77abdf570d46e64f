/- Sets by the document: one more member, a step. -/
import Derived.Test.YtbljgbojkifoiaaSy20
set_option linter.unusedVariables false
set_option linter.unusedSimpArgs false
namespace Go.Proofs.Ytbljgbojkifoiaa
open Go Go.L

set_option maxHeartbeats 8000000 in
theorem step28a (o0 : Own) (ho : o0 = .sh ∨ ∃ e, o0 = .own 31 e) (l : List StateS) (s x : StateS) (i : Nat) (acc : List StateS) (out v1 v3 v8 v9 v10 v11 v12 : LVal) (done : Bool) (hok : x.ok ∧ x.few) (hs : s.ok ∧ s.few) (hl : l.length ≤ 1000) (hlen : acc.length ≤ 2000)
    (hx : l[i]? = some x) (hi : i < l.length) (heq : keyB x ≠ keyB s) (o3 : v3.isOwn = false) (o8 : v8.isOwn = false) (o9 : v9.isOwn = false) (o10 : v10.isOwn = false) (o11 : v11.isOwn = false) (o12 : v12.isOwn = false) (hacc : Lst out acc)
    (hd : ¬ (done = false ∧ keyB s < keyB x)) :
    ∃ out' o', (o' = .sh ∨ ∃ e, o' = .own 31 e) ∧ Lst out' (acc ++ [x]) ∧ codeW D.T (.loop D.b28_0) (W28 o0 l s v1 v3 out done i v8 v9 v10 v11 v12) = codeW D.T (.loop D.b28_0) (W28 o' l s .undef .undef out' done (i + 1 : Nat) .undef .undef .undef .undef .undef) := by
  have e1 : (i : Int) < (l.length : Int) := by omega
  have e0 : 0 ≤ (i : Int) ∧ (i : Int) < (l.length : Int) := by omega
  have e3 : IntKind.i64.wrap ((i : Int) + 1) = (i : Int) + 1 := wi64 (by omega) (by omega)
  have e5 : (statesL l).length = l.length := statesL_len l
  have e6 : (statesL l)[i]? = some (.agg x.cells) := by rw [statesL_get, hx]; rfl
  have k1 := rkey_eq x hok.1 hok.2
  have lx : x.lies := ⟨hok.1.2.2.2.2.2.2.1, hok.1.2.2.2.2.2.2.2⟩
  have ls : s.lies := ⟨hs.1.2.2.2.2.2.2.1, hs.1.2.2.2.2.2.2.2⟩
  obtain ⟨fx1, fx2, fx3⟩ := fits_state lx
  obtain ⟨fs1, fs2, fs3⟩ := fits_state ls
  have fs4 := cells_own ls
  have fs5 := cells_down ls
  have fx4 := cells_own lx
  have fx5 := cells_down lx
  have hgt : ∀ a b : List UInt8, (!(Op.bytesLess a b || a == b)) = decide (b < a) := gt_str
  have e9 : (statesL acc).length = acc.length := statesL_len acc
  have e10 : LVal.pfs (statesL acc) = true := statesL_pfs acc
  conv => enter [1, out', 1, o', 2, 2, 1]; rw [codeW_loop]
  generalize hK : thenW (codeW D.T (.loop D.b28_0)) = K
  have e8 : LVal.withins 1 s.cells = true := cells_within 1
  have hne' : (keyB x == keyB s) = false := by simpa using heq
  have m1 : 256 ≤ maxBytes := by simp only [maxBytes]; omega
  have m2 : 1 ≤ maxBytes := by simp only [maxBytes]; omega
  have e12 : acc.length + 1 ≤ maxBytes := by simp only [maxBytes]; omega
  have e11 : (acc.length + 1) * 256 ≤ maxBytes := by simp only [maxBytes]; omega
  rcases ho with rfl | ⟨e, rfl⟩
  · cases done with
    | true =>
      rcases lst_cases hacc with ⟨rfl, rfl⟩ | ⟨hne, o, rfl, rfl | rfl⟩
      · refine ⟨_, .sh, .inl rfl, .inr ⟨by simp, .inr rfl⟩, ?_⟩
        simp [D.b28_0, runFun, LMode.isPure, LVal.pfs, LVal.pf, Go.L.initVars, codeW_seq, codeW_region, codeW_regionD, codeW_cond, codeW_ret, codeW_skip, codeW_exit, codeW_block, codeW_fence, thenW, outW, fenceOut, kill, LVal.withins, LVal.within, runOps, runOpsD, Go.L.step, stepD, semD, sem, RS.peek, RS.put, RS.give, RS.take, RS.takes, RS.takeElems, RS.takeParts, RS.peeks, RS.peekO, RS.setVar, RS.noPk, RS.settle, RS.alloc, callOut, LVal.arg, LVal.isAgg, LVal.cells, LVal.unpk, LVal.copy, LVal.down, LVal.settled, binL, binInt, binStr, unL, resL, resOne, res1, resAll, LVal.isTup, outL, LOp.quiet, LOp.acts, LOp.peeks, LOper.fix, calmOk, loadCalm, awayOk, dstFree, LVal.free, LVal.calm, LVal.calm1, LOp.opds, optL, RS.acquire, appendL, elemsL, bound, inRange, intL, loadL, storeL, setElems, setParts, fitsElem, lenL, isNilL, partL, chunks, o3, o8, o9, o10, o11, o12, e0, e1, e3, e5, e6, k1, hne', fx1, fx2, eq_true fx3, e8, m1, m2, e12]
        subst hK
        rfl
      · refine ⟨_, .sh, .inl rfl, .inr ⟨by simp, .inr rfl⟩, ?_⟩
        simp [D.b28_0, runFun, LMode.isPure, LVal.pfs, LVal.pf, Go.L.initVars, codeW_seq, codeW_region, codeW_regionD, codeW_cond, codeW_ret, codeW_skip, codeW_exit, codeW_block, codeW_fence, thenW, outW, fenceOut, kill, LVal.withins, LVal.within, runOps, runOpsD, Go.L.step, stepD, semD, sem, RS.peek, RS.put, RS.give, RS.take, RS.takes, RS.takeElems, RS.takeParts, RS.peeks, RS.peekO, RS.setVar, RS.noPk, RS.settle, RS.alloc, callOut, LVal.arg, LVal.isAgg, LVal.cells, LVal.unpk, LVal.copy, LVal.down, LVal.settled, binL, binInt, binStr, unL, resL, resOne, res1, resAll, LVal.isTup, outL, LOp.quiet, LOp.acts, LOp.peeks, LOper.fix, calmOk, loadCalm, awayOk, dstFree, LVal.free, LVal.calm, LVal.calm1, LOp.opds, optL, RS.acquire, appendL, elemsL, bound, inRange, intL, loadL, storeL, setElems, setParts, fitsElem, lenL, isNilL, partL, chunks, o3, o8, o9, o10, o11, o12, e0, e1, e3, e5, e6, k1, hne', fx1, fx2, eq_true fx3, e8, m1, m2, e12, e9, e10, e11, statesL_append]
        subst hK
        rfl
      · refine ⟨_, .sh, .inl rfl, .inr ⟨by simp, .inr rfl⟩, ?_⟩
        simp [D.b28_0, runFun, LMode.isPure, LVal.pfs, LVal.pf, Go.L.initVars, codeW_seq, codeW_region, codeW_regionD, codeW_cond, codeW_ret, codeW_skip, codeW_exit, codeW_block, codeW_fence, thenW, outW, fenceOut, kill, LVal.withins, LVal.within, runOps, runOpsD, Go.L.step, stepD, semD, sem, RS.peek, RS.put, RS.give, RS.take, RS.takes, RS.takeElems, RS.takeParts, RS.peeks, RS.peekO, RS.setVar, RS.noPk, RS.settle, RS.alloc, callOut, LVal.arg, LVal.isAgg, LVal.cells, LVal.unpk, LVal.copy, LVal.down, LVal.settled, binL, binInt, binStr, unL, resL, resOne, res1, resAll, LVal.isTup, outL, LOp.quiet, LOp.acts, LOp.peeks, LOper.fix, calmOk, loadCalm, awayOk, dstFree, LVal.free, LVal.calm, LVal.calm1, LOp.opds, optL, RS.acquire, appendL, elemsL, bound, inRange, intL, loadL, storeL, setElems, setParts, fitsElem, lenL, isNilL, partL, chunks, o3, o8, o9, o10, o11, o12, e0, e1, e3, e5, e6, k1, hne', fx1, fx2, eq_true fx3, e8, m1, m2, e12, e9, e10, e11, statesL_append]
        subst hK
        rfl
    | false =>
      have hlt : ¬ (keyB s < keyB x) := fun h => hd ⟨rfl, h⟩
      rcases lst_cases hacc with ⟨rfl, rfl⟩ | ⟨hne, o, rfl, rfl | rfl⟩
      · refine ⟨_, .sh, .inl rfl, .inr ⟨by simp, .inr rfl⟩, ?_⟩
        simp [D.b28_0, runFun, LMode.isPure, LVal.pfs, LVal.pf, Go.L.initVars, codeW_seq, codeW_region, codeW_regionD, codeW_cond, codeW_ret, codeW_skip, codeW_exit, codeW_block, codeW_fence, thenW, outW, fenceOut, kill, LVal.withins, LVal.within, runOps, runOpsD, Go.L.step, stepD, semD, sem, RS.peek, RS.put, RS.give, RS.take, RS.takes, RS.takeElems, RS.takeParts, RS.peeks, RS.peekO, RS.setVar, RS.noPk, RS.settle, RS.alloc, callOut, LVal.arg, LVal.isAgg, LVal.cells, LVal.unpk, LVal.copy, LVal.down, LVal.settled, binL, binInt, binStr, unL, resL, resOne, res1, resAll, LVal.isTup, outL, LOp.quiet, LOp.acts, LOp.peeks, LOper.fix, calmOk, loadCalm, awayOk, dstFree, LVal.free, LVal.calm, LVal.calm1, LOp.opds, optL, RS.acquire, appendL, elemsL, bound, inRange, intL, loadL, storeL, setElems, setParts, fitsElem, lenL, isNilL, partL, chunks, o3, o8, o9, o10, o11, o12, e0, e1, e3, e5, e6, k1, hne', fx1, fx2, eq_true fx3, e8, m1, m2, e12, hgt, hlt]
        subst hK
        rfl
      · refine ⟨_, .sh, .inl rfl, .inr ⟨by simp, .inr rfl⟩, ?_⟩
        simp [D.b28_0, runFun, LMode.isPure, LVal.pfs, LVal.pf, Go.L.initVars, codeW_seq, codeW_region, codeW_regionD, codeW_cond, codeW_ret, codeW_skip, codeW_exit, codeW_block, codeW_fence, thenW, outW, fenceOut, kill, LVal.withins, LVal.within, runOps, runOpsD, Go.L.step, stepD, semD, sem, RS.peek, RS.put, RS.give, RS.take, RS.takes, RS.takeElems, RS.takeParts, RS.peeks, RS.peekO, RS.setVar, RS.noPk, RS.settle, RS.alloc, callOut, LVal.arg, LVal.isAgg, LVal.cells, LVal.unpk, LVal.copy, LVal.down, LVal.settled, binL, binInt, binStr, unL, resL, resOne, res1, resAll, LVal.isTup, outL, LOp.quiet, LOp.acts, LOp.peeks, LOper.fix, calmOk, loadCalm, awayOk, dstFree, LVal.free, LVal.calm, LVal.calm1, LOp.opds, optL, RS.acquire, appendL, elemsL, bound, inRange, intL, loadL, storeL, setElems, setParts, fitsElem, lenL, isNilL, partL, chunks, o3, o8, o9, o10, o11, o12, e0, e1, e3, e5, e6, k1, hne', fx1, fx2, eq_true fx3, e8, m1, m2, e12, hgt, hlt, e9, e10, e11, statesL_append]
        subst hK
        rfl
      · refine ⟨_, .sh, .inl rfl, .inr ⟨by simp, .inr rfl⟩, ?_⟩
        simp [D.b28_0, runFun, LMode.isPure, LVal.pfs, LVal.pf, Go.L.initVars, codeW_seq, codeW_region, codeW_regionD, codeW_cond, codeW_ret, codeW_skip, codeW_exit, codeW_block, codeW_fence, thenW, outW, fenceOut, kill, LVal.withins, LVal.within, runOps, runOpsD, Go.L.step, stepD, semD, sem, RS.peek, RS.put, RS.give, RS.take, RS.takes, RS.takeElems, RS.takeParts, RS.peeks, RS.peekO, RS.setVar, RS.noPk, RS.settle, RS.alloc, callOut, LVal.arg, LVal.isAgg, LVal.cells, LVal.unpk, LVal.copy, LVal.down, LVal.settled, binL, binInt, binStr, unL, resL, resOne, res1, resAll, LVal.isTup, outL, LOp.quiet, LOp.acts, LOp.peeks, LOper.fix, calmOk, loadCalm, awayOk, dstFree, LVal.free, LVal.calm, LVal.calm1, LOp.opds, optL, RS.acquire, appendL, elemsL, bound, inRange, intL, loadL, storeL, setElems, setParts, fitsElem, lenL, isNilL, partL, chunks, o3, o8, o9, o10, o11, o12, e0, e1, e3, e5, e6, k1, hne', fx1, fx2, eq_true fx3, e8, m1, m2, e12, hgt, hlt, e9, e10, e11, statesL_append]
        subst hK
        rfl
  · cases done with
    | true =>
      rcases lst_cases hacc with ⟨rfl, rfl⟩ | ⟨hne, o, rfl, rfl | rfl⟩
      · refine ⟨_, .own 31 false, .inr ⟨_, rfl⟩, .inr ⟨by simp, .inr rfl⟩, ?_⟩
        simp [D.b28_0, runFun, LMode.isPure, LVal.pfs, LVal.pf, Go.L.initVars, codeW_seq, codeW_region, codeW_regionD, codeW_cond, codeW_ret, codeW_skip, codeW_exit, codeW_block, codeW_fence, thenW, outW, fenceOut, kill, LVal.withins, LVal.within, runOps, runOpsD, Go.L.step, stepD, semD, sem, RS.peek, RS.put, RS.give, RS.take, RS.takes, RS.takeElems, RS.takeParts, RS.peeks, RS.peekO, RS.setVar, RS.noPk, RS.settle, RS.alloc, callOut, LVal.arg, LVal.isAgg, LVal.cells, LVal.unpk, LVal.copy, LVal.down, LVal.settled, binL, binInt, binStr, unL, resL, resOne, res1, resAll, LVal.isTup, outL, LOp.quiet, LOp.acts, LOp.peeks, LOper.fix, calmOk, loadCalm, awayOk, dstFree, LVal.free, LVal.calm, LVal.calm1, LOp.opds, optL, RS.acquire, appendL, elemsL, bound, inRange, intL, loadL, storeL, setElems, setParts, fitsElem, lenL, isNilL, partL, chunks, o3, o8, o9, o10, o11, o12, e0, e1, e3, e5, e6, k1, hne', fx1, fx2, eq_true fx3, e8, m1, m2, e12]
        subst hK
        rfl
      · refine ⟨_, .own 31 false, .inr ⟨_, rfl⟩, .inr ⟨by simp, .inr rfl⟩, ?_⟩
        simp [D.b28_0, runFun, LMode.isPure, LVal.pfs, LVal.pf, Go.L.initVars, codeW_seq, codeW_region, codeW_regionD, codeW_cond, codeW_ret, codeW_skip, codeW_exit, codeW_block, codeW_fence, thenW, outW, fenceOut, kill, LVal.withins, LVal.within, runOps, runOpsD, Go.L.step, stepD, semD, sem, RS.peek, RS.put, RS.give, RS.take, RS.takes, RS.takeElems, RS.takeParts, RS.peeks, RS.peekO, RS.setVar, RS.noPk, RS.settle, RS.alloc, callOut, LVal.arg, LVal.isAgg, LVal.cells, LVal.unpk, LVal.copy, LVal.down, LVal.settled, binL, binInt, binStr, unL, resL, resOne, res1, resAll, LVal.isTup, outL, LOp.quiet, LOp.acts, LOp.peeks, LOper.fix, calmOk, loadCalm, awayOk, dstFree, LVal.free, LVal.calm, LVal.calm1, LOp.opds, optL, RS.acquire, appendL, elemsL, bound, inRange, intL, loadL, storeL, setElems, setParts, fitsElem, lenL, isNilL, partL, chunks, o3, o8, o9, o10, o11, o12, e0, e1, e3, e5, e6, k1, hne', fx1, fx2, eq_true fx3, e8, m1, m2, e12, e9, e10, e11, statesL_append]
        subst hK
        rfl
      · refine ⟨_, .own 31 false, .inr ⟨_, rfl⟩, .inr ⟨by simp, .inr rfl⟩, ?_⟩
        simp [D.b28_0, runFun, LMode.isPure, LVal.pfs, LVal.pf, Go.L.initVars, codeW_seq, codeW_region, codeW_regionD, codeW_cond, codeW_ret, codeW_skip, codeW_exit, codeW_block, codeW_fence, thenW, outW, fenceOut, kill, LVal.withins, LVal.within, runOps, runOpsD, Go.L.step, stepD, semD, sem, RS.peek, RS.put, RS.give, RS.take, RS.takes, RS.takeElems, RS.takeParts, RS.peeks, RS.peekO, RS.setVar, RS.noPk, RS.settle, RS.alloc, callOut, LVal.arg, LVal.isAgg, LVal.cells, LVal.unpk, LVal.copy, LVal.down, LVal.settled, binL, binInt, binStr, unL, resL, resOne, res1, resAll, LVal.isTup, outL, LOp.quiet, LOp.acts, LOp.peeks, LOper.fix, calmOk, loadCalm, awayOk, dstFree, LVal.free, LVal.calm, LVal.calm1, LOp.opds, optL, RS.acquire, appendL, elemsL, bound, inRange, intL, loadL, storeL, setElems, setParts, fitsElem, lenL, isNilL, partL, chunks, o3, o8, o9, o10, o11, o12, e0, e1, e3, e5, e6, k1, hne', fx1, fx2, eq_true fx3, e8, m1, m2, e12, e9, e10, e11, statesL_append]
        subst hK
        rfl
    | false =>
      have hlt : ¬ (keyB s < keyB x) := fun h => hd ⟨rfl, h⟩
      rcases lst_cases hacc with ⟨rfl, rfl⟩ | ⟨hne, o, rfl, rfl | rfl⟩
      · refine ⟨_, .own 31 false, .inr ⟨_, rfl⟩, .inr ⟨by simp, .inr rfl⟩, ?_⟩
        simp [D.b28_0, runFun, LMode.isPure, LVal.pfs, LVal.pf, Go.L.initVars, codeW_seq, codeW_region, codeW_regionD, codeW_cond, codeW_ret, codeW_skip, codeW_exit, codeW_block, codeW_fence, thenW, outW, fenceOut, kill, LVal.withins, LVal.within, runOps, runOpsD, Go.L.step, stepD, semD, sem, RS.peek, RS.put, RS.give, RS.take, RS.takes, RS.takeElems, RS.takeParts, RS.peeks, RS.peekO, RS.setVar, RS.noPk, RS.settle, RS.alloc, callOut, LVal.arg, LVal.isAgg, LVal.cells, LVal.unpk, LVal.copy, LVal.down, LVal.settled, binL, binInt, binStr, unL, resL, resOne, res1, resAll, LVal.isTup, outL, LOp.quiet, LOp.acts, LOp.peeks, LOper.fix, calmOk, loadCalm, awayOk, dstFree, LVal.free, LVal.calm, LVal.calm1, LOp.opds, optL, RS.acquire, appendL, elemsL, bound, inRange, intL, loadL, storeL, setElems, setParts, fitsElem, lenL, isNilL, partL, chunks, o3, o8, o9, o10, o11, o12, e0, e1, e3, e5, e6, k1, hne', fx1, fx2, eq_true fx3, e8, m1, m2, e12, hgt, hlt]
        subst hK
        rfl
      · refine ⟨_, .own 31 false, .inr ⟨_, rfl⟩, .inr ⟨by simp, .inr rfl⟩, ?_⟩
        simp [D.b28_0, runFun, LMode.isPure, LVal.pfs, LVal.pf, Go.L.initVars, codeW_seq, codeW_region, codeW_regionD, codeW_cond, codeW_ret, codeW_skip, codeW_exit, codeW_block, codeW_fence, thenW, outW, fenceOut, kill, LVal.withins, LVal.within, runOps, runOpsD, Go.L.step, stepD, semD, sem, RS.peek, RS.put, RS.give, RS.take, RS.takes, RS.takeElems, RS.takeParts, RS.peeks, RS.peekO, RS.setVar, RS.noPk, RS.settle, RS.alloc, callOut, LVal.arg, LVal.isAgg, LVal.cells, LVal.unpk, LVal.copy, LVal.down, LVal.settled, binL, binInt, binStr, unL, resL, resOne, res1, resAll, LVal.isTup, outL, LOp.quiet, LOp.acts, LOp.peeks, LOper.fix, calmOk, loadCalm, awayOk, dstFree, LVal.free, LVal.calm, LVal.calm1, LOp.opds, optL, RS.acquire, appendL, elemsL, bound, inRange, intL, loadL, storeL, setElems, setParts, fitsElem, lenL, isNilL, partL, chunks, o3, o8, o9, o10, o11, o12, e0, e1, e3, e5, e6, k1, hne', fx1, fx2, eq_true fx3, e8, m1, m2, e12, hgt, hlt, e9, e10, e11, statesL_append]
        subst hK
        rfl
      · refine ⟨_, .own 31 false, .inr ⟨_, rfl⟩, .inr ⟨by simp, .inr rfl⟩, ?_⟩
        simp [D.b28_0, runFun, LMode.isPure, LVal.pfs, LVal.pf, Go.L.initVars, codeW_seq, codeW_region, codeW_regionD, codeW_cond, codeW_ret, codeW_skip, codeW_exit, codeW_block, codeW_fence, thenW, outW, fenceOut, kill, LVal.withins, LVal.within, runOps, runOpsD, Go.L.step, stepD, semD, sem, RS.peek, RS.put, RS.give, RS.take, RS.takes, RS.takeElems, RS.takeParts, RS.peeks, RS.peekO, RS.setVar, RS.noPk, RS.settle, RS.alloc, callOut, LVal.arg, LVal.isAgg, LVal.cells, LVal.unpk, LVal.copy, LVal.down, LVal.settled, binL, binInt, binStr, unL, resL, resOne, res1, resAll, LVal.isTup, outL, LOp.quiet, LOp.acts, LOp.peeks, LOper.fix, calmOk, loadCalm, awayOk, dstFree, LVal.free, LVal.calm, LVal.calm1, LOp.opds, optL, RS.acquire, appendL, elemsL, bound, inRange, intL, loadL, storeL, setElems, setParts, fitsElem, lenL, isNilL, partL, chunks, o3, o8, o9, o10, o11, o12, e0, e1, e3, e5, e6, k1, hne', fx1, fx2, eq_true fx3, e8, m1, m2, e12, hgt, hlt, e9, e10, e11, statesL_append]
        subst hK
        rfl
end Go.Proofs.Ytbljgbojkifoiaa
