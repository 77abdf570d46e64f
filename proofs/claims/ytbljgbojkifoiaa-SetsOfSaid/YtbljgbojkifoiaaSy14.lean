/- Few endpoints? Whole. -/
import Derived.Test.YtbljgbojkifoiaaSy13
set_option linter.unusedVariables false
set_option linter.unusedSimpArgs false
namespace Go.Proofs.Ytbljgbojkifoiaa
open Go Go.L

theorem statesL_len (l : List StateS) : (statesL l).length = l.length := by simp [statesL]
theorem statesL_get (l : List StateS) (i : Nat) : (statesL l)[i]? = (l[i]?).map fun d => .agg d.cells := by simp [statesL]
theorem cells_within {s : StateS} (n : Nat) : LVal.withins n s.cells = true := by
  have := duesL_within n s.due
  simp only [StateS.cells, LinkS.cells, LoginS.cells, List.cons_append, List.nil_append]
  rfl
theorem statesL_within (n : Nat) : ∀ (l : List StateS), LVal.withins n (statesL l) = true
  | [] => rfl
  | d :: l => by
    have := statesL_within n l
    have h2 := cells_within (s := d) n
    simp only [statesL, List.map_cons, LVal.withins, LVal.within] at this ⊢
    rw [this, h2]; rfl

set_option maxHeartbeats 4000000 in
theorem loop9in (x : LVal) (hx : x.isOwn = false) (hxw : x.within 1 = true) (s : StateS) (so : s.o = .sh ∨ s.o = .full) (sm : s.due ≠ [] → s.m = 4) (hl : s.due.length ≤ 20) (iz : Int) : ∀ (j k : Nat) (z : Int) (v1 v5 v6 v7 v8 : LVal), v1.isOwn = false → v7.isOwn = false → v8.isOwn = false → z = k → k + j = s.due.length →
    ∃ w : Nat → LVal, codeW D.T (.loop D.b9_1) { vars := [x, v1, .int .i64 iz, .ptr 0 0, .int .i64 z, v5, v6, v7, v8], st := [.cells 31 s.cells], rs := [] } =
      some (if (s.due.drop k).all (fun d => decide (d.data.length ≤ 500)) then (.exit 2, { vars := [x, w 1, .int .i64 iz, .ptr 0 0, w 4, w 5, w 6, w 7, w 8], st := [.cells 31 s.cells], rs := [] })
        else (.ret, { vars := [x, .bool false, .int .i64 iz, .ptr 0 0, w 4, w 5, w 6, w 7, w 8], st := [.cells 31 s.cells], rs := [] }))
  | 0, k, z, v1, v5, v6, v7, v8, o1, o7, o8, hz, hij => by
    subst hz
    have hi : k = s.due.length := by omega
    subst hi
    have e5 : (duesL s.due).length = s.due.length := duesL_len s.due
    refine ⟨fun j => [x, v1, .undef, .undef, .int .i64 s.due.length, v5, v6, .bool false, v8].getD j .undef, ?_⟩
    rw [List.drop_length, codeW_loop]
    simp only [StateS.cells, LinkS.cells, LoginS.cells, List.cons_append, List.nil_append]
    rcases so with so | so <;> simp [so, D.b9_1, runFun, LMode.isPure, LVal.pfs, LVal.pf, Go.L.initVars, codeW_seq, codeW_region, codeW_regionD, codeW_cond, codeW_ret, codeW_skip, codeW_exit, codeW_block, codeW_fence, thenW, outW, fenceOut, kill, LVal.withins, LVal.within, runOps, runOpsD, Go.L.step, stepD, semD, sem, RS.peek, RS.put, RS.give, RS.take, RS.takes, RS.takeElems, RS.takeParts, RS.peeks, RS.peekO, RS.setVar, RS.noPk, RS.settle, RS.alloc, callOut, LVal.arg, LVal.isAgg, LVal.cells, LVal.unpk, LVal.copy, LVal.down, LVal.plain, LVal.settled, binL, binInt, binStr, unL, resL, resOne, res1, resAll, LVal.isTup, outL, LOp.quiet, LOp.acts, LOp.peeks, LOper.fix, calmOk, loadCalm, awayOk, dstFree, LVal.free, LVal.calm, LVal.calm1, LOp.opds, optL, RS.acquire, appendL, elemsL, bound, inRange, intL, loadL, storeL, setElems, setParts, fitsElem, lenL, isNilL, partL, chunks, o7, e5]
  | j + 1, k, z, v1, v5, v6, v7, v8, o1, o7, o8, hz, hij => by
    subst hz
    have hi : k < s.due.length := by omega
    obtain ⟨d, hd⟩ : ∃ d, s.due[k]? = some d := ⟨_, List.getElem?_eq_getElem hi⟩
    have hdrop : s.due.drop k = d :: s.due.drop (k + 1) := by
      rw [List.drop_eq_getElem_cons hi]
      rw [List.getElem?_eq_getElem hi] at hd; injection hd with hd; rw [hd]
    have e1 : (k : Int) < (s.due.length : Int) := by omega
    have e0 : 0 ≤ (k : Int) ∧ (k : Int) < (s.due.length : Int) := by omega
    have e3 : IntKind.i64.wrap ((k : Int) + 1) = (k : Int) + 1 := wi64 (by omega) (by omega)
    have e5 : (duesL s.due).length = s.due.length := duesL_len s.due
    have e6 : (duesL s.due)[k]? = some (.agg d.cells) := by rw [duesL_get, hd]; rfl
    have e7 : ∀ n, LVal.withins n (duesL s.due) = true := fun n => duesL_within n s.due
    have hm4 : s.m = 4 := sm (fun e => by rw [e] at hi; simp at hi)
    simp only [DueS.cells] at e6
    rw [codeW_loop]
    generalize hK : thenW (codeW D.T (.loop D.b9_1)) = K
    by_cases hg : d.data.length ≤ 500
    · have g1 : ¬ (d.data.length : Int) > 500 := by omega
      obtain ⟨w, c1⟩ := loop9in x hx hxw s so sm hl iz j (k + 1) ((k : Int) + 1) .undef .undef .undef .undef .undef rfl rfl rfl (by omega) (by omega)
      refine ⟨w, ?_⟩
      have hc : ((s.due.drop k).all fun d => decide (d.data.length ≤ 500)) = ((s.due.drop (k + 1)).all fun d => decide (d.data.length ≤ 500)) := by rw [hdrop]; simp [hg]
      rw [hc]
      simp only [StateS.cells, LinkS.cells, LoginS.cells, List.cons_append, List.nil_append] at c1 ⊢
      rcases so with so | so
      · simp only [so, hm4] at c1 ⊢
        simp [D.b9_1, runFun, LMode.isPure, LVal.pfs, LVal.pf, Go.L.initVars, codeW_seq, codeW_region, codeW_regionD, codeW_cond, codeW_ret, codeW_skip, codeW_exit, codeW_block, codeW_fence, thenW, outW, fenceOut, kill, LVal.withins, LVal.within, runOps, runOpsD, Go.L.step, stepD, semD, sem, RS.peek, RS.put, RS.give, RS.take, RS.takes, RS.takeElems, RS.takeParts, RS.peeks, RS.peekO, RS.setVar, RS.noPk, RS.settle, RS.alloc, callOut, LVal.arg, LVal.isAgg, LVal.cells, LVal.unpk, LVal.copy, LVal.down, LVal.plain, LVal.settled, binL, binInt, binStr, unL, resL, resOne, res1, resAll, LVal.isTup, outL, LOp.quiet, LOp.acts, LOp.peeks, LOper.fix, calmOk, loadCalm, awayOk, dstFree, LVal.free, LVal.calm, LVal.calm1, LOp.opds, optL, RS.acquire, appendL, elemsL, bound, inRange, intL, loadL, storeL, setElems, setParts, fitsElem, lenL, isNilL, partL, chunks, o1, o7, o8, e0, e1, e3, e5, e6, e7, g1, hg, hxw]
        subst hK
        simpa using c1
      · simp only [so, hm4] at c1 ⊢
        simp [D.b9_1, runFun, LMode.isPure, LVal.pfs, LVal.pf, Go.L.initVars, codeW_seq, codeW_region, codeW_regionD, codeW_cond, codeW_ret, codeW_skip, codeW_exit, codeW_block, codeW_fence, thenW, outW, fenceOut, kill, LVal.withins, LVal.within, runOps, runOpsD, Go.L.step, stepD, semD, sem, RS.peek, RS.put, RS.give, RS.take, RS.takes, RS.takeElems, RS.takeParts, RS.peeks, RS.peekO, RS.setVar, RS.noPk, RS.settle, RS.alloc, callOut, LVal.arg, LVal.isAgg, LVal.cells, LVal.unpk, LVal.copy, LVal.down, LVal.plain, LVal.settled, binL, binInt, binStr, unL, resL, resOne, res1, resAll, LVal.isTup, outL, LOp.quiet, LOp.acts, LOp.peeks, LOper.fix, calmOk, loadCalm, awayOk, dstFree, LVal.free, LVal.calm, LVal.calm1, LOp.opds, optL, RS.acquire, appendL, elemsL, bound, inRange, intL, loadL, storeL, setElems, setParts, fitsElem, lenL, isNilL, partL, chunks, o1, o7, o8, e0, e1, e3, e5, e6, e7, g1, hg, hxw]
        subst hK
        simpa using c1
    · have g1 : (d.data.length : Int) > 500 := by omega
      refine ⟨fun j => [x, .undef, .undef, .undef, .int .i64 k, v5, v6, .bool true, .bool true].getD j .undef, ?_⟩
      have hc : ((s.due.drop k).all fun d => decide (d.data.length ≤ 500)) = false := by rw [hdrop]; simp [hg]
      rw [hc]
      simp only [StateS.cells, LinkS.cells, LoginS.cells, List.cons_append, List.nil_append]
      rcases so with so | so
      · simp only [so, hm4]
        simp [D.b9_1, runFun, LMode.isPure, LVal.pfs, LVal.pf, Go.L.initVars, codeW_seq, codeW_region, codeW_regionD, codeW_cond, codeW_ret, codeW_skip, codeW_exit, codeW_block, codeW_fence, thenW, outW, fenceOut, kill, LVal.withins, LVal.within, runOps, runOpsD, Go.L.step, stepD, semD, sem, RS.peek, RS.put, RS.give, RS.take, RS.takes, RS.takeElems, RS.takeParts, RS.peeks, RS.peekO, RS.setVar, RS.noPk, RS.settle, RS.alloc, callOut, LVal.arg, LVal.isAgg, LVal.cells, LVal.unpk, LVal.copy, LVal.down, LVal.plain, LVal.settled, binL, binInt, binStr, unL, resL, resOne, res1, resAll, LVal.isTup, outL, LOp.quiet, LOp.acts, LOp.peeks, LOper.fix, calmOk, loadCalm, awayOk, dstFree, LVal.free, LVal.calm, LVal.calm1, LOp.opds, optL, RS.acquire, appendL, elemsL, bound, inRange, intL, loadL, storeL, setElems, setParts, fitsElem, lenL, isNilL, partL, chunks, o1, o7, o8, e0, e1, e3, e5, e6, e7, g1, hg, hxw]
        subst hK
        rfl
      · simp only [so, hm4]
        simp [D.b9_1, runFun, LMode.isPure, LVal.pfs, LVal.pf, Go.L.initVars, codeW_seq, codeW_region, codeW_regionD, codeW_cond, codeW_ret, codeW_skip, codeW_exit, codeW_block, codeW_fence, thenW, outW, fenceOut, kill, LVal.withins, LVal.within, runOps, runOpsD, Go.L.step, stepD, semD, sem, RS.peek, RS.put, RS.give, RS.take, RS.takes, RS.takeElems, RS.takeParts, RS.peeks, RS.peekO, RS.setVar, RS.noPk, RS.settle, RS.alloc, callOut, LVal.arg, LVal.isAgg, LVal.cells, LVal.unpk, LVal.copy, LVal.down, LVal.plain, LVal.settled, binL, binInt, binStr, unL, resL, resOne, res1, resAll, LVal.isTup, outL, LOp.quiet, LOp.acts, LOp.peeks, LOper.fix, calmOk, loadCalm, awayOk, dstFree, LVal.free, LVal.calm, LVal.calm1, LOp.opds, optL, RS.acquire, appendL, elemsL, bound, inRange, intL, loadL, storeL, setElems, setParts, fitsElem, lenL, isNilL, partL, chunks, o1, o7, o8, e0, e1, e3, e5, e6, e7, g1, hg, hxw]
        subst hK
        rfl
end Go.Proofs.Ytbljgbojkifoiaa
