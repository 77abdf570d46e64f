/- Texts 13 14 15. -/
import Derived.Test.YtbljgbojkifoiaaKVA
section
set_option linter.unusedVariables false
set_option linter.unusedSimpArgs false
namespace Go.Proofs.Ytbljgbojkifoiaa
open Go Go.L

/-- Few things are owed, and texts are short: as the law looks. -/
def fewB (s : StateS) : Bool := decide (s.due.length ≤ 20) && (decide (s.login.value.length ≤ 500) && (decide (s.l0.opts.length ≤ 500) && (decide (s.l1.opts.length ≤ 500) && (decide (s.l2.opts.length ≤ 500) && s.due.all fun d => decide (d.data.length ≤ 500)))))
theorem fewB_ok {s : StateS} (h : fewB s = true) : s.few := by
  simp only [fewB, Bool.and_eq_true, decide_eq_true_eq, List.all_eq_true] at h
  exact ⟨h.1, h.2.1, h.2.2.1, h.2.2.2.1, h.2.2.2.2.1, h.2.2.2.2.2⟩

def statesL (l : List StateS) : List LVal := l.map fun s => .agg s.cells
def headBad (s : StateS) : Bool := !(decide (s.due.length ≤ 20) && (decide (s.login.value.length ≤ 500) && (decide (s.l0.opts.length ≤ 500) && (decide (s.l1.opts.length ≤ 500) && decide (s.l2.opts.length ≤ 500)))))

set_option maxHeartbeats 8000000 in
theorem r9 (s : StateS) (so : s.o = .sh ∨ s.o = .full) (x v1 v4 v7 v8 : LVal) (i : Int) :
    codeW D.T D.r9_0 { vars := [x, v1, .int .i64 i, .ptr 0 0, v4, .bool true, .undef, v7, v8], st := [.cells 31 s.cells], rs := [] } =
      some (.normal, { vars := [x, v1, .int .i64 i, .ptr 0 0, v4, .bool true, .bool (headBad s), v7, v8], st := [.cells 31 s.cells], rs := [] }) := by
  have e5 : (duesL s.due).length = s.due.length := duesL_len s.due
  have step : ∀ b, b = headBad s → codeW D.T D.r9_0 { vars := [x, v1, .int .i64 i, .ptr 0 0, v4, .bool true, .undef, v7, v8], st := [.cells 31 s.cells], rs := [] } =
      some (.normal, { vars := [x, v1, .int .i64 i, .ptr 0 0, v4, .bool true, .bool b, v7, v8], st := [.cells 31 s.cells], rs := [] }) := by
    intro b hb
    have hd : ∀ n m : Nat, (¬ n ≤ m) = (m < n) := fun n m => by simp
    simp only [headBad] at hb
    unfold D.r9_0
    simp only [LoginS.cells, StateS.cells, LinkS.cells, List.cons_append, List.nil_append]
    by_cases g1 : s.due.length ≤ 20
    · have k1 : ¬ (s.due.length : Int) > 20 := by omega
      by_cases g2 : s.login.value.length ≤ 500
      · have k2 : ¬ (s.login.value.length : Int) > 500 := by omega
        by_cases g3 : s.l0.opts.length ≤ 500
        · have k3 : ¬ (s.l0.opts.length : Int) > 500 := by omega
          by_cases g4 : s.l1.opts.length ≤ 500
          · have k4 : ¬ (s.l1.opts.length : Int) > 500 := by omega
            by_cases g5 : s.l2.opts.length ≤ 500
            · have k5 : ¬ (s.l2.opts.length : Int) > 500 := by omega
              have : b = false := by rw [hb]; simp [g1, g2, g3, g4, g5]
              subst this
              rcases so with so | so <;> rw [so]
              all_goals
                apply regN
                simp only [List.replicate]
                repeat
                  apply run_cons
                  · first
                      | (simp [runFun, LMode.isPure, LVal.pfs, LVal.pf, Go.L.initVars, codeW_seq, codeW_region, codeW_regionD, codeW_cond, codeW_ret, codeW_skip, codeW_exit, codeW_block, codeW_fence, thenW, outW, fenceOut, kill, LVal.withins, LVal.within, runOps, runOpsD, Go.L.step, stepD, semD, sem, RS.peek, RS.put, RS.give, RS.take, RS.takes, RS.takeElems, RS.takeParts, RS.peeks, RS.peekO, RS.setVar, RS.noPk, RS.settle, RS.alloc, callOut, LVal.arg, LVal.isAgg, LVal.cells, LVal.unpk, LVal.copy, LVal.down, LVal.plain, LVal.settled, binL, binInt, binStr, unL, resL, resOne, res1, resAll, LVal.isTup, outL, LOp.quiet, LOp.acts, LOp.peeks, LOper.fix, calmOk, loadCalm, awayOk, dstFree, LVal.free, LVal.calm, LVal.calm1, LOp.opds, optL, RS.acquire, appendL, elemsL, bound, inRange, intL, loadL, storeL, setElems, setParts, fitsElem, lenL, isNilL, partL, chunks, e5, k1, g1, k2, g2, k3, g3, k4, g4, k5, g5]; done)
                      | (simp [runFun, LMode.isPure, LVal.pfs, LVal.pf, Go.L.initVars, codeW_seq, codeW_region, codeW_regionD, codeW_cond, codeW_ret, codeW_skip, codeW_exit, codeW_block, codeW_fence, thenW, outW, fenceOut, kill, LVal.withins, LVal.within, runOps, runOpsD, Go.L.step, stepD, semD, sem, RS.peek, RS.put, RS.give, RS.take, RS.takes, RS.takeElems, RS.takeParts, RS.peeks, RS.peekO, RS.setVar, RS.noPk, RS.settle, RS.alloc, callOut, LVal.arg, LVal.isAgg, LVal.cells, LVal.unpk, LVal.copy, LVal.down, LVal.plain, LVal.settled, binL, binInt, binStr, unL, resL, resOne, res1, resAll, LVal.isTup, outL, LOp.quiet, LOp.acts, LOp.peeks, LOper.fix, calmOk, loadCalm, awayOk, dstFree, LVal.free, LVal.calm, LVal.calm1, LOp.opds, optL, RS.acquire, appendL, elemsL, bound, inRange, intL, loadL, storeL, setElems, setParts, fitsElem, lenL, isNilL, partL, chunks, e5, k1, g1, k2, g2, k3, g3, k4, g4, k5, g5]; rfl)
                exact run_nil
            · have k5 : (s.l2.opts.length : Int) > 500 := by omega
              have : b = true := by rw [hb]; simp [g1, g2, g3, g4, g5]
              subst this
              rcases so with so | so <;> rw [so]
              all_goals
                apply regN
                simp only [List.replicate]
                repeat
                  apply run_cons
                  · first
                      | (simp [runFun, LMode.isPure, LVal.pfs, LVal.pf, Go.L.initVars, codeW_seq, codeW_region, codeW_regionD, codeW_cond, codeW_ret, codeW_skip, codeW_exit, codeW_block, codeW_fence, thenW, outW, fenceOut, kill, LVal.withins, LVal.within, runOps, runOpsD, Go.L.step, stepD, semD, sem, RS.peek, RS.put, RS.give, RS.take, RS.takes, RS.takeElems, RS.takeParts, RS.peeks, RS.peekO, RS.setVar, RS.noPk, RS.settle, RS.alloc, callOut, LVal.arg, LVal.isAgg, LVal.cells, LVal.unpk, LVal.copy, LVal.down, LVal.plain, LVal.settled, binL, binInt, binStr, unL, resL, resOne, res1, resAll, LVal.isTup, outL, LOp.quiet, LOp.acts, LOp.peeks, LOper.fix, calmOk, loadCalm, awayOk, dstFree, LVal.free, LVal.calm, LVal.calm1, LOp.opds, optL, RS.acquire, appendL, elemsL, bound, inRange, intL, loadL, storeL, setElems, setParts, fitsElem, lenL, isNilL, partL, chunks, e5, k1, g1, k2, g2, k3, g3, k4, g4, k5, g5]; done)
                      | (simp [runFun, LMode.isPure, LVal.pfs, LVal.pf, Go.L.initVars, codeW_seq, codeW_region, codeW_regionD, codeW_cond, codeW_ret, codeW_skip, codeW_exit, codeW_block, codeW_fence, thenW, outW, fenceOut, kill, LVal.withins, LVal.within, runOps, runOpsD, Go.L.step, stepD, semD, sem, RS.peek, RS.put, RS.give, RS.take, RS.takes, RS.takeElems, RS.takeParts, RS.peeks, RS.peekO, RS.setVar, RS.noPk, RS.settle, RS.alloc, callOut, LVal.arg, LVal.isAgg, LVal.cells, LVal.unpk, LVal.copy, LVal.down, LVal.plain, LVal.settled, binL, binInt, binStr, unL, resL, resOne, res1, resAll, LVal.isTup, outL, LOp.quiet, LOp.acts, LOp.peeks, LOper.fix, calmOk, loadCalm, awayOk, dstFree, LVal.free, LVal.calm, LVal.calm1, LOp.opds, optL, RS.acquire, appendL, elemsL, bound, inRange, intL, loadL, storeL, setElems, setParts, fitsElem, lenL, isNilL, partL, chunks, e5, k1, g1, k2, g2, k3, g3, k4, g4, k5, g5]; rfl)
                exact run_nil
          · have k4 : (s.l1.opts.length : Int) > 500 := by omega
            have : b = true := by rw [hb]; simp [g1, g2, g3, g4]
            subst this
            rcases so with so | so <;> rw [so]
            all_goals
              apply regN
              simp only [List.replicate]
              repeat
                apply run_cons
                · first
                    | (simp [runFun, LMode.isPure, LVal.pfs, LVal.pf, Go.L.initVars, codeW_seq, codeW_region, codeW_regionD, codeW_cond, codeW_ret, codeW_skip, codeW_exit, codeW_block, codeW_fence, thenW, outW, fenceOut, kill, LVal.withins, LVal.within, runOps, runOpsD, Go.L.step, stepD, semD, sem, RS.peek, RS.put, RS.give, RS.take, RS.takes, RS.takeElems, RS.takeParts, RS.peeks, RS.peekO, RS.setVar, RS.noPk, RS.settle, RS.alloc, callOut, LVal.arg, LVal.isAgg, LVal.cells, LVal.unpk, LVal.copy, LVal.down, LVal.plain, LVal.settled, binL, binInt, binStr, unL, resL, resOne, res1, resAll, LVal.isTup, outL, LOp.quiet, LOp.acts, LOp.peeks, LOper.fix, calmOk, loadCalm, awayOk, dstFree, LVal.free, LVal.calm, LVal.calm1, LOp.opds, optL, RS.acquire, appendL, elemsL, bound, inRange, intL, loadL, storeL, setElems, setParts, fitsElem, lenL, isNilL, partL, chunks, e5, k1, g1, k2, g2, k3, g3, k4, g4]; done)
                    | (simp [runFun, LMode.isPure, LVal.pfs, LVal.pf, Go.L.initVars, codeW_seq, codeW_region, codeW_regionD, codeW_cond, codeW_ret, codeW_skip, codeW_exit, codeW_block, codeW_fence, thenW, outW, fenceOut, kill, LVal.withins, LVal.within, runOps, runOpsD, Go.L.step, stepD, semD, sem, RS.peek, RS.put, RS.give, RS.take, RS.takes, RS.takeElems, RS.takeParts, RS.peeks, RS.peekO, RS.setVar, RS.noPk, RS.settle, RS.alloc, callOut, LVal.arg, LVal.isAgg, LVal.cells, LVal.unpk, LVal.copy, LVal.down, LVal.plain, LVal.settled, binL, binInt, binStr, unL, resL, resOne, res1, resAll, LVal.isTup, outL, LOp.quiet, LOp.acts, LOp.peeks, LOper.fix, calmOk, loadCalm, awayOk, dstFree, LVal.free, LVal.calm, LVal.calm1, LOp.opds, optL, RS.acquire, appendL, elemsL, bound, inRange, intL, loadL, storeL, setElems, setParts, fitsElem, lenL, isNilL, partL, chunks, e5, k1, g1, k2, g2, k3, g3, k4, g4]; rfl)
              exact run_nil
        · have k3 : (s.l0.opts.length : Int) > 500 := by omega
          have : b = true := by rw [hb]; simp [g1, g2, g3]
          subst this
          rcases so with so | so <;> rw [so]
          all_goals
            apply regN
            simp only [List.replicate]
            repeat
              apply run_cons
              · first
                  | (simp [runFun, LMode.isPure, LVal.pfs, LVal.pf, Go.L.initVars, codeW_seq, codeW_region, codeW_regionD, codeW_cond, codeW_ret, codeW_skip, codeW_exit, codeW_block, codeW_fence, thenW, outW, fenceOut, kill, LVal.withins, LVal.within, runOps, runOpsD, Go.L.step, stepD, semD, sem, RS.peek, RS.put, RS.give, RS.take, RS.takes, RS.takeElems, RS.takeParts, RS.peeks, RS.peekO, RS.setVar, RS.noPk, RS.settle, RS.alloc, callOut, LVal.arg, LVal.isAgg, LVal.cells, LVal.unpk, LVal.copy, LVal.down, LVal.plain, LVal.settled, binL, binInt, binStr, unL, resL, resOne, res1, resAll, LVal.isTup, outL, LOp.quiet, LOp.acts, LOp.peeks, LOper.fix, calmOk, loadCalm, awayOk, dstFree, LVal.free, LVal.calm, LVal.calm1, LOp.opds, optL, RS.acquire, appendL, elemsL, bound, inRange, intL, loadL, storeL, setElems, setParts, fitsElem, lenL, isNilL, partL, chunks, e5, k1, g1, k2, g2, k3, g3]; done)
                  | (simp [runFun, LMode.isPure, LVal.pfs, LVal.pf, Go.L.initVars, codeW_seq, codeW_region, codeW_regionD, codeW_cond, codeW_ret, codeW_skip, codeW_exit, codeW_block, codeW_fence, thenW, outW, fenceOut, kill, LVal.withins, LVal.within, runOps, runOpsD, Go.L.step, stepD, semD, sem, RS.peek, RS.put, RS.give, RS.take, RS.takes, RS.takeElems, RS.takeParts, RS.peeks, RS.peekO, RS.setVar, RS.noPk, RS.settle, RS.alloc, callOut, LVal.arg, LVal.isAgg, LVal.cells, LVal.unpk, LVal.copy, LVal.down, LVal.plain, LVal.settled, binL, binInt, binStr, unL, resL, resOne, res1, resAll, LVal.isTup, outL, LOp.quiet, LOp.acts, LOp.peeks, LOper.fix, calmOk, loadCalm, awayOk, dstFree, LVal.free, LVal.calm, LVal.calm1, LOp.opds, optL, RS.acquire, appendL, elemsL, bound, inRange, intL, loadL, storeL, setElems, setParts, fitsElem, lenL, isNilL, partL, chunks, e5, k1, g1, k2, g2, k3, g3]; rfl)
            exact run_nil
      · have k2 : (s.login.value.length : Int) > 500 := by omega
        have : b = true := by rw [hb]; simp [g1, g2]
        subst this
        rcases so with so | so <;> rw [so]
        all_goals
          apply regN
          simp only [List.replicate]
          repeat
            apply run_cons
            · first
                | (simp [runFun, LMode.isPure, LVal.pfs, LVal.pf, Go.L.initVars, codeW_seq, codeW_region, codeW_regionD, codeW_cond, codeW_ret, codeW_skip, codeW_exit, codeW_block, codeW_fence, thenW, outW, fenceOut, kill, LVal.withins, LVal.within, runOps, runOpsD, Go.L.step, stepD, semD, sem, RS.peek, RS.put, RS.give, RS.take, RS.takes, RS.takeElems, RS.takeParts, RS.peeks, RS.peekO, RS.setVar, RS.noPk, RS.settle, RS.alloc, callOut, LVal.arg, LVal.isAgg, LVal.cells, LVal.unpk, LVal.copy, LVal.down, LVal.plain, LVal.settled, binL, binInt, binStr, unL, resL, resOne, res1, resAll, LVal.isTup, outL, LOp.quiet, LOp.acts, LOp.peeks, LOper.fix, calmOk, loadCalm, awayOk, dstFree, LVal.free, LVal.calm, LVal.calm1, LOp.opds, optL, RS.acquire, appendL, elemsL, bound, inRange, intL, loadL, storeL, setElems, setParts, fitsElem, lenL, isNilL, partL, chunks, e5, k1, g1, k2, g2]; done)
                | (simp [runFun, LMode.isPure, LVal.pfs, LVal.pf, Go.L.initVars, codeW_seq, codeW_region, codeW_regionD, codeW_cond, codeW_ret, codeW_skip, codeW_exit, codeW_block, codeW_fence, thenW, outW, fenceOut, kill, LVal.withins, LVal.within, runOps, runOpsD, Go.L.step, stepD, semD, sem, RS.peek, RS.put, RS.give, RS.take, RS.takes, RS.takeElems, RS.takeParts, RS.peeks, RS.peekO, RS.setVar, RS.noPk, RS.settle, RS.alloc, callOut, LVal.arg, LVal.isAgg, LVal.cells, LVal.unpk, LVal.copy, LVal.down, LVal.plain, LVal.settled, binL, binInt, binStr, unL, resL, resOne, res1, resAll, LVal.isTup, outL, LOp.quiet, LOp.acts, LOp.peeks, LOper.fix, calmOk, loadCalm, awayOk, dstFree, LVal.free, LVal.calm, LVal.calm1, LOp.opds, optL, RS.acquire, appendL, elemsL, bound, inRange, intL, loadL, storeL, setElems, setParts, fitsElem, lenL, isNilL, partL, chunks, e5, k1, g1, k2, g2]; rfl)
          exact run_nil
    · have k1 : (s.due.length : Int) > 20 := by omega
      have : b = true := by rw [hb]; simp [g1]
      subst this
      rcases so with so | so <;> rw [so]
      all_goals
        apply regN
        simp only [List.replicate]
        repeat
          apply run_cons
          · first
              | (simp [runFun, LMode.isPure, LVal.pfs, LVal.pf, Go.L.initVars, codeW_seq, codeW_region, codeW_regionD, codeW_cond, codeW_ret, codeW_skip, codeW_exit, codeW_block, codeW_fence, thenW, outW, fenceOut, kill, LVal.withins, LVal.within, runOps, runOpsD, Go.L.step, stepD, semD, sem, RS.peek, RS.put, RS.give, RS.take, RS.takes, RS.takeElems, RS.takeParts, RS.peeks, RS.peekO, RS.setVar, RS.noPk, RS.settle, RS.alloc, callOut, LVal.arg, LVal.isAgg, LVal.cells, LVal.unpk, LVal.copy, LVal.down, LVal.plain, LVal.settled, binL, binInt, binStr, unL, resL, resOne, res1, resAll, LVal.isTup, outL, LOp.quiet, LOp.acts, LOp.peeks, LOper.fix, calmOk, loadCalm, awayOk, dstFree, LVal.free, LVal.calm, LVal.calm1, LOp.opds, optL, RS.acquire, appendL, elemsL, bound, inRange, intL, loadL, storeL, setElems, setParts, fitsElem, lenL, isNilL, partL, chunks, e5, k1, g1]; done)
              | (simp [runFun, LMode.isPure, LVal.pfs, LVal.pf, Go.L.initVars, codeW_seq, codeW_region, codeW_regionD, codeW_cond, codeW_ret, codeW_skip, codeW_exit, codeW_block, codeW_fence, thenW, outW, fenceOut, kill, LVal.withins, LVal.within, runOps, runOpsD, Go.L.step, stepD, semD, sem, RS.peek, RS.put, RS.give, RS.take, RS.takes, RS.takeElems, RS.takeParts, RS.peeks, RS.peekO, RS.setVar, RS.noPk, RS.settle, RS.alloc, callOut, LVal.arg, LVal.isAgg, LVal.cells, LVal.unpk, LVal.copy, LVal.down, LVal.plain, LVal.settled, binL, binInt, binStr, unL, resL, resOne, res1, resAll, LVal.isTup, outL, LOp.quiet, LOp.acts, LOp.peeks, LOper.fix, calmOk, loadCalm, awayOk, dstFree, LVal.free, LVal.calm, LVal.calm1, LOp.opds, optL, RS.acquire, appendL, elemsL, bound, inRange, intL, loadL, storeL, setElems, setParts, fitsElem, lenL, isNilL, partL, chunks, e5, k1, g1]; rfl)
        exact run_nil
  exact step _ rfl
end Go.Proofs.Ytbljgbojkifoiaa
end
section
set_option linter.unusedVariables false
set_option linter.unusedSimpArgs false
namespace Go.Proofs.Ytbljgbojkifoiaa
open Go Go.L

theorem statesL_len (l : List StateS) : (statesL l).length = l.length := by simp [statesL]
theorem statesL_get (l : List StateS) (i : Nat) : (statesL l)[i]? = (l[i]?).map fun d => .agg d.cells := by simp [statesL]
theorem cells_within {s : StateS} (n : Nat) : LVal.withins n s.cells = true := by
  have := duesL_within n s.due
  simp only [StateS.cells, LinkS.cells, LoginS.cells, List.cons_append, List.nil_append]
  rfl
theorem statesL_within (n : Nat) : ∀ (l : List StateS), LVal.withins n (statesL l) = true
  | [] => rfl
  | d :: l => by
    have := statesL_within n l
    have h2 := cells_within (s := d) n
    simp only [statesL, List.map_cons, LVal.withins, LVal.within] at this ⊢
    rw [this, h2]; rfl

set_option maxHeartbeats 4000000 in
theorem loop9in (x : LVal) (hx : x.isOwn = false) (hxw : x.within 1 = true) (s : StateS) (so : s.o = .sh ∨ s.o = .full) (sm : s.due ≠ [] → s.m = 4) (hl : s.due.length ≤ 20) (iz : Int) : ∀ (j k : Nat) (z : Int) (v1 v5 v6 v7 v8 : LVal), v1.isOwn = false → v7.isOwn = false → v8.isOwn = false → z = k → k + j = s.due.length →
    ∃ w : Nat → LVal, codeW D.T (.loop D.b9_1) { vars := [x, v1, .int .i64 iz, .ptr 0 0, .int .i64 z, v5, v6, v7, v8], st := [.cells 31 s.cells], rs := [] } =
      some (if (s.due.drop k).all (fun d => decide (d.data.length ≤ 500)) then (.exit 2, { vars := [x, w 1, .int .i64 iz, .ptr 0 0, w 4, w 5, w 6, w 7, w 8], st := [.cells 31 s.cells], rs := [] })
        else (.ret, { vars := [x, .bool false, .int .i64 iz, .ptr 0 0, w 4, w 5, w 6, w 7, w 8], st := [.cells 31 s.cells], rs := [] }))
  | 0, k, z, v1, v5, v6, v7, v8, o1, o7, o8, hz, hij => by
    subst hz
    have hi : k = s.due.length := by omega
    subst hi
    have e5 : (duesL s.due).length = s.due.length := duesL_len s.due
    refine ⟨fun j => [x, v1, .undef, .undef, .int .i64 s.due.length, v5, v6, .bool false, v8].getD j .undef, ?_⟩
    rw [List.drop_length, codeW_loop]
    simp only [StateS.cells, LinkS.cells, LoginS.cells, List.cons_append, List.nil_append]
    rcases so with so | so <;> simp [so, D.b9_1, runFun, LMode.isPure, LVal.pfs, LVal.pf, Go.L.initVars, codeW_seq, codeW_region, codeW_regionD, codeW_cond, codeW_ret, codeW_skip, codeW_exit, codeW_block, codeW_fence, thenW, outW, fenceOut, kill, LVal.withins, LVal.within, runOps, runOpsD, Go.L.step, stepD, semD, sem, RS.peek, RS.put, RS.give, RS.take, RS.takes, RS.takeElems, RS.takeParts, RS.peeks, RS.peekO, RS.setVar, RS.noPk, RS.settle, RS.alloc, callOut, LVal.arg, LVal.isAgg, LVal.cells, LVal.unpk, LVal.copy, LVal.down, LVal.plain, LVal.settled, binL, binInt, binStr, unL, resL, resOne, res1, resAll, LVal.isTup, outL, LOp.quiet, LOp.acts, LOp.peeks, LOper.fix, calmOk, loadCalm, awayOk, dstFree, LVal.free, LVal.calm, LVal.calm1, LOp.opds, optL, RS.acquire, appendL, elemsL, bound, inRange, intL, loadL, storeL, setElems, setParts, fitsElem, lenL, isNilL, partL, chunks, o7, e5]
  | j + 1, k, z, v1, v5, v6, v7, v8, o1, o7, o8, hz, hij => by
    subst hz
    have hi : k < s.due.length := by omega
    obtain ⟨d, hd⟩ : ∃ d, s.due[k]? = some d := ⟨_, List.getElem?_eq_getElem hi⟩
    have hdrop : s.due.drop k = d :: s.due.drop (k + 1) := by
      rw [List.drop_eq_getElem_cons hi]
      rw [List.getElem?_eq_getElem hi] at hd; injection hd with hd; rw [hd]
    have e1 : (k : Int) < (s.due.length : Int) := by omega
    have e0 : 0 ≤ (k : Int) ∧ (k : Int) < (s.due.length : Int) := by omega
    have e3 : IntKind.i64.wrap ((k : Int) + 1) = (k : Int) + 1 := wi64 (by omega) (by omega)
    have e5 : (duesL s.due).length = s.due.length := duesL_len s.due
    have e6 : (duesL s.due)[k]? = some (.agg d.cells) := by rw [duesL_get, hd]; rfl
    have e7 : ∀ n, LVal.withins n (duesL s.due) = true := fun n => duesL_within n s.due
    have hm4 : s.m = 4 := sm (fun e => by rw [e] at hi; simp at hi)
    simp only [DueS.cells] at e6
    rw [codeW_loop]
    generalize hK : thenW (codeW D.T (.loop D.b9_1)) = K
    by_cases hg : d.data.length ≤ 500
    · have g1 : ¬ (d.data.length : Int) > 500 := by omega
      obtain ⟨w, c1⟩ := loop9in x hx hxw s so sm hl iz j (k + 1) ((k : Int) + 1) .undef .undef .undef .undef .undef rfl rfl rfl (by omega) (by omega)
      refine ⟨w, ?_⟩
      have hc : ((s.due.drop k).all fun d => decide (d.data.length ≤ 500)) = ((s.due.drop (k + 1)).all fun d => decide (d.data.length ≤ 500)) := by rw [hdrop]; simp [hg]
      rw [hc]
      simp only [StateS.cells, LinkS.cells, LoginS.cells, List.cons_append, List.nil_append] at c1 ⊢
      rcases so with so | so
      · simp only [so, hm4] at c1 ⊢
        simp [D.b9_1, runFun, LMode.isPure, LVal.pfs, LVal.pf, Go.L.initVars, codeW_seq, codeW_region, codeW_regionD, codeW_cond, codeW_ret, codeW_skip, codeW_exit, codeW_block, codeW_fence, thenW, outW, fenceOut, kill, LVal.withins, LVal.within, runOps, runOpsD, Go.L.step, stepD, semD, sem, RS.peek, RS.put, RS.give, RS.take, RS.takes, RS.takeElems, RS.takeParts, RS.peeks, RS.peekO, RS.setVar, RS.noPk, RS.settle, RS.alloc, callOut, LVal.arg, LVal.isAgg, LVal.cells, LVal.unpk, LVal.copy, LVal.down, LVal.plain, LVal.settled, binL, binInt, binStr, unL, resL, resOne, res1, resAll, LVal.isTup, outL, LOp.quiet, LOp.acts, LOp.peeks, LOper.fix, calmOk, loadCalm, awayOk, dstFree, LVal.free, LVal.calm, LVal.calm1, LOp.opds, optL, RS.acquire, appendL, elemsL, bound, inRange, intL, loadL, storeL, setElems, setParts, fitsElem, lenL, isNilL, partL, chunks, o1, o7, o8, e0, e1, e3, e5, e6, e7, g1, hg, hxw]
        subst hK
        simpa using c1
      · simp only [so, hm4] at c1 ⊢
        simp [D.b9_1, runFun, LMode.isPure, LVal.pfs, LVal.pf, Go.L.initVars, codeW_seq, codeW_region, codeW_regionD, codeW_cond, codeW_ret, codeW_skip, codeW_exit, codeW_block, codeW_fence, thenW, outW, fenceOut, kill, LVal.withins, LVal.within, runOps, runOpsD, Go.L.step, stepD, semD, sem, RS.peek, RS.put, RS.give, RS.take, RS.takes, RS.takeElems, RS.takeParts, RS.peeks, RS.peekO, RS.setVar, RS.noPk, RS.settle, RS.alloc, callOut, LVal.arg, LVal.isAgg, LVal.cells, LVal.unpk, LVal.copy, LVal.down, LVal.plain, LVal.settled, binL, binInt, binStr, unL, resL, resOne, res1, resAll, LVal.isTup, outL, LOp.quiet, LOp.acts, LOp.peeks, LOper.fix, calmOk, loadCalm, awayOk, dstFree, LVal.free, LVal.calm, LVal.calm1, LOp.opds, optL, RS.acquire, appendL, elemsL, bound, inRange, intL, loadL, storeL, setElems, setParts, fitsElem, lenL, isNilL, partL, chunks, o1, o7, o8, e0, e1, e3, e5, e6, e7, g1, hg, hxw]
        subst hK
        simpa using c1
    · have g1 : (d.data.length : Int) > 500 := by omega
      refine ⟨fun j => [x, .undef, .undef, .undef, .int .i64 k, v5, v6, .bool true, .bool true].getD j .undef, ?_⟩
      have hc : ((s.due.drop k).all fun d => decide (d.data.length ≤ 500)) = false := by rw [hdrop]; simp [hg]
      rw [hc]
      simp only [StateS.cells, LinkS.cells, LoginS.cells, List.cons_append, List.nil_append]
      rcases so with so | so
      · simp only [so, hm4]
        simp [D.b9_1, runFun, LMode.isPure, LVal.pfs, LVal.pf, Go.L.initVars, codeW_seq, codeW_region, codeW_regionD, codeW_cond, codeW_ret, codeW_skip, codeW_exit, codeW_block, codeW_fence, thenW, outW, fenceOut, kill, LVal.withins, LVal.within, runOps, runOpsD, Go.L.step, stepD, semD, sem, RS.peek, RS.put, RS.give, RS.take, RS.takes, RS.takeElems, RS.takeParts, RS.peeks, RS.peekO, RS.setVar, RS.noPk, RS.settle, RS.alloc, callOut, LVal.arg, LVal.isAgg, LVal.cells, LVal.unpk, LVal.copy, LVal.down, LVal.plain, LVal.settled, binL, binInt, binStr, unL, resL, resOne, res1, resAll, LVal.isTup, outL, LOp.quiet, LOp.acts, LOp.peeks, LOper.fix, calmOk, loadCalm, awayOk, dstFree, LVal.free, LVal.calm, LVal.calm1, LOp.opds, optL, RS.acquire, appendL, elemsL, bound, inRange, intL, loadL, storeL, setElems, setParts, fitsElem, lenL, isNilL, partL, chunks, o1, o7, o8, e0, e1, e3, e5, e6, e7, g1, hg, hxw]
        subst hK
        rfl
      · simp only [so, hm4]
        simp [D.b9_1, runFun, LMode.isPure, LVal.pfs, LVal.pf, Go.L.initVars, codeW_seq, codeW_region, codeW_regionD, codeW_cond, codeW_ret, codeW_skip, codeW_exit, codeW_block, codeW_fence, thenW, outW, fenceOut, kill, LVal.withins, LVal.within, runOps, runOpsD, Go.L.step, stepD, semD, sem, RS.peek, RS.put, RS.give, RS.take, RS.takes, RS.takeElems, RS.takeParts, RS.peeks, RS.peekO, RS.setVar, RS.noPk, RS.settle, RS.alloc, callOut, LVal.arg, LVal.isAgg, LVal.cells, LVal.unpk, LVal.copy, LVal.down, LVal.plain, LVal.settled, binL, binInt, binStr, unL, resL, resOne, res1, resAll, LVal.isTup, outL, LOp.quiet, LOp.acts, LOp.peeks, LOper.fix, calmOk, loadCalm, awayOk, dstFree, LVal.free, LVal.calm, LVal.calm1, LOp.opds, optL, RS.acquire, appendL, elemsL, bound, inRange, intL, loadL, storeL, setElems, setParts, fitsElem, lenL, isNilL, partL, chunks, o1, o7, o8, e0, e1, e3, e5, e6, e7, g1, hg, hxw]
        subst hK
        rfl
end Go.Proofs.Ytbljgbojkifoiaa
end
section
set_option linter.unusedVariables false
set_option linter.unusedSimpArgs false
namespace Go.Proofs.Ytbljgbojkifoiaa
open Go Go.L

/-- How a state's last cell lies. -/
def StateS.lies (s : StateS) : Prop := (s.o = .sh ∨ s.o = .full) ∧ (s.due ≠ [] → s.m = 4)
theorem few_head {s : StateS} : fewB s = (!headBad s && s.due.all fun d => decide (d.data.length ≤ 500)) := by
  simp only [fewB, headBad, Bool.not_not]
  cases decide (s.due.length ≤ 20) <;> cases decide (s.login.value.length ≤ 500) <;> cases decide (s.l0.opts.length ≤ 500) <;> cases decide (s.l1.opts.length ≤ 500) <;> cases decide (s.l2.opts.length ≤ 500) <;> rfl
theorem head_due {s : StateS} (h : headBad s = false) : s.due.length ≤ 20 := by
  simp only [headBad, Bool.not_eq_false', Bool.and_eq_true, decide_eq_true_eq] at h
  exact h.1

set_option maxHeartbeats 4000000 in
theorem loop9out (b : Bool) (l : List StateS) (hlies : ∀ s ∈ l, s.lies) : ∀ (j i : Nat) (z : Int) (v1 v3 v4 v5 v7 v8 : LVal), v1.isOwn = false → v3.isOwn = false → v4.isOwn = false → v5.isOwn = false → v7.isOwn = false → v8.isOwn = false → z = i → i + j = min 100 l.length →
    ∃ (w : Nat → LVal) (st' : List LObj), codeW D.T (.loop D.b9_2) { vars := [.vs b .sh 31 (statesL l), v1, .int .i64 z, v3, v4, v5, .undef, v7, v8], st := [], rs := [] } =
      some (if ((l.take 100).drop i).all fewB then (.exit 0, { vars := [.vs b .sh 31 (statesL l), w 1, w 2, w 3, w 4, w 5, w 6, w 7, w 8], st := [], rs := [] })
        else (.ret, { vars := [.vs b .sh 31 (statesL l), .bool false, w 2, w 3, w 4, w 5, w 6, w 7, w 8], st := st', rs := [] }))
  | 0, i, z, v1, v3, v4, v5, v7, v8, o1, o3, o4, o5, o7, o8, hz, hij => by
    subst hz
    have e5 : (statesL l).length = l.length := statesL_len l
    have hd : (l.take 100).drop i = [] := by rw [List.drop_of_length_le]; simp; omega
    refine ⟨fun j => [.undef, v1, .int .i64 i, v3, v4, .bool false, .undef, v7, v8].getD j .undef, [], ?_⟩
    rw [hd, codeW_loop]
    by_cases g : (i : Int) < (l.length : Int)
    · have g2 : ¬ (i : Int) < 100 := by omega
      simp [D.b9_2, runFun, LMode.isPure, LVal.pfs, LVal.pf, Go.L.initVars, codeW_seq, codeW_region, codeW_regionD, codeW_cond, codeW_ret, codeW_skip, codeW_exit, codeW_block, codeW_fence, thenW, outW, fenceOut, kill, LVal.withins, LVal.within, runOps, runOpsD, Go.L.step, stepD, semD, sem, RS.peek, RS.put, RS.give, RS.take, RS.takes, RS.takeElems, RS.takeParts, RS.peeks, RS.peekO, RS.setVar, RS.noPk, RS.settle, RS.alloc, callOut, LVal.arg, LVal.isAgg, LVal.cells, LVal.unpk, LVal.copy, LVal.down, LVal.plain, LVal.settled, binL, binInt, binStr, unL, resL, resOne, res1, resAll, LVal.isTup, outL, LOp.quiet, LOp.acts, LOp.peeks, LOper.fix, calmOk, loadCalm, awayOk, dstFree, LVal.free, LVal.calm, LVal.calm1, LOp.opds, optL, RS.acquire, appendL, elemsL, bound, inRange, intL, loadL, storeL, setElems, setParts, fitsElem, lenL, isNilL, partL, chunks, o5, e5, g, g2]
    · simp [D.b9_2, runFun, LMode.isPure, LVal.pfs, LVal.pf, Go.L.initVars, codeW_seq, codeW_region, codeW_regionD, codeW_cond, codeW_ret, codeW_skip, codeW_exit, codeW_block, codeW_fence, thenW, outW, fenceOut, kill, LVal.withins, LVal.within, runOps, runOpsD, Go.L.step, stepD, semD, sem, RS.peek, RS.put, RS.give, RS.take, RS.takes, RS.takeElems, RS.takeParts, RS.peeks, RS.peekO, RS.setVar, RS.noPk, RS.settle, RS.alloc, callOut, LVal.arg, LVal.isAgg, LVal.cells, LVal.unpk, LVal.copy, LVal.down, LVal.plain, LVal.settled, binL, binInt, binStr, unL, resL, resOne, res1, resAll, LVal.isTup, outL, LOp.quiet, LOp.acts, LOp.peeks, LOper.fix, calmOk, loadCalm, awayOk, dstFree, LVal.free, LVal.calm, LVal.calm1, LOp.opds, optL, RS.acquire, appendL, elemsL, bound, inRange, intL, loadL, storeL, setElems, setParts, fitsElem, lenL, isNilL, partL, chunks, o5, e5, g]
  | j + 1, i, z, v1, v3, v4, v5, v7, v8, o1, o3, o4, o5, o7, o8, hz, hij => by
    subst hz
    have hi : i < l.length := by omega
    have hi1 : i < 100 := by omega
    obtain ⟨s, hs⟩ : ∃ s, l[i]? = some s := ⟨_, List.getElem?_eq_getElem hi⟩
    have hsm : s ∈ l := List.mem_of_getElem? hs
    have hdrop : (l.take 100).drop i = s :: (l.take 100).drop (i + 1) := by
      rw [List.drop_eq_getElem_cons (by simp; omega)]
      rw [List.getElem?_eq_getElem hi] at hs; injection hs with hs; rw [List.getElem_take, hs]
    have e1 : (i : Int) < (l.length : Int) := by omega
    have e2 : (i : Int) < 100 := by omega
    have e0 : 0 ≤ (i : Int) ∧ (i : Int) < (l.length : Int) := by omega
    have e3 : IntKind.i64.wrap ((i : Int) + 1) = (i : Int) + 1 := wi64 (by omega) (by omega)
    have e5 : (statesL l).length = l.length := statesL_len l
    have e6 : (statesL l)[i]? = some (.agg s.cells) := by rw [statesL_get, hs]; rfl
    have e7 : ∀ n, LVal.withins n (statesL l) = true := fun n => statesL_within n l
    have e8 : ∀ n, LVal.withins n s.cells = true := fun n => cells_within n
    obtain ⟨so, sm⟩ := hlies s hsm
    have q1 : s.cells.length = 31 := rfl
    have q2 : s.cells.all LVal.plain = true := by simp only [StateS.cells]; rcases so with ho | ho <;> rw [ho] <;> rfl
    have q3 : s.cells.any LVal.isOwn = false := by simp only [StateS.cells]; rcases so with ho | ho <;> rw [ho] <;> rfl
    have hr := fun v1 v4 v7 v8 => r9 s so (.vs b .sh 31 (statesL l)) v1 v4 v7 v8 i
    rw [codeW_loop]
    generalize hK : thenW (codeW D.T (.loop D.b9_2)) = K
    have hfx := few_head (s := s)
    cases hb : headBad s with
    | true =>
      rw [hb] at hfx
      have hx : ((l.take 100).drop i).all fewB = false := by rw [hdrop]; simp [hfx]
      refine ⟨fun j => [.undef, .undef, .int .i64 i, .ptr 0 0, v4, .bool true, .bool true, v7, v8].getD j .undef, [.cells 31 s.cells], ?_⟩
      rw [hx]
      rw [hb] at hr
      simp only [StateS.cells, LinkS.cells, LoginS.cells, List.cons_append, List.nil_append] at hr e6 e8 ⊢
      rcases so with so | so <;> simp only [so] at hr e6 e8 ⊢
      · simp [D.b9_2, runFun, LMode.isPure, LVal.pfs, LVal.pf, Go.L.initVars, codeW_seq, codeW_region, codeW_regionD, codeW_cond, codeW_ret, codeW_skip, codeW_exit, codeW_block, codeW_fence, thenW, outW, fenceOut, kill, LVal.withins, LVal.within, runOps, runOpsD, Go.L.step, stepD, semD, sem, RS.peek, RS.put, RS.give, RS.take, RS.takes, RS.takeElems, RS.takeParts, RS.peeks, RS.peekO, RS.setVar, RS.noPk, RS.settle, RS.alloc, callOut, LVal.arg, LVal.isAgg, LVal.cells, LVal.unpk, LVal.copy, LVal.down, LVal.plain, LVal.settled, binL, binInt, binStr, unL, resL, resOne, res1, resAll, LVal.isTup, outL, LOp.quiet, LOp.acts, LOp.peeks, LOper.fix, calmOk, loadCalm, awayOk, dstFree, LVal.free, LVal.calm, LVal.calm1, LOp.opds, optL, RS.acquire, appendL, elemsL, bound, inRange, intL, loadL, storeL, setElems, setParts, fitsElem, lenL, isNilL, partL, chunks, o1, o3, o5, e0, e1, e2, e5, e6, e7, hr]
        subst hK
        rfl
      · simp [D.b9_2, runFun, LMode.isPure, LVal.pfs, LVal.pf, Go.L.initVars, codeW_seq, codeW_region, codeW_regionD, codeW_cond, codeW_ret, codeW_skip, codeW_exit, codeW_block, codeW_fence, thenW, outW, fenceOut, kill, LVal.withins, LVal.within, runOps, runOpsD, Go.L.step, stepD, semD, sem, RS.peek, RS.put, RS.give, RS.take, RS.takes, RS.takeElems, RS.takeParts, RS.peeks, RS.peekO, RS.setVar, RS.noPk, RS.settle, RS.alloc, callOut, LVal.arg, LVal.isAgg, LVal.cells, LVal.unpk, LVal.copy, LVal.down, LVal.plain, LVal.settled, binL, binInt, binStr, unL, resL, resOne, res1, resAll, LVal.isTup, outL, LOp.quiet, LOp.acts, LOp.peeks, LOper.fix, calmOk, loadCalm, awayOk, dstFree, LVal.free, LVal.calm, LVal.calm1, LOp.opds, optL, RS.acquire, appendL, elemsL, bound, inRange, intL, loadL, storeL, setElems, setParts, fitsElem, lenL, isNilL, partL, chunks, o1, o3, o5, e0, e1, e2, e5, e6, e7, hr]
        subst hK
        rfl
    | false =>
      rw [hb] at hfx hr
      obtain ⟨w, c1⟩ := loop9in (.vs b .sh 31 (statesL l)) rfl rfl s so sm (head_due hb) i s.due.length 0 0 v1 (.bool true) (.bool false) v7 v8 o1 o7 o8 rfl (by omega)
      rw [List.drop_zero] at c1
      cases hsh : s.due.all fun d => decide (d.data.length ≤ 500) with
      | true =>
        rw [hsh] at hfx c1
        obtain ⟨w2, st2, c2⟩ := loop9out b l hlies j (i + 1) ((i : Int) + 1) .undef .undef .undef .undef .undef .undef rfl rfl rfl rfl rfl rfl (by omega) (by omega)
        have hx : ((l.take 100).drop i).all fewB = ((l.take 100).drop (i + 1)).all fewB := by rw [hdrop]; simp [hfx]
        refine ⟨w2, st2, ?_⟩
        rw [hx]
        simp only [if_true] at c1
        simp only [StateS.cells, LinkS.cells, LoginS.cells, List.cons_append, List.nil_append] at hr e6 e8 c1 ⊢
        rcases so with so | so <;> simp only [so] at hr e6 e8 c1 ⊢
        · simp [D.b9_2, runFun, LMode.isPure, LVal.pfs, LVal.pf, Go.L.initVars, codeW_seq, codeW_region, codeW_regionD, codeW_cond, codeW_ret, codeW_skip, codeW_exit, codeW_block, codeW_fence, thenW, outW, fenceOut, kill, LVal.withins, LVal.within, runOps, runOpsD, Go.L.step, stepD, semD, sem, RS.peek, RS.put, RS.give, RS.take, RS.takes, RS.takeElems, RS.takeParts, RS.peeks, RS.peekO, RS.setVar, RS.noPk, RS.settle, RS.alloc, callOut, LVal.arg, LVal.isAgg, LVal.cells, LVal.unpk, LVal.copy, LVal.down, LVal.plain, LVal.settled, binL, binInt, binStr, unL, resL, resOne, res1, resAll, LVal.isTup, outL, LOp.quiet, LOp.acts, LOp.peeks, LOper.fix, calmOk, loadCalm, awayOk, dstFree, LVal.free, LVal.calm, LVal.calm1, LOp.opds, optL, RS.acquire, appendL, elemsL, bound, inRange, intL, loadL, storeL, setElems, setParts, fitsElem, lenL, isNilL, partL, chunks, o1, o3, o4, o5, e0, e1, e2, e3, e5, e6, e7, hr, c1, duesL_within]
          subst hK
          simpa using c2
        · simp [D.b9_2, runFun, LMode.isPure, LVal.pfs, LVal.pf, Go.L.initVars, codeW_seq, codeW_region, codeW_regionD, codeW_cond, codeW_ret, codeW_skip, codeW_exit, codeW_block, codeW_fence, thenW, outW, fenceOut, kill, LVal.withins, LVal.within, runOps, runOpsD, Go.L.step, stepD, semD, sem, RS.peek, RS.put, RS.give, RS.take, RS.takes, RS.takeElems, RS.takeParts, RS.peeks, RS.peekO, RS.setVar, RS.noPk, RS.settle, RS.alloc, callOut, LVal.arg, LVal.isAgg, LVal.cells, LVal.unpk, LVal.copy, LVal.down, LVal.plain, LVal.settled, binL, binInt, binStr, unL, resL, resOne, res1, resAll, LVal.isTup, outL, LOp.quiet, LOp.acts, LOp.peeks, LOper.fix, calmOk, loadCalm, awayOk, dstFree, LVal.free, LVal.calm, LVal.calm1, LOp.opds, optL, RS.acquire, appendL, elemsL, bound, inRange, intL, loadL, storeL, setElems, setParts, fitsElem, lenL, isNilL, partL, chunks, o1, o3, o4, o5, e0, e1, e2, e3, e5, e6, e7, hr, c1, duesL_within]
          subst hK
          simpa using c2
      | false =>
        rw [hsh] at hfx c1
        have hx : ((l.take 100).drop i).all fewB = false := by rw [hdrop]; simp [hfx]
        refine ⟨fun j => [.undef, .undef, .int .i64 i, .ptr 0 0, w 4, w 5, w 6, w 7, w 8].getD j .undef, [.cells 31 s.cells], ?_⟩
        rw [hx]
        simp only [Bool.false_eq_true, if_false] at c1
        simp only [StateS.cells, LinkS.cells, LoginS.cells, List.cons_append, List.nil_append] at hr e6 e8 c1 ⊢
        rcases so with so | so <;> simp only [so] at hr e6 e8 c1 ⊢
        · simp [D.b9_2, runFun, LMode.isPure, LVal.pfs, LVal.pf, Go.L.initVars, codeW_seq, codeW_region, codeW_regionD, codeW_cond, codeW_ret, codeW_skip, codeW_exit, codeW_block, codeW_fence, thenW, outW, fenceOut, kill, LVal.withins, LVal.within, runOps, runOpsD, Go.L.step, stepD, semD, sem, RS.peek, RS.put, RS.give, RS.take, RS.takes, RS.takeElems, RS.takeParts, RS.peeks, RS.peekO, RS.setVar, RS.noPk, RS.settle, RS.alloc, callOut, LVal.arg, LVal.isAgg, LVal.cells, LVal.unpk, LVal.copy, LVal.down, LVal.plain, LVal.settled, binL, binInt, binStr, unL, resL, resOne, res1, resAll, LVal.isTup, outL, LOp.quiet, LOp.acts, LOp.peeks, LOper.fix, calmOk, loadCalm, awayOk, dstFree, LVal.free, LVal.calm, LVal.calm1, LOp.opds, optL, RS.acquire, appendL, elemsL, bound, inRange, intL, loadL, storeL, setElems, setParts, fitsElem, lenL, isNilL, partL, chunks, o1, o3, o4, o5, e0, e1, e2, e3, e5, e6, e7, hr, c1]
          subst hK
          rfl
        · simp [D.b9_2, runFun, LMode.isPure, LVal.pfs, LVal.pf, Go.L.initVars, codeW_seq, codeW_region, codeW_regionD, codeW_cond, codeW_ret, codeW_skip, codeW_exit, codeW_block, codeW_fence, thenW, outW, fenceOut, kill, LVal.withins, LVal.within, runOps, runOpsD, Go.L.step, stepD, semD, sem, RS.peek, RS.put, RS.give, RS.take, RS.takes, RS.takeElems, RS.takeParts, RS.peeks, RS.peekO, RS.setVar, RS.noPk, RS.settle, RS.alloc, callOut, LVal.arg, LVal.isAgg, LVal.cells, LVal.unpk, LVal.copy, LVal.down, LVal.plain, LVal.settled, binL, binInt, binStr, unL, resL, resOne, res1, resAll, LVal.isTup, outL, LOp.quiet, LOp.acts, LOp.peeks, LOper.fix, calmOk, loadCalm, awayOk, dstFree, LVal.free, LVal.calm, LVal.calm1, LOp.opds, optL, RS.acquire, appendL, elemsL, bound, inRange, intL, loadL, storeL, setElems, setParts, fitsElem, lenL, isNilL, partL, chunks, o1, o3, o4, o5, e0, e1, e2, e3, e5, e6, e7, hr, c1]
          subst hK
          rfl

def fewL (l : List StateS) : Bool := (l.take 100).all fewB && decide (l.length ≤ 40)
theorem fewL_ok {l : List StateS} (h : fewL l = true) : l.length ≤ 40 ∧ ∀ s ∈ l, s.few := by
  simp only [fewL, Bool.and_eq_true, decide_eq_true_eq, List.all_eq_true] at h
  refine ⟨h.2, fun s hs => fewB_ok (h.1 s ?_)⟩
  rw [List.take_of_length_le (by omega)]
  exact hs

theorem fn9 : D.T.fns 9 = some (.fn D.l9) := rfl
set_option maxHeartbeats 2000000 in
theorem few_eq (b : Bool) (l : List StateS) (hlies : ∀ s ∈ l, s.lies) : callW D.T 9 [.vs b .sh 31 (statesL l)] [] = some (.bool (fewL l), none) := by
  obtain ⟨w, st', c1⟩ := loop9out b l hlies (min 100 l.length) 0 0 (.bool false) .undef .undef .undef .undef .undef rfl rfl rfl rfl rfl rfl rfl (by omega)
  rw [List.drop_zero] at c1
  have e5 : (statesL l).length = l.length := statesL_len l
  have e7 : ∀ n, LVal.withins n (statesL l) = true := fun n => statesL_within n l
  rw [callW_fn fn9]
  cases hx : (l.take 100).all fewB with
  | true =>
    rw [hx] at c1
    simp only [if_true] at c1
    have hd : decide ((l.length : Int) ≤ 40) = fewL l := by simp only [fewL, hx, Bool.true_and]; congr 1; simp; omega
    simp [D.l9, D.c9, runFun, LMode.isPure, LVal.pfs, LVal.pf, Go.L.initVars, codeW_seq, codeW_region, codeW_regionD, codeW_cond, codeW_ret, codeW_skip, codeW_exit, codeW_block, codeW_fence, thenW, outW, fenceOut, kill, LVal.withins, LVal.within, runOps, runOpsD, Go.L.step, stepD, semD, sem, RS.peek, RS.put, RS.give, RS.take, RS.takes, RS.takeElems, RS.takeParts, RS.peeks, RS.peekO, RS.setVar, RS.noPk, RS.settle, RS.alloc, callOut, LVal.arg, LVal.isAgg, LVal.cells, LVal.unpk, LVal.copy, LVal.down, LVal.plain, LVal.settled, binL, binInt, binStr, unL, resL, resOne, res1, resAll, LVal.isTup, outL, LOp.quiet, LOp.acts, LOp.peeks, LOper.fix, calmOk, loadCalm, awayOk, dstFree, LVal.free, LVal.calm, LVal.calm1, LOp.opds, optL, RS.acquire, appendL, elemsL, bound, inRange, intL, loadL, storeL, setElems, setParts, fitsElem, lenL, isNilL, partL, chunks, c1, e5, e7, ← hd]
  | false =>
    rw [hx] at c1
    simp only [Bool.false_eq_true, if_false] at c1
    have hd : fewL l = false := by simp only [fewL, hx, Bool.false_and]
    simp [D.l9, D.c9, runFun, LMode.isPure, LVal.pfs, LVal.pf, Go.L.initVars, codeW_seq, codeW_region, codeW_regionD, codeW_cond, codeW_ret, codeW_skip, codeW_exit, codeW_block, codeW_fence, thenW, outW, fenceOut, kill, LVal.withins, LVal.within, runOps, runOpsD, Go.L.step, stepD, semD, sem, RS.peek, RS.put, RS.give, RS.take, RS.takes, RS.takeElems, RS.takeParts, RS.peeks, RS.peekO, RS.setVar, RS.noPk, RS.settle, RS.alloc, callOut, LVal.arg, LVal.isAgg, LVal.cells, LVal.unpk, LVal.copy, LVal.down, LVal.plain, LVal.settled, binL, binInt, binStr, unL, resL, resOne, res1, resAll, LVal.isTup, outL, LOp.quiet, LOp.acts, LOp.peeks, LOper.fix, calmOk, loadCalm, awayOk, dstFree, LVal.free, LVal.calm, LVal.calm1, LOp.opds, optL, RS.acquire, appendL, elemsL, bound, inRange, intL, loadL, storeL, setElems, setParts, fitsElem, lenL, isNilL, partL, chunks, c1, hd]
end Go.Proofs.Ytbljgbojkifoiaa
end
