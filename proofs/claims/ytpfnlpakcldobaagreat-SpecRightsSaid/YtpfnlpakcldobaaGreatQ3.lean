/- Configs as values; whether one may be, by the program and by the document. -/
import Derived.Test.YtpfnlpakcldobaaGreatQ1b
set_option linter.unusedVariables false
set_option linter.unusedSimpArgs false
namespace Go.Proofs.YtpfnlpakcldobaaGreat
open Go Go.L

structure ConfS where
  mc : Int
  mt : Int
  mf : Int
  mru : Int
  s1 : List UInt8
  s2 : List UInt8
  n : Int
  m : Int
  b : Bool
def ConfS.cells (c : ConfS) : List LVal := [.int .i64 c.mc, .int .i64 c.mt, .int .i64 c.mf, .int .i64 c.mru, .str c.s1, .str c.s2, .int .i64 c.n, .int .u32 c.m, .bool c.b]
def inB (n : Int) : Bool := decide (1 ≤ n) && decide (n ≤ 255)
def countsB (c : ConfS) : Bool := inB c.mc && inB c.mt && inB c.mf
def goodB (c : ConfS) : Bool := countsB c && decide (8 ≤ c.mru) && decide (c.mru ≤ 65535)

theorem fn36 : D.T.fns 36 = some (.fn D.l36) := rfl
theorem fn23 : D.T.fns 23 = some (.fn D.l23) := rfl
theorem fn24 : D.T.fns 24 = some (.fn D.l24) := rfl
theorem fn8 : D.T.fns 8 = some (.fn D.l8) := rfl
theorem fn9 : D.T.fns 9 = some (.fn D.l9) := rfl

set_option maxHeartbeats 4000000 in
theorem in_eq (n : Int) : callW D.T 36 [.int .i64 n] [] = some (.bool (inB n), none) := by
  rw [callW_fn fn36]
  by_cases h1 : 1 ≤ n
  · by_cases h2 : n ≤ 255
    · simp [D.l36, D.c36, runFun, LMode.isPure, LVal.pfs, LVal.pf, Go.L.initVars, codeW_seq, codeW_region, codeW_regionD, codeW_cond, codeW_ret, codeW_skip, codeW_exit, codeW_block, codeW_fence, thenW, outW, fenceOut, kill, LVal.withins, LVal.within, runOps, runOpsD, Go.L.step, stepD, semD, sem, RS.peek, RS.put, RS.give, RS.take, RS.takes, RS.takeElems, RS.takeParts, RS.peeks, RS.peekO, RS.setVar, RS.noPk, RS.settle, RS.alloc, callOut, LVal.arg, LVal.isAgg, LVal.cells, LVal.unpk, LVal.copy, LVal.down, LVal.plain, LVal.settled, binL, binInt, binStr, unL, resL, resOne, res1, resAll, LVal.isTup, outL, LOp.quiet, LOp.acts, LOp.peeks, LOper.fix, calmOk, loadCalm, awayOk, dstFree, LVal.free, LVal.calm, LVal.calm1, LOp.opds, optL, RS.acquire, appendL, elemsL, bound, inRange, intL, loadL, storeL, setElems, setParts, fitsElem, lenL, isNilL, partL, chunks, inB, h1, h2]
    · simp [D.l36, D.c36, runFun, LMode.isPure, LVal.pfs, LVal.pf, Go.L.initVars, codeW_seq, codeW_region, codeW_regionD, codeW_cond, codeW_ret, codeW_skip, codeW_exit, codeW_block, codeW_fence, thenW, outW, fenceOut, kill, LVal.withins, LVal.within, runOps, runOpsD, Go.L.step, stepD, semD, sem, RS.peek, RS.put, RS.give, RS.take, RS.takes, RS.takeElems, RS.takeParts, RS.peeks, RS.peekO, RS.setVar, RS.noPk, RS.settle, RS.alloc, callOut, LVal.arg, LVal.isAgg, LVal.cells, LVal.unpk, LVal.copy, LVal.down, LVal.plain, LVal.settled, binL, binInt, binStr, unL, resL, resOne, res1, resAll, LVal.isTup, outL, LOp.quiet, LOp.acts, LOp.peeks, LOper.fix, calmOk, loadCalm, awayOk, dstFree, LVal.free, LVal.calm, LVal.calm1, LOp.opds, optL, RS.acquire, appendL, elemsL, bound, inRange, intL, loadL, storeL, setElems, setParts, fitsElem, lenL, isNilL, partL, chunks, inB, h1, h2]
  · simp [D.l36, D.c36, runFun, LMode.isPure, LVal.pfs, LVal.pf, Go.L.initVars, codeW_seq, codeW_region, codeW_regionD, codeW_cond, codeW_ret, codeW_skip, codeW_exit, codeW_block, codeW_fence, thenW, outW, fenceOut, kill, LVal.withins, LVal.within, runOps, runOpsD, Go.L.step, stepD, semD, sem, RS.peek, RS.put, RS.give, RS.take, RS.takes, RS.takeElems, RS.takeParts, RS.peeks, RS.peekO, RS.setVar, RS.noPk, RS.settle, RS.alloc, callOut, LVal.arg, LVal.isAgg, LVal.cells, LVal.unpk, LVal.copy, LVal.down, LVal.plain, LVal.settled, binL, binInt, binStr, unL, resL, resOne, res1, resAll, LVal.isTup, outL, LOp.quiet, LOp.acts, LOp.peeks, LOper.fix, calmOk, loadCalm, awayOk, dstFree, LVal.free, LVal.calm, LVal.calm1, LOp.opds, optL, RS.acquire, appendL, elemsL, bound, inRange, intL, loadL, storeL, setElems, setParts, fitsElem, lenL, isNilL, partL, chunks, inB, h1]

set_option maxHeartbeats 4000000 in
theorem rcounts_eq (c : ConfS) : callW D.T 24 [.agg c.cells] [] = some (.bool (countsB c), none) := by
  have k1 := in_eq c.mc
  have k2 := in_eq c.mt
  have k3 := in_eq c.mf
  rw [callW_fn fn24]
  simp only [countsB, ConfS.cells]
  generalize inB c.mc = p at *
  generalize inB c.mt = q at *
  generalize inB c.mf = r at *
  cases p <;> cases q <;> cases r <;> simp [D.l24, D.c24, runFun, LMode.isPure, LVal.pfs, LVal.pf, Go.L.initVars, codeW_seq, codeW_region, codeW_regionD, codeW_cond, codeW_ret, codeW_skip, codeW_exit, codeW_block, codeW_fence, thenW, outW, fenceOut, kill, LVal.withins, LVal.within, runOps, runOpsD, Go.L.step, stepD, semD, sem, RS.peek, RS.put, RS.give, RS.take, RS.takes, RS.takeElems, RS.takeParts, RS.peeks, RS.peekO, RS.setVar, RS.noPk, RS.settle, RS.alloc, callOut, LVal.arg, LVal.isAgg, LVal.cells, LVal.unpk, LVal.copy, LVal.down, LVal.plain, LVal.settled, binL, binInt, binStr, unL, resL, resOne, res1, resAll, LVal.isTup, outL, LOp.quiet, LOp.acts, LOp.peeks, LOper.fix, calmOk, loadCalm, awayOk, dstFree, LVal.free, LVal.calm, LVal.calm1, LOp.opds, optL, RS.acquire, appendL, elemsL, bound, inRange, intL, loadL, storeL, setElems, setParts, fitsElem, lenL, isNilL, partL, chunks, k1, k2, k3]

/-- The least, and the greatest, of three. -/
def mn3 (a b d : Int) : Int := if d < (if b < a then b else a) then d else (if b < a then b else a)
def mx3 (a b d : Int) : Int := if d > (if b > a then b else a) then d else (if b > a then b else a)
theorem mms_min (a b d : Int) : mmsL false (.int .i64 a) [.int .i64 b, .int .i64 d] = some (.int .i64 (mn3 a b d)) := by
  simp only [mmsL, mmL, if_true, Option.bind_some, mn3, Bool.false_eq_true, if_false]
theorem mms_max (a b d : Int) : mmsL true (.int .i64 a) [.int .i64 b, .int .i64 d] = some (.int .i64 (mx3 a b d)) := by
  simp only [mmsL, mmL, if_true, Option.bind_some, mx3]
theorem counts3 (c : ConfS) : countsB c = (decide (1 ≤ mn3 c.mc c.mt c.mf) && decide (mx3 c.mc c.mt c.mf ≤ 255)) := by
  have h1 : ∀ a b d : Int, (1 ≤ mn3 a b d) ↔ (1 ≤ a ∧ 1 ≤ b ∧ 1 ≤ d) := by
    intro a b d
    unfold mn3
    by_cases x : b < a
    · rw [if_pos x]
      by_cases y : d < b
      · rw [if_pos y]; omega
      · rw [if_neg y]; omega
    · rw [if_neg x]
      by_cases y : d < a
      · rw [if_pos y]; omega
      · rw [if_neg y]; omega
  have h2 : ∀ a b d : Int, (mx3 a b d ≤ 255) ↔ (a ≤ 255 ∧ b ≤ 255 ∧ d ≤ 255) := by
    intro a b d
    unfold mx3
    by_cases x : b > a
    · rw [if_pos x]
      by_cases y : d > b
      · rw [if_pos y]; omega
      · rw [if_neg y]; omega
    · rw [if_neg x]
      by_cases y : d > a
      · rw [if_pos y]; omega
      · rw [if_neg y]; omega
  rw [Bool.eq_iff_iff]
  simp only [countsB, inB, Bool.and_eq_true, decide_eq_true_eq, h1, h2]
  omega

set_option maxHeartbeats 4000000 in
theorem r23 (c : ConfS) (A : LVal) (bb : Bool) : codeW D.T D.r23_0 { vars := [A, .ptr 0 0, .bool bb], st := [.cells 24 c.cells], rs := [] } = some (.normal, { vars := [A, .ptr 0 0, .bool (countsB c)], st := [.cells 24 c.cells], rs := [] }) := by
  rw [counts3]
  unfold D.r23_0
  simp only [ConfS.cells]
  have k1 := mms_min c.mc c.mt c.mf
  have k2 := mms_max c.mc c.mt c.mf
  generalize mn3 c.mc c.mt c.mf = mn at *
  generalize mx3 c.mc c.mt c.mf = mx at *
  by_cases h1 : 1 ≤ mn <;> by_cases h2 : mx ≤ 255
  all_goals
    simp only [h1, h2, decide_true, decide_false, Bool.and_true, Bool.and_false, Bool.true_and, Bool.false_and]
    apply regN
    simp only [List.replicate]
    repeat
      apply run_cons
      · first
          | (simp [runFun, LMode.isPure, LVal.pfs, LVal.pf, Go.L.initVars, codeW_seq, codeW_region, codeW_regionD, codeW_cond, codeW_ret, codeW_skip, codeW_exit, codeW_block, codeW_fence, thenW, outW, fenceOut, kill, LVal.withins, LVal.within, runOps, runOpsD, Go.L.step, stepD, semD, sem, RS.peek, RS.put, RS.give, RS.take, RS.takes, RS.takeElems, RS.takeParts, RS.peeks, RS.peekO, RS.setVar, RS.noPk, RS.settle, RS.alloc, callOut, LVal.arg, LVal.isAgg, LVal.cells, LVal.unpk, LVal.copy, LVal.down, LVal.plain, LVal.settled, binL, binInt, binStr, unL, resL, resOne, res1, resAll, LVal.isTup, outL, LOp.quiet, LOp.acts, LOp.peeks, LOper.fix, calmOk, loadCalm, awayOk, dstFree, LVal.free, LVal.calm, LVal.calm1, LOp.opds, optL, RS.acquire, appendL, elemsL, bound, inRange, intL, loadL, storeL, setElems, setParts, fitsElem, lenL, isNilL, partL, chunks, k1, k2, h1, h2]; done)
          | (simp [runFun, LMode.isPure, LVal.pfs, LVal.pf, Go.L.initVars, codeW_seq, codeW_region, codeW_regionD, codeW_cond, codeW_ret, codeW_skip, codeW_exit, codeW_block, codeW_fence, thenW, outW, fenceOut, kill, LVal.withins, LVal.within, runOps, runOpsD, Go.L.step, stepD, semD, sem, RS.peek, RS.put, RS.give, RS.take, RS.takes, RS.takeElems, RS.takeParts, RS.peeks, RS.peekO, RS.setVar, RS.noPk, RS.settle, RS.alloc, callOut, LVal.arg, LVal.isAgg, LVal.cells, LVal.unpk, LVal.copy, LVal.down, LVal.plain, LVal.settled, binL, binInt, binStr, unL, resL, resOne, res1, resAll, LVal.isTup, outL, LOp.quiet, LOp.acts, LOp.peeks, LOper.fix, calmOk, loadCalm, awayOk, dstFree, LVal.free, LVal.calm, LVal.calm1, LOp.opds, optL, RS.acquire, appendL, elemsL, bound, inRange, intL, loadL, storeL, setElems, setParts, fitsElem, lenL, isNilL, partL, chunks, k1, k2, h1, h2]; rfl)
    exact run_nil

set_option maxHeartbeats 4000000 in
theorem counts_eq (c : ConfS) : callW D.T 23 [.agg c.cells] [] = some (.bool (countsB c), none) := by
  have h := r23 c (.agg c.cells) false
  rw [callW_fn fn23]
  generalize countsB c = p at *
  simp only [ConfS.cells] at h ⊢
  simp [D.l23, D.c23, runFun, LMode.isPure, LVal.pfs, LVal.pf, Go.L.initVars, codeW_seq, codeW_region, codeW_regionD, codeW_cond, codeW_ret, codeW_skip, codeW_exit, codeW_block, codeW_fence, thenW, outW, fenceOut, kill, LVal.withins, LVal.within, runOps, runOpsD, Go.L.step, stepD, semD, sem, RS.peek, RS.put, RS.give, RS.take, RS.takes, RS.takeElems, RS.takeParts, RS.peeks, RS.peekO, RS.setVar, RS.noPk, RS.settle, RS.alloc, callOut, LVal.arg, LVal.isAgg, LVal.cells, LVal.unpk, LVal.copy, LVal.down, LVal.plain, LVal.settled, binL, binInt, binStr, unL, resL, resOne, res1, resAll, LVal.isTup, outL, LOp.quiet, LOp.acts, LOp.peeks, LOper.fix, calmOk, loadCalm, awayOk, dstFree, LVal.free, LVal.calm, LVal.calm1, LOp.opds, optL, RS.acquire, appendL, elemsL, bound, inRange, intL, loadL, storeL, setElems, setParts, fitsElem, lenL, isNilL, partL, chunks, h]

set_option maxHeartbeats 8000000 in
theorem good_eq (c : ConfS) : callW D.T 8 [.agg c.cells] [] = some (.bool (goodB c), none) := by
  have k := counts_eq c
  rw [callW_fn fn8]
  simp only [goodB]
  generalize countsB c = p at *
  simp only [ConfS.cells] at k ⊢
  by_cases h1 : 8 ≤ c.mru <;> by_cases h2 : c.mru ≤ 65535 <;> cases p <;> simp [D.l8, D.c8, runFun, LMode.isPure, LVal.pfs, LVal.pf, Go.L.initVars, codeW_seq, codeW_region, codeW_regionD, codeW_cond, codeW_ret, codeW_skip, codeW_exit, codeW_block, codeW_fence, thenW, outW, fenceOut, kill, LVal.withins, LVal.within, runOps, runOpsD, Go.L.step, stepD, semD, sem, RS.peek, RS.put, RS.give, RS.take, RS.takes, RS.takeElems, RS.takeParts, RS.peeks, RS.peekO, RS.setVar, RS.noPk, RS.settle, RS.alloc, callOut, LVal.arg, LVal.isAgg, LVal.cells, LVal.unpk, LVal.copy, LVal.down, LVal.plain, LVal.settled, binL, binInt, binStr, unL, resL, resOne, res1, resAll, LVal.isTup, outL, LOp.quiet, LOp.acts, LOp.peeks, LOper.fix, calmOk, loadCalm, awayOk, dstFree, LVal.free, LVal.calm, LVal.calm1, LOp.opds, optL, RS.acquire, appendL, elemsL, bound, inRange, intL, loadL, storeL, setElems, setParts, fitsElem, lenL, isNilL, partL, chunks, k, h1, h2]

set_option maxHeartbeats 8000000 in
theorem rgood_eq (c : ConfS) : callW D.T 9 [.agg c.cells] [] = some (.bool (goodB c), none) := by
  have k := rcounts_eq c
  rw [callW_fn fn9]
  simp only [goodB]
  generalize countsB c = p at *
  simp only [ConfS.cells] at k ⊢
  by_cases h1 : 8 ≤ c.mru <;> by_cases h2 : c.mru ≤ 65535 <;> cases p <;> simp [D.l9, D.c9, runFun, LMode.isPure, LVal.pfs, LVal.pf, Go.L.initVars, codeW_seq, codeW_region, codeW_regionD, codeW_cond, codeW_ret, codeW_skip, codeW_exit, codeW_block, codeW_fence, thenW, outW, fenceOut, kill, LVal.withins, LVal.within, runOps, runOpsD, Go.L.step, stepD, semD, sem, RS.peek, RS.put, RS.give, RS.take, RS.takes, RS.takeElems, RS.takeParts, RS.peeks, RS.peekO, RS.setVar, RS.noPk, RS.settle, RS.alloc, callOut, LVal.arg, LVal.isAgg, LVal.cells, LVal.unpk, LVal.copy, LVal.down, LVal.plain, LVal.settled, binL, binInt, binStr, unL, resL, resOne, res1, resAll, LVal.isTup, outL, LOp.quiet, LOp.acts, LOp.peeks, LOper.fix, calmOk, loadCalm, awayOk, dstFree, LVal.free, LVal.calm, LVal.calm1, LOp.opds, optL, RS.acquire, appendL, elemsL, bound, inRange, intL, loadL, storeL, setElems, setParts, fitsElem, lenL, isNilL, partL, chunks, k, h1, h2]
end Go.Proofs.YtpfnlpakcldobaaGreat
