/- SetsKeeps: both together. -/
import Derived.Test.YtbljgbojkifoiaaKK3
set_option linter.unusedVariables false
set_option linter.unusedSimpArgs false
namespace Go.Proofs.Ytbljgbojkifoiaa
open Go Go.L

theorem fn30 : D.T.fns 30 = some (.fn D.l30) := rfl
theorem fn42 : D.T.fns 42 = some (.hook D.hGrow) := rfl
theorem fn17 : D.T.fns 17 = some (.fn D.l17) := rfl

/-- A variable that no operation asks. -/
def Dull (v : LVal) : Prop := v = .undef ∨ v = .vs true .sh 0 []

abbrev W30 (a0 a1 v1 : LVal) (n i : Int) : RS :=
  { vars := [.vs false .sh 1 [a0, a1], v1, .int .i64 n, .undef, .undef, .undef, .vs false .sh 1 [a0, a1], .int .i64 2, .int .i64 i, .undef, .undef, .undef, .undef, .undef, .undef], st := [], rs := [] }

set_option maxHeartbeats 8000000 in
theorem it30a (b0 : Bool) (n0 : Nat) (xs : List LVal) (a1 v1 : LVal) (n : Nat) (hv : Dull v1) (ha : LVal.within 0 a1 = true) (hx : LVal.withins 0 xs = true) (hl : n + xs.length ≤ 100000) :
    codeW D.T (.loop D.b30_0) (W30 (.vs b0 .sh n0 xs) a1 v1 n 0) = codeW D.T (.loop D.b30_0) (W30 (.vs b0 .sh n0 xs) a1 .undef (n + xs.length : Nat) 1) := by
  have w2 : IntKind.i64.wrap ((n : Int) + xs.length) = (n : Int) + xs.length := wi64 (by omega) (by omega)
  have w5 : ¬ ((n : Int) + xs.length < 0) := by omega
  have w6 : IntKind.i64.wrap 1 = 1 := by decide
  rw [codeW_loop]
  generalize hK : thenW (codeW D.T (.loop D.b30_0)) = K
  rcases hv with rfl | rfl
  all_goals
    simp [D.b30_0, runFun, LMode.isPure, LVal.pfs, LVal.pf, Go.L.initVars, codeW_seq, codeW_region, codeW_regionD, codeW_cond, codeW_ret, codeW_skip, codeW_exit, codeW_block, codeW_fence, thenW, outW, fenceOut, kill, LVal.withins, LVal.within, runOps, runOpsD, Go.L.step, stepD, semD, sem, RS.peek, RS.put, RS.give, RS.take, RS.takes, RS.takeElems, RS.takeParts, RS.peeks, RS.peekO, RS.setVar, RS.noPk, RS.settle, RS.alloc, callOut, LVal.arg, LVal.isAgg, LVal.cells, LVal.unpk, LVal.copy, LVal.down, LVal.plain, LVal.settled, binL, binInt, binStr, unL, resL, resOne, res1, resAll, LVal.isTup, outL, LOp.quiet, LOp.acts, LOp.peeks, LOper.fix, calmOk, loadCalm, awayOk, dstFree, LVal.free, LVal.calm, LVal.calm1, LOp.opds, optL, RS.acquire, appendL, elemsL, bound, inRange, intL, loadL, storeL, setElems, setParts, fitsElem, lenL, isNilL, partL, chunks, w2, w5, w6, ha, hx]
    subst hK
    rfl
set_option maxHeartbeats 8000000 in
theorem it30b (b0 : Bool) (n0 : Nat) (xs : List LVal) (a0 v1 : LVal) (n : Nat) (hv : Dull v1) (ha : LVal.within 0 a0 = true) (hx : LVal.withins 0 xs = true) (hl : n + xs.length ≤ 100000) :
    codeW D.T (.loop D.b30_0) (W30 a0 (.vs b0 .sh n0 xs) v1 n 1) = codeW D.T (.loop D.b30_0) (W30 a0 (.vs b0 .sh n0 xs) .undef (n + xs.length : Nat) 2) := by
  have w2 : IntKind.i64.wrap ((n : Int) + xs.length) = (n : Int) + xs.length := wi64 (by omega) (by omega)
  have w5 : ¬ ((n : Int) + xs.length < 0) := by omega
  have w6 : IntKind.i64.wrap 2 = 2 := by decide
  rw [codeW_loop]
  generalize hK : thenW (codeW D.T (.loop D.b30_0)) = K
  rcases hv with rfl | rfl
  all_goals
    simp [D.b30_0, runFun, LMode.isPure, LVal.pfs, LVal.pf, Go.L.initVars, codeW_seq, codeW_region, codeW_regionD, codeW_cond, codeW_ret, codeW_skip, codeW_exit, codeW_block, codeW_fence, thenW, outW, fenceOut, kill, LVal.withins, LVal.within, runOps, runOpsD, Go.L.step, stepD, semD, sem, RS.peek, RS.put, RS.give, RS.take, RS.takes, RS.takeElems, RS.takeParts, RS.peeks, RS.peekO, RS.setVar, RS.noPk, RS.settle, RS.alloc, callOut, LVal.arg, LVal.isAgg, LVal.cells, LVal.unpk, LVal.copy, LVal.down, LVal.plain, LVal.settled, binL, binInt, binStr, unL, resL, resOne, res1, resAll, LVal.isTup, outL, LOp.quiet, LOp.acts, LOp.peeks, LOper.fix, calmOk, loadCalm, awayOk, dstFree, LVal.free, LVal.calm, LVal.calm1, LOp.opds, optL, RS.acquire, appendL, elemsL, bound, inRange, intL, loadL, storeL, setElems, setParts, fitsElem, lenL, isNilL, partL, chunks, w2, w5, w6, ha, hx]
    subst hK
    rfl
theorem it30c (a0 a1 v1 : LVal) (n : Nat) :
    codeW D.T (.loop D.b30_0) (W30 a0 a1 v1 n 2) = some (.exit 0, { (W30 a0 a1 v1 n 2) with vars := [.vs false .sh 1 [a0, a1], v1, .int .i64 n, .undef, .undef, .undef, .vs false .sh 1 [a0, a1], .int .i64 2, .int .i64 2, .bool false, .undef, .undef, .undef, .undef, .undef] }) := by
  rw [codeW_loop]
  simp [D.b30_0, runFun, LMode.isPure, LVal.pfs, LVal.pf, Go.L.initVars, codeW_seq, codeW_region, codeW_regionD, codeW_cond, codeW_ret, codeW_skip, codeW_exit, codeW_block, codeW_fence, thenW, outW, fenceOut, kill, LVal.withins, LVal.within, runOps, runOpsD, Go.L.step, stepD, semD, sem, RS.peek, RS.put, RS.give, RS.take, RS.takes, RS.takeElems, RS.takeParts, RS.peeks, RS.peekO, RS.setVar, RS.noPk, RS.settle, RS.alloc, callOut, LVal.arg, LVal.isAgg, LVal.cells, LVal.unpk, LVal.copy, LVal.down, LVal.plain, LVal.settled, binL, binInt, binStr, unL, resL, resOne, res1, resAll, LVal.isTup, outL, LOp.quiet, LOp.acts, LOp.peeks, LOper.fix, calmOk, loadCalm, awayOk, dstFree, LVal.free, LVal.calm, LVal.calm1, LOp.opds, optL, RS.acquire, appendL, elemsL, bound, inRange, intL, loadL, storeL, setElems, setParts, fitsElem, lenL, isNilL, partL, chunks]

abbrev X30 (a0 a1 v1 out : LVal) (n i : Int) : RS :=
  { vars := [.vs false .sh 1 [a0, a1], v1, .int .i64 n, .undef, out, .undef, .undef, .undef, .undef, .undef, .undef, .vs false .sh 1 [a0, a1], .int .i64 2, .int .i64 i, .undef], st := [], rs := [] }
abbrev Y30 (a0 a1 out : LVal) (i : Int) : RS :=
  { vars := [.undef, .undef, .undef, .undef, out, .undef, .undef, .undef, .undef, .undef, .undef, .vs false .sh 1 [a0, a1], .int .i64 2, .int .i64 i, .undef], st := [], rs := [] }

/-- What is put together. -/
def AccS (v : LVal) (l : List StateS) : Prop := (l = [] ∧ v = .vs true .sh 0 []) ∨ v = .vs false (.own 31 true) 31 (statesL l)

set_option maxHeartbeats 8000000 in
theorem ap30a (b0 : Bool) (n0 : Nat) (l ys : List StateS) (a1 v1 : LVal) (n : Int) (hv : Dull v1) (h0 : l = [] ∨ n0 = 31) (ha : LVal.within 0 a1 = true) (hl : l.length ≤ 1000) (hy : ys.length ≤ 1000) (out : LVal) (ho : AccS out ys) :
    ∃ out', AccS out' (ys ++ l) ∧ codeW D.T (.loop D.b30_1) (X30 (.vs b0 .sh n0 (statesL l)) a1 v1 out n 0) = codeW D.T (.loop D.b30_1) (Y30 (.vs b0 .sh n0 (statesL l)) a1 out' 1) := by
  have e5 : (statesL l).length = l.length := statesL_len l
  have e6 : (statesL ys).length = ys.length := statesL_len ys
  have e7 : ∀ (n : Nat) (l : List StateS), LVal.withins n (statesL l) = true := fun n l => statesL_within n l
  have w6 : IntKind.i64.wrap 1 = 1 := by decide
  obtain ⟨m1, m2, m3, m4⟩ : l.length * 256 ≤ maxBytes ∧ l.length ≤ maxBytes ∧ (ys.length + l.length) * 256 ≤ maxBytes ∧ ys.length + l.length ≤ maxBytes := ⟨mb (by omega), mb (by omega), mb (by omega), mb (by omega)⟩
  conv => enter [1, out', 2, 1]; rw [codeW_loop]
  generalize hK : thenW (codeW D.T (.loop D.b30_1)) = K
  by_cases hn : l = []
  · subst hn
    have hs : statesL [] = [] := rfl
    refine ⟨out, by simpa using ho, ?_⟩
    rcases hv with rfl | rfl <;> rcases ho with ⟨rfl, rfl⟩ | rfl
    all_goals
      simp [D.b30_1, runFun, LMode.isPure, LVal.pfs, LVal.pf, Go.L.initVars, codeW_seq, codeW_region, codeW_regionD, codeW_cond, codeW_ret, codeW_skip, codeW_exit, codeW_block, codeW_fence, thenW, outW, fenceOut, kill, LVal.withins, LVal.within, runOps, runOpsD, Go.L.step, stepD, semD, sem, RS.peek, RS.put, RS.give, RS.take, RS.takes, RS.takeElems, RS.takeParts, RS.peeks, RS.peekO, RS.setVar, RS.noPk, RS.settle, RS.alloc, callOut, LVal.arg, LVal.isAgg, LVal.cells, LVal.unpk, LVal.copy, LVal.down, LVal.plain, LVal.settled, binL, binInt, binStr, unL, resL, resOne, res1, resAll, LVal.isTup, outL, LOp.quiet, LOp.acts, LOp.peeks, LOper.fix, calmOk, loadCalm, awayOk, dstFree, LVal.free, LVal.calm, LVal.calm1, LOp.opds, optL, RS.acquire, appendL, elemsL, bound, inRange, intL, loadL, storeL, setElems, setParts, fitsElem, lenL, isNilL, partL, chunks, hs, ha, w6, e6, e7]
      subst hK
      rfl
  · have hn0 := h0.resolve_left hn
    have hs : ¬ statesL l = [] := by simpa [statesL] using hn
    subst hn0
    refine ⟨_, .inr rfl, ?_⟩
    rw [statesL_append]
    rcases hv with rfl | rfl <;> rcases ho with ⟨rfl, rfl⟩ | rfl
    all_goals
      simp [D.b30_1, runFun, LMode.isPure, LVal.pfs, LVal.pf, Go.L.initVars, codeW_seq, codeW_region, codeW_regionD, codeW_cond, codeW_ret, codeW_skip, codeW_exit, codeW_block, codeW_fence, thenW, outW, fenceOut, kill, LVal.withins, LVal.within, runOps, runOpsD, Go.L.step, stepD, semD, sem, RS.peek, RS.put, RS.give, RS.take, RS.takes, RS.takeElems, RS.takeParts, RS.peeks, RS.peekO, RS.setVar, RS.noPk, RS.settle, RS.alloc, callOut, LVal.arg, LVal.isAgg, LVal.cells, LVal.unpk, LVal.copy, LVal.down, LVal.plain, LVal.settled, binL, binInt, binStr, unL, resL, resOne, res1, resAll, LVal.isTup, outL, LOp.quiet, LOp.acts, LOp.peeks, LOper.fix, calmOk, loadCalm, awayOk, dstFree, LVal.free, LVal.calm, LVal.calm1, LOp.opds, optL, RS.acquire, appendL, elemsL, bound, inRange, intL, loadL, storeL, setElems, setParts, fitsElem, lenL, isNilL, partL, chunks, e5, e6, e7, ha, w6, hn, hs, m1, m2, m3, m4]
      subst hK
      rfl
set_option maxHeartbeats 8000000 in
theorem ap30b (b0 : Bool) (n0 : Nat) (l ys : List StateS) (a0 : LVal) (h0 : l = [] ∨ n0 = 31) (ha : LVal.within 0 a0 = true) (hl : l.length ≤ 1000) (hy : ys.length ≤ 1000) (out : LVal) (ho : AccS out ys) :
    ∃ out', AccS out' (ys ++ l) ∧ codeW D.T (.loop D.b30_1) (Y30 a0 (.vs b0 .sh n0 (statesL l)) out 1) = codeW D.T (.loop D.b30_1) (Y30 a0 (.vs b0 .sh n0 (statesL l)) out' 2) := by
  have e5 : (statesL l).length = l.length := statesL_len l
  have e6 : (statesL ys).length = ys.length := statesL_len ys
  have e7 : ∀ (n : Nat) (l : List StateS), LVal.withins n (statesL l) = true := fun n l => statesL_within n l
  have w6 : IntKind.i64.wrap 2 = 2 := by decide
  obtain ⟨m1, m2, m3, m4⟩ : l.length * 256 ≤ maxBytes ∧ l.length ≤ maxBytes ∧ (ys.length + l.length) * 256 ≤ maxBytes ∧ ys.length + l.length ≤ maxBytes := ⟨mb (by omega), mb (by omega), mb (by omega), mb (by omega)⟩
  conv => enter [1, out', 2, 1]; rw [codeW_loop]
  generalize hK : thenW (codeW D.T (.loop D.b30_1)) = K
  by_cases hn : l = []
  · subst hn
    have hs : statesL [] = [] := rfl
    refine ⟨out, by simpa using ho, ?_⟩
    rcases ho with ⟨rfl, rfl⟩ | rfl
    all_goals
      simp [D.b30_1, runFun, LMode.isPure, LVal.pfs, LVal.pf, Go.L.initVars, codeW_seq, codeW_region, codeW_regionD, codeW_cond, codeW_ret, codeW_skip, codeW_exit, codeW_block, codeW_fence, thenW, outW, fenceOut, kill, LVal.withins, LVal.within, runOps, runOpsD, Go.L.step, stepD, semD, sem, RS.peek, RS.put, RS.give, RS.take, RS.takes, RS.takeElems, RS.takeParts, RS.peeks, RS.peekO, RS.setVar, RS.noPk, RS.settle, RS.alloc, callOut, LVal.arg, LVal.isAgg, LVal.cells, LVal.unpk, LVal.copy, LVal.down, LVal.plain, LVal.settled, binL, binInt, binStr, unL, resL, resOne, res1, resAll, LVal.isTup, outL, LOp.quiet, LOp.acts, LOp.peeks, LOper.fix, calmOk, loadCalm, awayOk, dstFree, LVal.free, LVal.calm, LVal.calm1, LOp.opds, optL, RS.acquire, appendL, elemsL, bound, inRange, intL, loadL, storeL, setElems, setParts, fitsElem, lenL, isNilL, partL, chunks, hs, ha, w6, e6, e7]
      subst hK
      rfl
  · have hn0 := h0.resolve_left hn
    have hs : ¬ statesL l = [] := by simpa [statesL] using hn
    subst hn0
    refine ⟨_, .inr rfl, ?_⟩
    rw [statesL_append]
    rcases ho with ⟨rfl, rfl⟩ | rfl
    all_goals
      simp [D.b30_1, runFun, LMode.isPure, LVal.pfs, LVal.pf, Go.L.initVars, codeW_seq, codeW_region, codeW_regionD, codeW_cond, codeW_ret, codeW_skip, codeW_exit, codeW_block, codeW_fence, thenW, outW, fenceOut, kill, LVal.withins, LVal.within, runOps, runOpsD, Go.L.step, stepD, semD, sem, RS.peek, RS.put, RS.give, RS.take, RS.takes, RS.takeElems, RS.takeParts, RS.peeks, RS.peekO, RS.setVar, RS.noPk, RS.settle, RS.alloc, callOut, LVal.arg, LVal.isAgg, LVal.cells, LVal.unpk, LVal.copy, LVal.down, LVal.plain, LVal.settled, binL, binInt, binStr, unL, resL, resOne, res1, resAll, LVal.isTup, outL, LOp.quiet, LOp.acts, LOp.peeks, LOper.fix, calmOk, loadCalm, awayOk, dstFree, LVal.free, LVal.calm, LVal.calm1, LOp.opds, optL, RS.acquire, appendL, elemsL, bound, inRange, intL, loadL, storeL, setElems, setParts, fitsElem, lenL, isNilL, partL, chunks, e5, e6, e7, ha, w6, hn, hs, m1, m2, m3, m4]
      subst hK
      rfl
theorem ap30c (a0 a1 out : LVal) :
    codeW D.T (.loop D.b30_1) (Y30 a0 a1 out 2) = some (.exit 2, { vars := [.undef, .undef, .undef, .undef, out, .undef, .undef, .undef, .undef, .undef, .undef, .vs false .sh 1 [a0, a1], .int .i64 2, .int .i64 2, .bool false], st := [], rs := [] }) := by
  rw [codeW_loop]
  simp [D.b30_1, runFun, LMode.isPure, LVal.pfs, LVal.pf, Go.L.initVars, codeW_seq, codeW_region, codeW_regionD, codeW_cond, codeW_ret, codeW_skip, codeW_exit, codeW_block, codeW_fence, thenW, outW, fenceOut, kill, LVal.withins, LVal.within, runOps, runOpsD, Go.L.step, stepD, semD, sem, RS.peek, RS.put, RS.give, RS.take, RS.takes, RS.takeElems, RS.takeParts, RS.peeks, RS.peekO, RS.setVar, RS.noPk, RS.settle, RS.alloc, callOut, LVal.arg, LVal.isAgg, LVal.cells, LVal.unpk, LVal.copy, LVal.down, LVal.plain, LVal.settled, binL, binInt, binStr, unL, resL, resOne, res1, resAll, LVal.isTup, outL, LOp.quiet, LOp.acts, LOp.peeks, LOper.fix, calmOk, loadCalm, awayOk, dstFree, LVal.free, LVal.calm, LVal.calm1, LOp.opds, optL, RS.acquire, appendL, elemsL, bound, inRange, intL, loadL, storeL, setElems, setParts, fitsElem, lenL, isNilL, partL, chunks]

set_option maxHeartbeats 8000000 in
/-- Concat, of two. -/
theorem concat_eq (b0 b1 : Bool) (n0 n1 : Nat) (l m : List StateS) (h0 : l = [] ∨ n0 = 31) (h1 : m = [] ∨ n1 = 31) (hl : l.length ≤ 1000) (hm : m.length ≤ 1000) :
    ∃ b n, callW D.T 30 [.vs false .sh 1 [.vs b0 .sh n0 (statesL l), .vs b1 .sh n1 (statesL m)]] [] = some (.vs b .sh n (statesL (l ++ m)), none) ∧ (l ++ m = [] ∨ n = 31) := by
  have e5 : (statesL l).length = l.length := statesL_len l
  have e5' : (statesL m).length = m.length := statesL_len m
  have e7 : ∀ l : List StateS, LVal.pfs (statesL l) = true := statesL_pfs
  have e8 : ∀ (n : Nat) (l : List StateS), LVal.withins n (statesL l) = true := fun n l => statesL_within n l
  have p1 := it30a b0 n0 (statesL l) (.vs b1 .sh n1 (statesL m)) (.vs true .sh 0 []) 0 (.inr rfl) (by simp [LVal.within, e8]) (e8 0 l) (by omega)
  have p2 := it30b b1 n1 (statesL m) (.vs b0 .sh n0 (statesL l)) .undef (0 + (statesL l).length) (.inl rfl) (by simp [LVal.within, e8]) (e8 0 m) (by omega)
  have p3 := it30c (.vs b0 .sh n0 (statesL l)) (.vs b1 .sh n1 (statesL m)) .undef (0 + (statesL l).length + (statesL m).length)
  have hc : (((0 : Nat)) : Int) = 0 := rfl
  have hc1 : ((1 : Nat) : Int) = 1 := rfl
  rw [p2, p3] at p1
  generalize hN : 0 + (statesL l).length + (statesL m).length = N at p1
  rw [hc] at p1
  have hN' : N ≤ 2000 := by omega
  obtain ⟨g, k42, hg⟩ : ∃ g, callW D.T 42 [.vs true .sh 0 [], .int .i64 (N : Int)] [] = some (g, none) ∧ AccS g [] := by
    rw [callW_hook fn42]
    by_cases hz : N = 0
    · exact ⟨_, by simp [D.hGrow, hz], .inl ⟨rfl, rfl⟩⟩
    · have q1 : ¬ ((N : Int) = 0) := by omega
      have q2 : (0 : Int) < N := by omega
      have q3 : (N : Int) * 256 ≤ 140737488355328 := by omega
      have q4 : 0 < N := by omega
      exact ⟨_, by simp [D.hGrow, q1, q2, q3, hz, q4]; rfl, .inr rfl⟩
  obtain ⟨o1, A1, a1⟩ := ap30a b0 n0 l [] (.vs b1 .sh n1 (statesL m)) .undef (N : Int) (.inl rfl) h0 (by simp [LVal.within, e8]) hl (by simp) g hg
  obtain ⟨o2, A2, a2⟩ := ap30b b1 n1 m l (.vs b0 .sh n0 (statesL l)) h1 (by simp [LVal.within, e8]) hm hl o1 (by simpa using A1)
  rw [a2, ap30c] at a1
  rcases A2 with ⟨q1, rfl⟩ | rfl
  · refine ⟨true, 0, ?_, .inl q1⟩
    rw [callW_fn fn30, q1]
    rcases hg with ⟨_, rfl⟩ | rfl
    all_goals
      simp [D.l30, D.c30, runFun, LMode.isPure, LVal.pfs, LVal.pf, Go.L.initVars, codeW_seq, codeW_region, codeW_regionD, codeW_cond, codeW_ret, codeW_skip, codeW_exit, codeW_block, codeW_fence, thenW, outW, fenceOut, kill, LVal.withins, LVal.within, runOps, runOpsD, Go.L.step, stepD, semD, sem, RS.peek, RS.put, RS.give, RS.take, RS.takes, RS.takeElems, RS.takeParts, RS.peeks, RS.peekO, RS.setVar, RS.noPk, RS.settle, RS.alloc, callOut, LVal.arg, LVal.isAgg, LVal.cells, LVal.unpk, LVal.copy, LVal.down, LVal.plain, LVal.settled, binL, binInt, binStr, unL, resL, resOne, res1, resAll, LVal.isTup, outL, LOp.quiet, LOp.acts, LOp.peeks, LOper.fix, calmOk, loadCalm, awayOk, dstFree, LVal.free, LVal.calm, LVal.calm1, LOp.opds, optL, RS.acquire, appendL, elemsL, bound, inRange, intL, loadL, storeL, setElems, setParts, fitsElem, lenL, isNilL, partL, chunks, e7]
      rw [p1]
      simp [runFun, LMode.isPure, LVal.pfs, LVal.pf, Go.L.initVars, codeW_seq, codeW_region, codeW_regionD, codeW_cond, codeW_ret, codeW_skip, codeW_exit, codeW_block, codeW_fence, thenW, outW, fenceOut, kill, LVal.withins, LVal.within, runOps, runOpsD, Go.L.step, stepD, semD, sem, RS.peek, RS.put, RS.give, RS.take, RS.takes, RS.takeElems, RS.takeParts, RS.peeks, RS.peekO, RS.setVar, RS.noPk, RS.settle, RS.alloc, callOut, LVal.arg, LVal.isAgg, LVal.cells, LVal.unpk, LVal.copy, LVal.down, LVal.plain, LVal.settled, binL, binInt, binStr, unL, resL, resOne, res1, resAll, LVal.isTup, outL, LOp.quiet, LOp.acts, LOp.peeks, LOper.fix, calmOk, loadCalm, awayOk, dstFree, LVal.free, LVal.calm, LVal.calm1, LOp.opds, optL, RS.acquire, appendL, elemsL, bound, inRange, intL, loadL, storeL, setElems, setParts, fitsElem, lenL, isNilL, partL, chunks, e7, e8, k42]
      rw [a1]
      simp [runFun, LMode.isPure, LVal.pfs, LVal.pf, Go.L.initVars, codeW_seq, codeW_region, codeW_regionD, codeW_cond, codeW_ret, codeW_skip, codeW_exit, codeW_block, codeW_fence, thenW, outW, fenceOut, kill, LVal.withins, LVal.within, runOps, runOpsD, Go.L.step, stepD, semD, sem, RS.peek, RS.put, RS.give, RS.take, RS.takes, RS.takeElems, RS.takeParts, RS.peeks, RS.peekO, RS.setVar, RS.noPk, RS.settle, RS.alloc, callOut, LVal.arg, LVal.isAgg, LVal.cells, LVal.unpk, LVal.copy, LVal.down, LVal.plain, LVal.settled, binL, binInt, binStr, unL, resL, resOne, res1, resAll, LVal.isTup, outL, LOp.quiet, LOp.acts, LOp.peeks, LOper.fix, calmOk, loadCalm, awayOk, dstFree, LVal.free, LVal.calm, LVal.calm1, LOp.opds, optL, RS.acquire, appendL, elemsL, bound, inRange, intL, loadL, storeL, setElems, setParts, fitsElem, lenL, isNilL, partL, chunks, e7, e8, statesL]
  · refine ⟨false, 31, ?_, .inr rfl⟩
    rw [callW_fn fn30]
    rcases hg with ⟨_, rfl⟩ | rfl
    all_goals
      simp [D.l30, D.c30, runFun, LMode.isPure, LVal.pfs, LVal.pf, Go.L.initVars, codeW_seq, codeW_region, codeW_regionD, codeW_cond, codeW_ret, codeW_skip, codeW_exit, codeW_block, codeW_fence, thenW, outW, fenceOut, kill, LVal.withins, LVal.within, runOps, runOpsD, Go.L.step, stepD, semD, sem, RS.peek, RS.put, RS.give, RS.take, RS.takes, RS.takeElems, RS.takeParts, RS.peeks, RS.peekO, RS.setVar, RS.noPk, RS.settle, RS.alloc, callOut, LVal.arg, LVal.isAgg, LVal.cells, LVal.unpk, LVal.copy, LVal.down, LVal.plain, LVal.settled, binL, binInt, binStr, unL, resL, resOne, res1, resAll, LVal.isTup, outL, LOp.quiet, LOp.acts, LOp.peeks, LOper.fix, calmOk, loadCalm, awayOk, dstFree, LVal.free, LVal.calm, LVal.calm1, LOp.opds, optL, RS.acquire, appendL, elemsL, bound, inRange, intL, loadL, storeL, setElems, setParts, fitsElem, lenL, isNilL, partL, chunks, e7]
      rw [p1]
      simp [runFun, LMode.isPure, LVal.pfs, LVal.pf, Go.L.initVars, codeW_seq, codeW_region, codeW_regionD, codeW_cond, codeW_ret, codeW_skip, codeW_exit, codeW_block, codeW_fence, thenW, outW, fenceOut, kill, LVal.withins, LVal.within, runOps, runOpsD, Go.L.step, stepD, semD, sem, RS.peek, RS.put, RS.give, RS.take, RS.takes, RS.takeElems, RS.takeParts, RS.peeks, RS.peekO, RS.setVar, RS.noPk, RS.settle, RS.alloc, callOut, LVal.arg, LVal.isAgg, LVal.cells, LVal.unpk, LVal.copy, LVal.down, LVal.plain, LVal.settled, binL, binInt, binStr, unL, resL, resOne, res1, resAll, LVal.isTup, outL, LOp.quiet, LOp.acts, LOp.peeks, LOper.fix, calmOk, loadCalm, awayOk, dstFree, LVal.free, LVal.calm, LVal.calm1, LOp.opds, optL, RS.acquire, appendL, elemsL, bound, inRange, intL, loadL, storeL, setElems, setParts, fitsElem, lenL, isNilL, partL, chunks, e7, e8, k42]
      rw [a1]
      simp [runFun, LMode.isPure, LVal.pfs, LVal.pf, Go.L.initVars, codeW_seq, codeW_region, codeW_regionD, codeW_cond, codeW_ret, codeW_skip, codeW_exit, codeW_block, codeW_fence, thenW, outW, fenceOut, kill, LVal.withins, LVal.within, runOps, runOpsD, Go.L.step, stepD, semD, sem, RS.peek, RS.put, RS.give, RS.take, RS.takes, RS.takeElems, RS.takeParts, RS.peeks, RS.peekO, RS.setVar, RS.noPk, RS.settle, RS.alloc, callOut, LVal.arg, LVal.isAgg, LVal.cells, LVal.unpk, LVal.copy, LVal.down, LVal.plain, LVal.settled, binL, binInt, binStr, unL, resL, resOne, res1, resAll, LVal.isTup, outL, LOp.quiet, LOp.acts, LOp.peeks, LOper.fix, calmOk, loadCalm, awayOk, dstFree, LVal.free, LVal.calm, LVal.calm1, LOp.opds, optL, RS.acquire, appendL, elemsL, bound, inRange, intL, loadL, storeL, setElems, setParts, fitsElem, lenL, isNilL, partL, chunks, e7, e8]

set_option maxHeartbeats 8000000 in
/-- Join: the list is one's own. -/
theorem join_eq {b0 b1 : Bool} {n0 n1 : Nat} {l m : List StateS} (h0 : l = [] ∨ n0 = 31) (h1 : m = [] ∨ n1 = 31) (hl1 : ∀ x ∈ l, x.ok ∧ x.few) (hm1 : ∀ x ∈ m, x.ok ∧ x.few) (hl : l.length ≤ 400) (hm : m.length ≤ 400) :
    ∃ v, callW D.T 17 [.vs b0 .sh n0 (statesL l), .vs b1 .sh n1 (statesL m)] [] = some (v, none) ∧ LstO v (setS (l ++ m)) := by
  have e7 : ∀ l : List StateS, LVal.pfs (statesL l) = true := statesL_pfs
  obtain ⟨b, n, k30, hn⟩ := concat_eq b0 b1 n0 n1 l m h0 h1 (by omega) (by omega)
  obtain ⟨v, k15, hS⟩ := of_eq (b := b) hn (fun x hx => (List.mem_append.1 hx).elim (hl1 x) (hm1 x)) (by simp; omega)
  rcases hS with ⟨q1, rfl⟩ | ⟨q1, rfl⟩
  · refine ⟨_, ?_, .inl ⟨q1, rfl⟩⟩
    rw [callW_fn fn17]
    simp [D.l17, D.c17, runFun, LMode.isPure, LVal.pfs, LVal.pf, Go.L.initVars, codeW_seq, codeW_region, codeW_regionD, codeW_cond, codeW_ret, codeW_skip, codeW_exit, codeW_block, codeW_fence, thenW, outW, fenceOut, kill, LVal.withins, LVal.within, runOps, runOpsD, Go.L.step, stepD, semD, sem, RS.peek, RS.put, RS.give, RS.take, RS.takes, RS.takeElems, RS.takeParts, RS.peeks, RS.peekO, RS.setVar, RS.noPk, RS.settle, RS.alloc, callOut, LVal.arg, LVal.isAgg, LVal.cells, LVal.unpk, LVal.copy, LVal.down, LVal.plain, LVal.settled, binL, binInt, binStr, unL, resL, resOne, res1, resAll, LVal.isTup, outL, LOp.quiet, LOp.acts, LOp.peeks, LOper.fix, calmOk, loadCalm, awayOk, dstFree, LVal.free, LVal.calm, LVal.calm1, LOp.opds, optL, RS.acquire, appendL, elemsL, bound, inRange, intL, loadL, storeL, setElems, setParts, fitsElem, lenL, isNilL, partL, chunks, e7, k30, k15]
  · refine ⟨_, ?_, .inr ⟨q1, rfl⟩⟩
    rw [callW_fn fn17]
    simp [D.l17, D.c17, runFun, LMode.isPure, LVal.pfs, LVal.pf, Go.L.initVars, codeW_seq, codeW_region, codeW_regionD, codeW_cond, codeW_ret, codeW_skip, codeW_exit, codeW_block, codeW_fence, thenW, outW, fenceOut, kill, LVal.withins, LVal.within, runOps, runOpsD, Go.L.step, stepD, semD, sem, RS.peek, RS.put, RS.give, RS.take, RS.takes, RS.takeElems, RS.takeParts, RS.peeks, RS.peekO, RS.setVar, RS.noPk, RS.settle, RS.alloc, callOut, LVal.arg, LVal.isAgg, LVal.cells, LVal.unpk, LVal.copy, LVal.down, LVal.plain, LVal.settled, binL, binInt, binStr, unL, resL, resOne, res1, resAll, LVal.isTup, outL, LOp.quiet, LOp.acts, LOp.peeks, LOper.fix, calmOk, loadCalm, awayOk, dstFree, LVal.free, LVal.calm, LVal.calm1, LOp.opds, optL, RS.acquire, appendL, elemsL, bound, inRange, intL, loadL, storeL, setElems, setParts, fitsElem, lenL, isNilL, partL, chunks, e7, k30, k15]

theorem putS_ne {s : StateS} : ∀ {m : List StateS}, putS s m ≠ []
  | [] => by simp [putS]
  | x :: m => by simp only [putS]; split <;> simp
theorem foldP_ne : ∀ (l acc : List StateS), acc ≠ [] → l.foldl (fun m s => putS s m) acc ≠ []
  | [], acc, h => h
  | x :: l, acc, h => foldP_ne l _ putS_ne
theorem setS_nil {l : List StateS} (h : setS l = []) : l = [] := by
  have h1 : (mapS l).length = 0 := by
    have := congrArg List.length (byKeyS_keys (mapS l))
    simp only [List.length_map, sortK_len] at this
    rw [← this]
    have h' : byKeyS (mapS l) = [] := h
    rw [h']; rfl
  have h2 : mapS l = [] := List.eq_nil_of_length_eq_zero h1
  cases l with
  | nil => rfl
  | cons x l => exact absurd h2 (foldP_ne l _ putS_ne)
end Go.Proofs.Ytbljgbojkifoiaa
