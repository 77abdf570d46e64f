/- SetsKeeps: what the law answers. -/
import Derived.Test.YtbljgbojkifoiaaKK5
import Derived.Test.YtbljgbojkifoiaaKVC
import Derived.Test.YtbljgbojkifoiaaKVI
import Derived.Test.YtbljgbojkifoiaaKVE
set_option linter.unusedVariables false
set_option linter.unusedSimpArgs false
namespace Go.Proofs.Ytbljgbojkifoiaa
open Go Go.L

theorem fn7 : D.T.fns 7 = some (.fn D.l7) := rfl
theorem isAgg_agg (c : List LVal) : LVal.isAgg (.agg c) = true := rfl
theorem statesL_agg (l : List StateS) : ∀ x ∈ statesL l, x.isAgg = true := by
  intro x hx
  simp only [statesL, List.mem_map] at hx
  obtain ⟨s, _, rfl⟩ := hx
  rfl
theorem given_lies {s : StateS} (h : s.given) : s.lies := ⟨h.1.2.2.2.2.2.2.1, h.1.2.2.2.2.2.2.2⟩
theorem within_cells {k n : Nat} {c : List LVal} (h : Flat k c) : LObj.within n (.cells 31 c) = true := h.fx.2.2.2.2.2.2.2.2.2.2 n
theorem settle_cells1 {k : Nat} {c : List LVal} (h : Flat k c) : LObj.settle (.cells 31 c) = .cells 31 c := by
  simp only [LObj.settle, h.fx.2.2.2.2.2.2.2.1]
theorem sameS_self (l : List StateS) : sameS l l = true := by simp [sameS]
theorem st0_ok : (∀ x ∈ ([] : List LObj), LObj.within ([] : List LObj).length x = true) ∧ ([] : List LObj).map LObj.settle = [] := ⟨by simp, rfl⟩
theorem st1_ok {k : Nat} {c : List LVal} (h : Flat k c) : (∀ x ∈ [LObj.cells 31 c], LObj.within [LObj.cells 31 c].length x = true) ∧ [LObj.cells 31 c].map LObj.settle = [LObj.cells 31 c] :=
  ⟨fun x hx => by simp at hx; rw [hx]; exact within_cells h, by simp [settle_cells1 h]⟩
theorem st1_ok' {k : Nat} {c : List LVal} (h : Flat k c) : (∀ x ∈ [LObj.cells 31 c], LObj.within ([LObj.cells 31 c].length + 1) x = true) ∧ [LObj.cells 31 c].map LObj.settle = [LObj.cells 31 c] :=
  ⟨fun x hx => by simp at hx; rw [hx]; exact within_cells h, by simp [settle_cells1 h]⟩
theorem st2_ok {k k' : Nat} {c c' : List LVal} (h : Flat k c) (h' : Flat k' c') : (∀ x ∈ [LObj.cells 31 c, .cells 31 c'], LObj.within [LObj.cells 31 c, .cells 31 c'].length x = true) ∧ [LObj.cells 31 c, .cells 31 c'].map LObj.settle = [LObj.cells 31 c, .cells 31 c'] :=
  ⟨fun x hx => by simp at hx; rcases hx with rfl | rfl; exact within_cells h; exact within_cells h', by simp [settle_cells1 h, settle_cells1 h']⟩

/-- What a region's guard and the like ask of the first part. -/
abbrev St7 (b0 b1 : Bool) (l m : List StateS) : List LVal := [.vs b0 .sh 31 (statesL l), .vs b1 .sh 31 (statesL m)]

set_option maxHeartbeats 40000000 in
/-- Nothing is handed in, and nothing is there. -/
theorem keeps1 (b0 b1 : Bool) (m : List StateS) (hf : callW D.T 9 [.vs b0 .sh 31 []] [] = some (.bool true, none)) (hg : callW D.T 9 [.vs b1 .sh 31 (statesL m)] [] = some (.bool true, none))
    (k13 : callW D.T 13 [.vs b1 .sh 31 (statesL m)] [] = some (.vs true .sh 0 [], none)) :
    callW D.T 7 [.vs b0 .sh 31 [], .vs b1 .sh 31 (statesL m)] [] = some (.bool true, none) := by
  have e7 : ∀ l : List StateS, LVal.pfs (statesL l) = true := statesL_pfs
  obtain ⟨va, k15, hA⟩ := of_eq (b := false) (n := 31) (l := []) (.inl rfl) (fun x h => by simp at h) (by simp)
  have hs0 : setS [] = [] := rfl
  have hst : statesL [] = [] := rfl
  rw [hs0] at hA
  obtain rfl : va = .vs true .sh 0 [] := by
    rcases hA with ⟨_, h⟩ | ⟨h, _⟩
    · exact h
    · exact absurd rfl h
  obtain ⟨vx, k17, hX⟩ := join_eq (b0 := true) (n0 := 0) (b1 := true) (n1 := 0) (l := []) (m := []) (.inl rfl) (.inl rfl) (fun x h => by simp at h) (fun x h => by simp at h) (by simp) (by simp)
  have hs1 : setS ([] ++ []) = [] := rfl
  rw [hs1] at hX
  obtain rfl : vx = .vs true .sh 0 [] := by
    rcases hX with ⟨_, h⟩ | ⟨h, _⟩
    · exact h
    · exact absurd rfl h
  have s := fun (b c : Bool) (n k : Nat) => rsame_eq (b0 := b) (b1 := c) (n0 := n) (n1 := k) (l := []) (m := []) (.inl rfl) (.inl rfl) (fun x h => by simp at h) (fun x h => by simp at h) (by simp) (by simp) (st := []) st0_ok.1 st0_ok.2
  simp only [sameS_self, hst] at s k15 k17
  rw [callW_fn fn7]
  simp [D.l7, D.c7, runFun, LMode.isPure, LVal.pfs, LVal.pf, Go.L.initVars, codeW_seq, codeW_region, codeW_regionD, codeW_cond, codeW_ret, codeW_skip, codeW_exit, codeW_block, codeW_fence, thenW, outW, fenceOut, kill, LVal.withins, LVal.within, runOps, runOpsD, Go.L.step, stepD, semD, sem, RS.peek, RS.put, RS.give, RS.take, RS.takes, RS.takeElems, RS.takeParts, RS.peeks, RS.peekO, RS.setVar, RS.noPk, RS.settle, RS.alloc, callOut, LVal.arg, LVal.isAgg, LVal.cells, LVal.unpk, LVal.copy, LVal.down, LVal.plain, LVal.settled, binL, binInt, binStr, unL, resL, resOne, res1, resAll, LVal.isTup, outL, LOp.quiet, LOp.acts, LOp.peeks, LOper.fix, calmOk, loadCalm, awayOk, dstFree, LVal.free, LVal.calm, LVal.calm1, LOp.opds, optL, RS.acquire, appendL, elemsL, bound, inRange, intL, loadL, storeL, setElems, setParts, fitsElem, lenL, isNilL, partL, chunks, awake_eq, hf, hg, e7, k13, k15, k17, s]
  rw [codeW_loop]
  simp [D.b7_0, runFun, LMode.isPure, LVal.pfs, LVal.pf, Go.L.initVars, codeW_seq, codeW_region, codeW_regionD, codeW_cond, codeW_ret, codeW_skip, codeW_exit, codeW_block, codeW_fence, thenW, outW, fenceOut, kill, LVal.withins, LVal.within, runOps, runOpsD, Go.L.step, stepD, semD, sem, RS.peek, RS.put, RS.give, RS.take, RS.takes, RS.takeElems, RS.takeParts, RS.peeks, RS.peekO, RS.setVar, RS.noPk, RS.settle, RS.alloc, callOut, LVal.arg, LVal.isAgg, LVal.cells, LVal.unpk, LVal.copy, LVal.down, LVal.plain, LVal.settled, binL, binInt, binStr, unL, resL, resOne, res1, resAll, LVal.isTup, outL, LOp.quiet, LOp.acts, LOp.peeks, LOper.fix, calmOk, loadCalm, awayOk, dstFree, LVal.free, LVal.calm, LVal.calm1, LOp.opds, optL, RS.acquire, appendL, elemsL, bound, inRange, intL, loadL, storeL, setElems, setParts, fitsElem, lenL, isNilL, partL, chunks]
  rw [codeW_loop]
  simp [D.b7_1, runFun, LMode.isPure, LVal.pfs, LVal.pf, Go.L.initVars, codeW_seq, codeW_region, codeW_regionD, codeW_cond, codeW_ret, codeW_skip, codeW_exit, codeW_block, codeW_fence, thenW, outW, fenceOut, kill, LVal.withins, LVal.within, runOps, runOpsD, Go.L.step, stepD, semD, sem, RS.peek, RS.put, RS.give, RS.take, RS.takes, RS.takeElems, RS.takeParts, RS.peeks, RS.peekO, RS.setVar, RS.noPk, RS.settle, RS.alloc, callOut, LVal.arg, LVal.isAgg, LVal.cells, LVal.unpk, LVal.copy, LVal.down, LVal.plain, LVal.settled, binL, binInt, binStr, unL, resL, resOne, res1, resAll, LVal.isTup, outL, LOp.quiet, LOp.acts, LOp.peeks, LOper.fix, calmOk, loadCalm, awayOk, dstFree, LVal.free, LVal.calm, LVal.calm1, LOp.opds, optL, RS.acquire, appendL, elemsL, bound, inRange, intL, loadL, storeL, setElems, setParts, fitsElem, lenL, isNilL, partL, chunks, s]
end Go.Proofs.Ytbljgbojkifoiaa
