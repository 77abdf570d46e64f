/- Sets: by key, whole. -/
import Derived.Test.YtbljgbojkifoiaaSy28
set_option linter.unusedVariables false
set_option linter.unusedSimpArgs false
namespace Go.Proofs.Ytbljgbojkifoiaa
open Go Go.L

theorem mem_insK {k x : List UInt8} : ∀ {l : List (List UInt8)}, x ∈ D.insK k l ↔ x = k ∨ x ∈ l
  | [] => by simp [D.insK]
  | y :: l => by
    simp only [D.insK]
    split
    · simp
    · simp only [List.mem_cons, mem_insK (l := l)]
      constructor
      · rintro (h | h | h) <;> simp [h]
      · rintro (h | h | h) <;> simp [h]
theorem mem_sortK {x : List UInt8} : ∀ {l : List (List UInt8)}, x ∈ D.sortK l ↔ x ∈ l
  | [] => by simp [D.sortK]
  | y :: l => by simp [D.sortK, mem_insK, mem_sortK (l := l)]
theorem insK_len {k : List UInt8} : ∀ {l : List (List UInt8)}, (D.insK k l).length = l.length + 1
  | [] => rfl
  | y :: l => by
    simp only [D.insK]
    split
    · simp
    · simp [insK_len (l := l)]
theorem sortK_len : ∀ {l : List (List UInt8)}, (D.sortK l).length = l.length
  | [] => rfl
  | y :: l => by simp [D.sortK, insK_len, sortK_len (l := l)]

theorem getS_some {k : List UInt8} : ∀ {m : List StateS}, k ∈ m.map keyB → ∃ x, getS k m = some x
  | [], h => by simp at h
  | y :: m, h => by
    simp only [getS]
    by_cases hk : k = keyB y
    · exact ⟨y, by simp [hk]⟩
    · simp only [if_neg hk]
      simp only [List.map_cons, List.mem_cons] at h
      exact getS_some (h.resolve_left hk)

def byKeyS (m : List StateS) : List StateS := pick (D.sortK (m.map keyB)) m

theorem byKeyS_mem {m : List StateS} {x : StateS} (h : x ∈ byKeyS m) : x ∈ m := by
  simp only [byKeyS, pick, List.mem_filterMap] at h
  obtain ⟨k, _, hk⟩ := h
  exact (getS_mem hk).1

theorem pick_keys (m : List StateS) : ∀ (ks : List (List UInt8)), (∀ k ∈ ks, ∃ x, getS k m = some x) → (pick ks m).map keyB = ks
  | [], _ => rfl
  | k :: ks, h => by
    obtain ⟨x, hx⟩ := h k (List.mem_cons_self ..)
    have ih := pick_keys m ks (fun k hk => h k (List.mem_cons_of_mem _ hk))
    simp only [pick] at ih
    simp only [pick, List.filterMap_cons, hx, List.map_cons, ih, (getS_mem hx).2]

theorem byKeyS_keys (m : List StateS) : (byKeyS m).map keyB = D.sortK (m.map keyB) :=
  pick_keys m _ fun k hk => getS_some (mem_sortK.1 hk)

set_option maxHeartbeats 8000000 in
theorem byKey_eq (m : List StateS) (hm : ∀ x ∈ m, x.ok ∧ x.few) (hl : m.length ≤ 1000) :
    ∃ v, callW D.T 29 [.map 0] [.map (entL m)] = some (v, some [.map (entL m)]) ∧ Sl v (byKeyS m) := by
  have k1 := keys_eq (entL m)
  have k2 := sorted_eq m hm (by omega)
  obtain ⟨g1, g2⟩ := entL_within 1 m
  have g0 : LObj.within 1 (.map (entL m)) = true := by simp [LObj.within, g1, g2]
  obtain ⟨h1, h2⟩ := entL_within 2 m
  have h0 : LObj.within 2 (.map (entL m)) = true := by simp [LObj.within, h1, h2]
  have h3 : LObj.within 2 (.cells 59 [.map 0]) = true := rfl
  have e7 : ∀ (n : Nat) (l : List StateS), LVal.withins n (statesL l) = true := fun n l => statesL_within n l
  have z0 : ((0 : Nat) : Int) = 0 := rfl
  cases m with
  | nil =>
    refine ⟨_, ?_, .inl ⟨rfl, rfl⟩⟩
    rw [callW_fn fn29]
    simp [D.l29, D.c29, runFun, LMode.isPure, LVal.pfs, LVal.pf, Go.L.initVars, codeW_seq, codeW_region, codeW_regionD, codeW_cond, codeW_ret, codeW_skip, codeW_exit, codeW_block, codeW_fence, thenW, outW, fenceOut, kill, LVal.withins, LVal.within, runOps, runOpsD, Go.L.step, stepD, semD, sem, RS.peek, RS.put, RS.give, RS.take, RS.takes, RS.takeElems, RS.takeParts, RS.peeks, RS.peekO, RS.setVar, RS.noPk, RS.settle, RS.alloc, callOut, LVal.arg, LVal.isAgg, LVal.cells, LVal.unpk, LVal.copy, LVal.down, LVal.plain, LVal.settled, binL, binInt, binStr, unL, resL, resOne, res1, resAll, LVal.isTup, outL, LOp.quiet, LOp.acts, LOp.peeks, LOper.fix, calmOk, loadCalm, awayOk, dstFree, LVal.free, LVal.calm, LVal.calm1, LOp.opds, optL, RS.acquire, appendL, elemsL, bound, inRange, intL, loadL, storeL, setElems, setParts, fitsElem, lenL, isNilL, partL, chunks, k1, k2]
    rw [codeW_loop]
    simp [D.b29_0, runFun, LMode.isPure, LVal.pfs, LVal.pf, Go.L.initVars, codeW_seq, codeW_region, codeW_regionD, codeW_cond, codeW_ret, codeW_skip, codeW_exit, codeW_block, codeW_fence, thenW, outW, fenceOut, kill, LVal.withins, LVal.within, runOps, runOpsD, Go.L.step, stepD, semD, sem, RS.peek, RS.put, RS.give, RS.take, RS.takes, RS.takeElems, RS.takeParts, RS.peeks, RS.peekO, RS.setVar, RS.noPk, RS.settle, RS.alloc, callOut, LVal.arg, LVal.isAgg, LVal.cells, LVal.unpk, LVal.copy, LVal.down, LVal.plain, LVal.settled, binL, binInt, binStr, unL, resL, resOne, res1, resAll, LVal.isTup, outL, LOp.quiet, LOp.acts, LOp.peeks, LOper.fix, calmOk, loadCalm, awayOk, dstFree, LVal.free, LVal.calm, LVal.calm1, LOp.opds, optL, RS.acquire, appendL, elemsL, bound, inRange, intL, loadL, storeL, setElems, setParts, fitsElem, lenL, isNilL, partL, chunks, g0, h0, h3]
  | cons x m =>
    generalize hM : x :: m = M at *
    have hne : M.isEmpty = false := by rw [← hM]; rfl
    simp only [hne, Bool.false_eq_true, if_false] at k2
    have hlen : (D.sortK (M.map keyB)).length = M.length := by rw [sortK_len]; simp
    obtain ⟨out', w, hL, c1⟩ := loop29 M false (D.sortK (M.map keyB)) hm (fun k hk => getS_some (mem_sortK.1 hk)) (by omega) (D.sortK (M.map keyB)).length 0 [] (.vs true .sh 0 []) (.vs true .sh 0 []) .undef .undef rfl rfl rfl rfl (by omega) (.inl ⟨rfl, rfl⟩) rfl
    rw [z0] at c1
    simp only [List.drop_zero, List.nil_append] at hL
    have hb : pick (D.sortK (M.map keyB)) M = byKeyS M := rfl
    rw [hb] at hL
    rcases lst_cases hL with ⟨q1, rfl⟩ | ⟨q1, o, rfl, rfl | rfl⟩
    · refine ⟨_, ?_, .inl ⟨q1, rfl⟩⟩
      rw [callW_fn fn29]
      simp [D.l29, D.c29, runFun, LMode.isPure, LVal.pfs, LVal.pf, Go.L.initVars, codeW_seq, codeW_region, codeW_regionD, codeW_cond, codeW_ret, codeW_skip, codeW_exit, codeW_block, codeW_fence, thenW, outW, fenceOut, kill, LVal.withins, LVal.within, runOps, runOpsD, Go.L.step, stepD, semD, sem, RS.peek, RS.put, RS.give, RS.take, RS.takes, RS.takeElems, RS.takeParts, RS.peeks, RS.peekO, RS.setVar, RS.noPk, RS.settle, RS.alloc, callOut, LVal.arg, LVal.isAgg, LVal.cells, LVal.unpk, LVal.copy, LVal.down, LVal.plain, LVal.settled, binL, binInt, binStr, unL, resL, resOne, res1, resAll, LVal.isTup, outL, LOp.quiet, LOp.acts, LOp.peeks, LOper.fix, calmOk, loadCalm, awayOk, dstFree, LVal.free, LVal.calm, LVal.calm1, LOp.opds, optL, RS.acquire, appendL, elemsL, bound, inRange, intL, loadL, storeL, setElems, setParts, fitsElem, lenL, isNilL, partL, chunks, k1, k2]
      rw [c1]
      simp [runFun, LMode.isPure, LVal.pfs, LVal.pf, Go.L.initVars, codeW_seq, codeW_region, codeW_regionD, codeW_cond, codeW_ret, codeW_skip, codeW_exit, codeW_block, codeW_fence, thenW, outW, fenceOut, kill, LVal.withins, LVal.within, runOps, runOpsD, Go.L.step, stepD, semD, sem, RS.peek, RS.put, RS.give, RS.take, RS.takes, RS.takeElems, RS.takeParts, RS.peeks, RS.peekO, RS.setVar, RS.noPk, RS.settle, RS.alloc, callOut, LVal.arg, LVal.isAgg, LVal.cells, LVal.unpk, LVal.copy, LVal.down, LVal.plain, LVal.settled, binL, binInt, binStr, unL, resL, resOne, res1, resAll, LVal.isTup, outL, LOp.quiet, LOp.acts, LOp.peeks, LOper.fix, calmOk, loadCalm, awayOk, dstFree, LVal.free, LVal.calm, LVal.calm1, LOp.opds, optL, RS.acquire, appendL, elemsL, bound, inRange, intL, loadL, storeL, setElems, setParts, fitsElem, lenL, isNilL, partL, chunks, g0, h0, h3, e7]
    · refine ⟨_, ?_, .inr ⟨q1, .full, rfl, .inr rfl⟩⟩
      rw [callW_fn fn29]
      simp [D.l29, D.c29, runFun, LMode.isPure, LVal.pfs, LVal.pf, Go.L.initVars, codeW_seq, codeW_region, codeW_regionD, codeW_cond, codeW_ret, codeW_skip, codeW_exit, codeW_block, codeW_fence, thenW, outW, fenceOut, kill, LVal.withins, LVal.within, runOps, runOpsD, Go.L.step, stepD, semD, sem, RS.peek, RS.put, RS.give, RS.take, RS.takes, RS.takeElems, RS.takeParts, RS.peeks, RS.peekO, RS.setVar, RS.noPk, RS.settle, RS.alloc, callOut, LVal.arg, LVal.isAgg, LVal.cells, LVal.unpk, LVal.copy, LVal.down, LVal.plain, LVal.settled, binL, binInt, binStr, unL, resL, resOne, res1, resAll, LVal.isTup, outL, LOp.quiet, LOp.acts, LOp.peeks, LOper.fix, calmOk, loadCalm, awayOk, dstFree, LVal.free, LVal.calm, LVal.calm1, LOp.opds, optL, RS.acquire, appendL, elemsL, bound, inRange, intL, loadL, storeL, setElems, setParts, fitsElem, lenL, isNilL, partL, chunks, k1, k2]
      rw [c1]
      simp [runFun, LMode.isPure, LVal.pfs, LVal.pf, Go.L.initVars, codeW_seq, codeW_region, codeW_regionD, codeW_cond, codeW_ret, codeW_skip, codeW_exit, codeW_block, codeW_fence, thenW, outW, fenceOut, kill, LVal.withins, LVal.within, runOps, runOpsD, Go.L.step, stepD, semD, sem, RS.peek, RS.put, RS.give, RS.take, RS.takes, RS.takeElems, RS.takeParts, RS.peeks, RS.peekO, RS.setVar, RS.noPk, RS.settle, RS.alloc, callOut, LVal.arg, LVal.isAgg, LVal.cells, LVal.unpk, LVal.copy, LVal.down, LVal.plain, LVal.settled, binL, binInt, binStr, unL, resL, resOne, res1, resAll, LVal.isTup, outL, LOp.quiet, LOp.acts, LOp.peeks, LOper.fix, calmOk, loadCalm, awayOk, dstFree, LVal.free, LVal.calm, LVal.calm1, LOp.opds, optL, RS.acquire, appendL, elemsL, bound, inRange, intL, loadL, storeL, setElems, setParts, fitsElem, lenL, isNilL, partL, chunks, g0, h0, h3, e7]
    · refine ⟨_, ?_, .inr ⟨q1, .sh, rfl, .inl rfl⟩⟩
      rw [callW_fn fn29]
      simp [D.l29, D.c29, runFun, LMode.isPure, LVal.pfs, LVal.pf, Go.L.initVars, codeW_seq, codeW_region, codeW_regionD, codeW_cond, codeW_ret, codeW_skip, codeW_exit, codeW_block, codeW_fence, thenW, outW, fenceOut, kill, LVal.withins, LVal.within, runOps, runOpsD, Go.L.step, stepD, semD, sem, RS.peek, RS.put, RS.give, RS.take, RS.takes, RS.takeElems, RS.takeParts, RS.peeks, RS.peekO, RS.setVar, RS.noPk, RS.settle, RS.alloc, callOut, LVal.arg, LVal.isAgg, LVal.cells, LVal.unpk, LVal.copy, LVal.down, LVal.plain, LVal.settled, binL, binInt, binStr, unL, resL, resOne, res1, resAll, LVal.isTup, outL, LOp.quiet, LOp.acts, LOp.peeks, LOper.fix, calmOk, loadCalm, awayOk, dstFree, LVal.free, LVal.calm, LVal.calm1, LOp.opds, optL, RS.acquire, appendL, elemsL, bound, inRange, intL, loadL, storeL, setElems, setParts, fitsElem, lenL, isNilL, partL, chunks, k1, k2]
      rw [c1]
      simp [runFun, LMode.isPure, LVal.pfs, LVal.pf, Go.L.initVars, codeW_seq, codeW_region, codeW_regionD, codeW_cond, codeW_ret, codeW_skip, codeW_exit, codeW_block, codeW_fence, thenW, outW, fenceOut, kill, LVal.withins, LVal.within, runOps, runOpsD, Go.L.step, stepD, semD, sem, RS.peek, RS.put, RS.give, RS.take, RS.takes, RS.takeElems, RS.takeParts, RS.peeks, RS.peekO, RS.setVar, RS.noPk, RS.settle, RS.alloc, callOut, LVal.arg, LVal.isAgg, LVal.cells, LVal.unpk, LVal.copy, LVal.down, LVal.plain, LVal.settled, binL, binInt, binStr, unL, resL, resOne, res1, resAll, LVal.isTup, outL, LOp.quiet, LOp.acts, LOp.peeks, LOper.fix, calmOk, loadCalm, awayOk, dstFree, LVal.free, LVal.calm, LVal.calm1, LOp.opds, optL, RS.acquire, appendL, elemsL, bound, inRange, intL, loadL, storeL, setElems, setParts, fitsElem, lenL, isNilL, partL, chunks, g0, h0, h3, e7]
end Go.Proofs.Ytbljgbojkifoiaa
