/- Are endpoints alike? By the document and by the program. -/
import Derived.Test.YtpfnlpakcldobaaGreatQ1b
set_option linter.unusedVariables false
set_option linter.unusedSimpArgs false
namespace Go.Proofs.YtpfnlpakcldobaaGreat
open Go Go.L
theorem fn10 : D.T.fns 10 = some (.fn D.l10) := rfl
theorem fn11 : D.T.fns 11 = some (.fn D.l11) := rfl
/-- A state's cells, by how its last one lies. -/
def StateS.shut (s : StateS) : Prop := (s.o = .sh ∨ s.o = .full) ∧ (s.due ≠ [] → s.m = 4) ∧ s.due.length ≤ 100
theorem StateS.ok.shut {s : StateS} (h : s.ok) (hf : s.few) : s.shut := ⟨h.2.2.2.2.2.2.1, h.2.2.2.2.2.2.2, by have := hf.1; omega⟩

theorem down_vs (n : Bool) (o : Own) (m : Nat) (l : List LVal) (h : o = .sh ∨ o = .full) : LVal.stay (.vs n o m l) = .vs n o m l ∧ LVal.plain (.vs n o m l) = true ∧ LVal.isOwn (.vs n o m l) = false ∧ LVal.down (.vs n o m l) = .vs n o m l ∧ LVal.copy (.vs n o m l) = some (.vs n o m l) ∧ LVal.arg (.vs n o m l) = .vs n .sh m l ∧ LVal.unpk (.vs n o m l) = .vs n o m l ∧ LVal.pf (.vs n o m l) = true := by
  rcases h with rfl | rfl <;> exact ⟨rfl, rfl, rfl, rfl, rfl, rfl, rfl, rfl⟩

open Classical in
set_option maxHeartbeats 8000000 in
theorem r11 (s t : StateS) (hs : s.shut) (ht : t.shut) (A B : LVal) (bb : Bool) :
    ∃ rs, runOps (callW D.T) D.T.im D.T.impl [] (⟨[], [], rs⟩ : RS) = some ⟨[], [], rs⟩ ∧ codeW D.T D.r11_0 { vars := [A, B, .ptr 0 0, .ptr 1 0, .bool bb], st := [.cells 34 s.cells, .cells 34 t.cells], rs := [] } =
      some (.normal, { vars := [A, B, .ptr 0 0, .ptr 1 0, .bool (decide (Alike s t))], st := [.cells 34 s.cells, .cells 34 t.cells], rs := [] }) := by
  obtain ⟨so, sm, sl⟩ := hs
  obtain ⟨to, tm, tl⟩ := ht
  refine ⟨[], rfl, ?_⟩
  have c1 := dues_eq s.nil t.nil s.m t.m s.due t.due sl tl sm tm
  have E1 := eq_links s.l0 s.l1 s.l2 t.l0 t.l1 t.l2
  have E2 := eq_login s.login t.login
  by_cases h1 : s.l0 = t.l0 ∧ s.l1 = t.l1 ∧ s.l2 = t.l2
  · rw [decide_eq_true h1] at E1
    by_cases h2 : s.login = t.login
    · rw [decide_eq_true h2] at E2
      have hA : decide (Alike s t) = decide (s.due = t.due) := by simp [Alike, h1, h2]
      rw [hA]
      generalize decide (s.due = t.due) = e at c1
      unfold D.r11_0
      simp only [LoginS.cells, StateS.cells, LinkS.cells, List.cons_append, List.nil_append] at E1 E2 ⊢
      rcases so with so | so <;> rcases to with to | to <;> rw [so, to]
      all_goals
        apply regN
        simp only [List.replicate]
        repeat
          apply run_cons
          · first
              | (simp [runFun, LMode.isPure, LVal.pfs, LVal.pf, Go.L.initVars, codeW_seq, codeW_region, codeW_regionD, codeW_cond, codeW_ret, codeW_skip, codeW_exit, codeW_block, codeW_fence, thenW, outW, fenceOut, kill, LVal.withins, LVal.within, runOps, runOpsD, Go.L.step, stepD, semD, sem, RS.peek, RS.put, RS.give, RS.take, RS.takes, RS.takeElems, RS.takeParts, RS.peeks, RS.peekO, RS.setVar, RS.noPk, RS.settle, RS.alloc, callOut, LVal.arg, LVal.isAgg, LVal.cells, LVal.unpk, LVal.copy, LVal.down, LVal.plain, LVal.settled, binL, binInt, binStr, unL, resL, resOne, res1, resAll, LVal.isTup, outL, LOp.quiet, LOp.acts, LOp.peeks, LOper.fix, calmOk, loadCalm, awayOk, dstFree, LVal.free, LVal.calm, LVal.calm1, LOp.opds, optL, RS.acquire, appendL, elemsL, bound, inRange, intL, loadL, storeL, setElems, setParts, fitsElem, lenL, isNilL, partL, chunks, kindsOk, keyKind, E1, E2, c1]; done)
              | (simp [runFun, LMode.isPure, LVal.pfs, LVal.pf, Go.L.initVars, codeW_seq, codeW_region, codeW_regionD, codeW_cond, codeW_ret, codeW_skip, codeW_exit, codeW_block, codeW_fence, thenW, outW, fenceOut, kill, LVal.withins, LVal.within, runOps, runOpsD, Go.L.step, stepD, semD, sem, RS.peek, RS.put, RS.give, RS.take, RS.takes, RS.takeElems, RS.takeParts, RS.peeks, RS.peekO, RS.setVar, RS.noPk, RS.settle, RS.alloc, callOut, LVal.arg, LVal.isAgg, LVal.cells, LVal.unpk, LVal.copy, LVal.down, LVal.plain, LVal.settled, binL, binInt, binStr, unL, resL, resOne, res1, resAll, LVal.isTup, outL, LOp.quiet, LOp.acts, LOp.peeks, LOper.fix, calmOk, loadCalm, awayOk, dstFree, LVal.free, LVal.calm, LVal.calm1, LOp.opds, optL, RS.acquire, appendL, elemsL, bound, inRange, intL, loadL, storeL, setElems, setParts, fitsElem, lenL, isNilL, partL, chunks, kindsOk, keyKind, E1, E2, c1]; rfl)
        exact run_nil
    · rw [decide_eq_false h2] at E2
      have hA : decide (Alike s t) = false := by simp [Alike, h2]
      rw [hA]
      unfold D.r11_0
      simp only [LoginS.cells, StateS.cells, LinkS.cells, List.cons_append, List.nil_append] at E1 E2 ⊢
      rcases so with so | so <;> rcases to with to | to <;> rw [so, to]
      all_goals
        apply regN
        simp only [List.replicate]
        repeat
          apply run_cons
          · first
              | (simp [runFun, LMode.isPure, LVal.pfs, LVal.pf, Go.L.initVars, codeW_seq, codeW_region, codeW_regionD, codeW_cond, codeW_ret, codeW_skip, codeW_exit, codeW_block, codeW_fence, thenW, outW, fenceOut, kill, LVal.withins, LVal.within, runOps, runOpsD, Go.L.step, stepD, semD, sem, RS.peek, RS.put, RS.give, RS.take, RS.takes, RS.takeElems, RS.takeParts, RS.peeks, RS.peekO, RS.setVar, RS.noPk, RS.settle, RS.alloc, callOut, LVal.arg, LVal.isAgg, LVal.cells, LVal.unpk, LVal.copy, LVal.down, LVal.plain, LVal.settled, binL, binInt, binStr, unL, resL, resOne, res1, resAll, LVal.isTup, outL, LOp.quiet, LOp.acts, LOp.peeks, LOper.fix, calmOk, loadCalm, awayOk, dstFree, LVal.free, LVal.calm, LVal.calm1, LOp.opds, optL, RS.acquire, appendL, elemsL, bound, inRange, intL, loadL, storeL, setElems, setParts, fitsElem, lenL, isNilL, partL, chunks, kindsOk, keyKind, E1, E2]; done)
              | (simp [runFun, LMode.isPure, LVal.pfs, LVal.pf, Go.L.initVars, codeW_seq, codeW_region, codeW_regionD, codeW_cond, codeW_ret, codeW_skip, codeW_exit, codeW_block, codeW_fence, thenW, outW, fenceOut, kill, LVal.withins, LVal.within, runOps, runOpsD, Go.L.step, stepD, semD, sem, RS.peek, RS.put, RS.give, RS.take, RS.takes, RS.takeElems, RS.takeParts, RS.peeks, RS.peekO, RS.setVar, RS.noPk, RS.settle, RS.alloc, callOut, LVal.arg, LVal.isAgg, LVal.cells, LVal.unpk, LVal.copy, LVal.down, LVal.plain, LVal.settled, binL, binInt, binStr, unL, resL, resOne, res1, resAll, LVal.isTup, outL, LOp.quiet, LOp.acts, LOp.peeks, LOper.fix, calmOk, loadCalm, awayOk, dstFree, LVal.free, LVal.calm, LVal.calm1, LOp.opds, optL, RS.acquire, appendL, elemsL, bound, inRange, intL, loadL, storeL, setElems, setParts, fitsElem, lenL, isNilL, partL, chunks, kindsOk, keyKind, E1, E2]; rfl)
        exact run_nil
  · rw [decide_eq_false h1] at E1
    have hA : decide (Alike s t) = false := by simp only [Alike, h1, false_and]; simp
    rw [hA]
    unfold D.r11_0
    simp only [LoginS.cells, StateS.cells, LinkS.cells, List.cons_append, List.nil_append] at E1 E2 ⊢
    rcases so with so | so <;> rcases to with to | to <;> rw [so, to]
    all_goals
      apply regN
      simp only [List.replicate]
      repeat
        apply run_cons
        · first
            | (simp [runFun, LMode.isPure, LVal.pfs, LVal.pf, Go.L.initVars, codeW_seq, codeW_region, codeW_regionD, codeW_cond, codeW_ret, codeW_skip, codeW_exit, codeW_block, codeW_fence, thenW, outW, fenceOut, kill, LVal.withins, LVal.within, runOps, runOpsD, Go.L.step, stepD, semD, sem, RS.peek, RS.put, RS.give, RS.take, RS.takes, RS.takeElems, RS.takeParts, RS.peeks, RS.peekO, RS.setVar, RS.noPk, RS.settle, RS.alloc, callOut, LVal.arg, LVal.isAgg, LVal.cells, LVal.unpk, LVal.copy, LVal.down, LVal.plain, LVal.settled, binL, binInt, binStr, unL, resL, resOne, res1, resAll, LVal.isTup, outL, LOp.quiet, LOp.acts, LOp.peeks, LOper.fix, calmOk, loadCalm, awayOk, dstFree, LVal.free, LVal.calm, LVal.calm1, LOp.opds, optL, RS.acquire, appendL, elemsL, bound, inRange, intL, loadL, storeL, setElems, setParts, fitsElem, lenL, isNilL, partL, chunks, kindsOk, keyKind, E1, E2]; done)
            | (simp [runFun, LMode.isPure, LVal.pfs, LVal.pf, Go.L.initVars, codeW_seq, codeW_region, codeW_regionD, codeW_cond, codeW_ret, codeW_skip, codeW_exit, codeW_block, codeW_fence, thenW, outW, fenceOut, kill, LVal.withins, LVal.within, runOps, runOpsD, Go.L.step, stepD, semD, sem, RS.peek, RS.put, RS.give, RS.take, RS.takes, RS.takeElems, RS.takeParts, RS.peeks, RS.peekO, RS.setVar, RS.noPk, RS.settle, RS.alloc, callOut, LVal.arg, LVal.isAgg, LVal.cells, LVal.unpk, LVal.copy, LVal.down, LVal.plain, LVal.settled, binL, binInt, binStr, unL, resL, resOne, res1, resAll, LVal.isTup, outL, LOp.quiet, LOp.acts, LOp.peeks, LOper.fix, calmOk, loadCalm, awayOk, dstFree, LVal.free, LVal.calm, LVal.calm1, LOp.opds, optL, RS.acquire, appendL, elemsL, bound, inRange, intL, loadL, storeL, setElems, setParts, fitsElem, lenL, isNilL, partL, chunks, kindsOk, keyKind, E1, E2]; rfl)
      exact run_nil

open Classical in
set_option maxHeartbeats 2000000 in
theorem rsame_eq (s t : StateS) (hs : s.shut) (ht : t.shut) : callW D.T 11 [.agg s.cells, .agg t.cells] [] = some (.bool (decide (Alike s t)), none) := by
  obtain ⟨_, _, c1⟩ := r11 s t hs ht (.agg s.cells) (.agg t.cells) false
  rw [callW_fn fn11]
  generalize decide (Alike s t) = e at c1
  obtain ⟨so, _, _⟩ := hs
  obtain ⟨to, _, _⟩ := ht
  simp only [LoginS.cells, StateS.cells, LinkS.cells, List.cons_append, List.nil_append] at c1 ⊢
  rcases so with so | so <;> rcases to with to | to <;> rw [so, to] at c1 ⊢ <;>
  simp [D.l11, D.c11, runFun, LMode.isPure, LVal.pfs, LVal.pf, Go.L.initVars, codeW_seq, codeW_region, codeW_regionD, codeW_cond, codeW_ret, codeW_skip, codeW_exit, codeW_block, codeW_fence, thenW, outW, fenceOut, kill, LVal.withins, LVal.within, runOps, runOpsD, Go.L.step, stepD, semD, sem, RS.peek, RS.put, RS.give, RS.take, RS.takes, RS.takeElems, RS.takeParts, RS.peeks, RS.peekO, RS.setVar, RS.noPk, RS.settle, RS.alloc, callOut, LVal.arg, LVal.isAgg, LVal.cells, LVal.unpk, LVal.copy, LVal.down, LVal.plain, LVal.settled, binL, binInt, binStr, unL, resL, resOne, res1, resAll, LVal.isTup, outL, LOp.quiet, LOp.acts, LOp.peeks, LOper.fix, calmOk, loadCalm, awayOk, dstFree, LVal.free, LVal.calm, LVal.calm1, LOp.opds, optL, RS.acquire, appendL, elemsL, bound, inRange, intL, loadL, storeL, setElems, setParts, fitsElem, lenL, isNilL, partL, chunks, c1]
open Classical in
set_option maxHeartbeats 8000000 in
theorem r10 (s t : StateS) (hs : s.shut) (ht : t.shut) (A B : LVal) (bb : Bool) :
    ∃ rs, runOps (callW D.T) D.T.im D.T.impl [] (⟨[], [], rs⟩ : RS) = some ⟨[], [], rs⟩ ∧ codeW D.T D.r10_0 { vars := [A, B, .ptr 0 0, .ptr 1 0, .bool bb], st := [.cells 34 s.cells, .cells 34 t.cells], rs := [] } =
      some (.normal, { vars := [A, B, .ptr 0 0, .ptr 1 0, .bool (decide (Alike s t))], st := [.cells 34 s.cells, .cells 34 t.cells], rs := [] }) := by
  obtain ⟨so, sm, sl⟩ := hs
  obtain ⟨to, tm, tl⟩ := ht
  refine ⟨[], rfl, ?_⟩
  have c1 := equal_eq s.nil t.nil s.m t.m s.due t.due sl tl sm tm
  have E1 := eq_links s.l0 s.l1 s.l2 t.l0 t.l1 t.l2
  have E2 := eq_login s.login t.login
  by_cases h1 : s.l0 = t.l0 ∧ s.l1 = t.l1 ∧ s.l2 = t.l2
  · rw [decide_eq_true h1] at E1
    by_cases h2 : s.login = t.login
    · rw [decide_eq_true h2] at E2
      have hA : decide (Alike s t) = decide (s.due = t.due) := by simp [Alike, h1, h2]
      rw [hA]
      generalize decide (s.due = t.due) = e at c1
      unfold D.r10_0
      simp only [LoginS.cells, StateS.cells, LinkS.cells, List.cons_append, List.nil_append] at E1 E2 ⊢
      rcases so with so | so <;> rcases to with to | to <;> rw [so, to]
      all_goals
        apply regN
        simp only [List.replicate]
        repeat
          apply run_cons
          · first
              | (simp [runFun, LMode.isPure, LVal.pfs, LVal.pf, Go.L.initVars, codeW_seq, codeW_region, codeW_regionD, codeW_cond, codeW_ret, codeW_skip, codeW_exit, codeW_block, codeW_fence, thenW, outW, fenceOut, kill, LVal.withins, LVal.within, runOps, runOpsD, Go.L.step, stepD, semD, sem, RS.peek, RS.put, RS.give, RS.take, RS.takes, RS.takeElems, RS.takeParts, RS.peeks, RS.peekO, RS.setVar, RS.noPk, RS.settle, RS.alloc, callOut, LVal.arg, LVal.isAgg, LVal.cells, LVal.unpk, LVal.copy, LVal.down, LVal.plain, LVal.settled, binL, binInt, binStr, unL, resL, resOne, res1, resAll, LVal.isTup, outL, LOp.quiet, LOp.acts, LOp.peeks, LOper.fix, calmOk, loadCalm, awayOk, dstFree, LVal.free, LVal.calm, LVal.calm1, LOp.opds, optL, RS.acquire, appendL, elemsL, bound, inRange, intL, loadL, storeL, setElems, setParts, fitsElem, lenL, isNilL, partL, chunks, kindsOk, keyKind, E1, E2, c1]; done)
              | (simp [runFun, LMode.isPure, LVal.pfs, LVal.pf, Go.L.initVars, codeW_seq, codeW_region, codeW_regionD, codeW_cond, codeW_ret, codeW_skip, codeW_exit, codeW_block, codeW_fence, thenW, outW, fenceOut, kill, LVal.withins, LVal.within, runOps, runOpsD, Go.L.step, stepD, semD, sem, RS.peek, RS.put, RS.give, RS.take, RS.takes, RS.takeElems, RS.takeParts, RS.peeks, RS.peekO, RS.setVar, RS.noPk, RS.settle, RS.alloc, callOut, LVal.arg, LVal.isAgg, LVal.cells, LVal.unpk, LVal.copy, LVal.down, LVal.plain, LVal.settled, binL, binInt, binStr, unL, resL, resOne, res1, resAll, LVal.isTup, outL, LOp.quiet, LOp.acts, LOp.peeks, LOper.fix, calmOk, loadCalm, awayOk, dstFree, LVal.free, LVal.calm, LVal.calm1, LOp.opds, optL, RS.acquire, appendL, elemsL, bound, inRange, intL, loadL, storeL, setElems, setParts, fitsElem, lenL, isNilL, partL, chunks, kindsOk, keyKind, E1, E2, c1]; rfl)
        exact run_nil
    · rw [decide_eq_false h2] at E2
      have hA : decide (Alike s t) = false := by simp [Alike, h2]
      rw [hA]
      unfold D.r10_0
      simp only [LoginS.cells, StateS.cells, LinkS.cells, List.cons_append, List.nil_append] at E1 E2 ⊢
      rcases so with so | so <;> rcases to with to | to <;> rw [so, to]
      all_goals
        apply regN
        simp only [List.replicate]
        repeat
          apply run_cons
          · first
              | (simp [runFun, LMode.isPure, LVal.pfs, LVal.pf, Go.L.initVars, codeW_seq, codeW_region, codeW_regionD, codeW_cond, codeW_ret, codeW_skip, codeW_exit, codeW_block, codeW_fence, thenW, outW, fenceOut, kill, LVal.withins, LVal.within, runOps, runOpsD, Go.L.step, stepD, semD, sem, RS.peek, RS.put, RS.give, RS.take, RS.takes, RS.takeElems, RS.takeParts, RS.peeks, RS.peekO, RS.setVar, RS.noPk, RS.settle, RS.alloc, callOut, LVal.arg, LVal.isAgg, LVal.cells, LVal.unpk, LVal.copy, LVal.down, LVal.plain, LVal.settled, binL, binInt, binStr, unL, resL, resOne, res1, resAll, LVal.isTup, outL, LOp.quiet, LOp.acts, LOp.peeks, LOper.fix, calmOk, loadCalm, awayOk, dstFree, LVal.free, LVal.calm, LVal.calm1, LOp.opds, optL, RS.acquire, appendL, elemsL, bound, inRange, intL, loadL, storeL, setElems, setParts, fitsElem, lenL, isNilL, partL, chunks, kindsOk, keyKind, E1, E2]; done)
              | (simp [runFun, LMode.isPure, LVal.pfs, LVal.pf, Go.L.initVars, codeW_seq, codeW_region, codeW_regionD, codeW_cond, codeW_ret, codeW_skip, codeW_exit, codeW_block, codeW_fence, thenW, outW, fenceOut, kill, LVal.withins, LVal.within, runOps, runOpsD, Go.L.step, stepD, semD, sem, RS.peek, RS.put, RS.give, RS.take, RS.takes, RS.takeElems, RS.takeParts, RS.peeks, RS.peekO, RS.setVar, RS.noPk, RS.settle, RS.alloc, callOut, LVal.arg, LVal.isAgg, LVal.cells, LVal.unpk, LVal.copy, LVal.down, LVal.plain, LVal.settled, binL, binInt, binStr, unL, resL, resOne, res1, resAll, LVal.isTup, outL, LOp.quiet, LOp.acts, LOp.peeks, LOper.fix, calmOk, loadCalm, awayOk, dstFree, LVal.free, LVal.calm, LVal.calm1, LOp.opds, optL, RS.acquire, appendL, elemsL, bound, inRange, intL, loadL, storeL, setElems, setParts, fitsElem, lenL, isNilL, partL, chunks, kindsOk, keyKind, E1, E2]; rfl)
        exact run_nil
  · rw [decide_eq_false h1] at E1
    have hA : decide (Alike s t) = false := by simp only [Alike, h1, false_and]; simp
    rw [hA]
    unfold D.r10_0
    simp only [LoginS.cells, StateS.cells, LinkS.cells, List.cons_append, List.nil_append] at E1 E2 ⊢
    rcases so with so | so <;> rcases to with to | to <;> rw [so, to]
    all_goals
      apply regN
      simp only [List.replicate]
      repeat
        apply run_cons
        · first
            | (simp [runFun, LMode.isPure, LVal.pfs, LVal.pf, Go.L.initVars, codeW_seq, codeW_region, codeW_regionD, codeW_cond, codeW_ret, codeW_skip, codeW_exit, codeW_block, codeW_fence, thenW, outW, fenceOut, kill, LVal.withins, LVal.within, runOps, runOpsD, Go.L.step, stepD, semD, sem, RS.peek, RS.put, RS.give, RS.take, RS.takes, RS.takeElems, RS.takeParts, RS.peeks, RS.peekO, RS.setVar, RS.noPk, RS.settle, RS.alloc, callOut, LVal.arg, LVal.isAgg, LVal.cells, LVal.unpk, LVal.copy, LVal.down, LVal.plain, LVal.settled, binL, binInt, binStr, unL, resL, resOne, res1, resAll, LVal.isTup, outL, LOp.quiet, LOp.acts, LOp.peeks, LOper.fix, calmOk, loadCalm, awayOk, dstFree, LVal.free, LVal.calm, LVal.calm1, LOp.opds, optL, RS.acquire, appendL, elemsL, bound, inRange, intL, loadL, storeL, setElems, setParts, fitsElem, lenL, isNilL, partL, chunks, kindsOk, keyKind, E1, E2]; done)
            | (simp [runFun, LMode.isPure, LVal.pfs, LVal.pf, Go.L.initVars, codeW_seq, codeW_region, codeW_regionD, codeW_cond, codeW_ret, codeW_skip, codeW_exit, codeW_block, codeW_fence, thenW, outW, fenceOut, kill, LVal.withins, LVal.within, runOps, runOpsD, Go.L.step, stepD, semD, sem, RS.peek, RS.put, RS.give, RS.take, RS.takes, RS.takeElems, RS.takeParts, RS.peeks, RS.peekO, RS.setVar, RS.noPk, RS.settle, RS.alloc, callOut, LVal.arg, LVal.isAgg, LVal.cells, LVal.unpk, LVal.copy, LVal.down, LVal.plain, LVal.settled, binL, binInt, binStr, unL, resL, resOne, res1, resAll, LVal.isTup, outL, LOp.quiet, LOp.acts, LOp.peeks, LOper.fix, calmOk, loadCalm, awayOk, dstFree, LVal.free, LVal.calm, LVal.calm1, LOp.opds, optL, RS.acquire, appendL, elemsL, bound, inRange, intL, loadL, storeL, setElems, setParts, fitsElem, lenL, isNilL, partL, chunks, kindsOk, keyKind, E1, E2]; rfl)
      exact run_nil

open Classical in
set_option maxHeartbeats 2000000 in
theorem same_eq (s t : StateS) (hs : s.shut) (ht : t.shut) : callW D.T 10 [.agg s.cells, .agg t.cells] [] = some (.bool (decide (Alike s t)), none) := by
  obtain ⟨_, _, c1⟩ := r10 s t hs ht (.agg s.cells) (.agg t.cells) false
  rw [callW_fn fn10]
  generalize decide (Alike s t) = e at c1
  obtain ⟨so, _, _⟩ := hs
  obtain ⟨to, _, _⟩ := ht
  simp only [LoginS.cells, StateS.cells, LinkS.cells, List.cons_append, List.nil_append] at c1 ⊢
  rcases so with so | so <;> rcases to with to | to <;> rw [so, to] at c1 ⊢ <;>
  simp [D.l10, D.c10, runFun, LMode.isPure, LVal.pfs, LVal.pf, Go.L.initVars, codeW_seq, codeW_region, codeW_regionD, codeW_cond, codeW_ret, codeW_skip, codeW_exit, codeW_block, codeW_fence, thenW, outW, fenceOut, kill, LVal.withins, LVal.within, runOps, runOpsD, Go.L.step, stepD, semD, sem, RS.peek, RS.put, RS.give, RS.take, RS.takes, RS.takeElems, RS.takeParts, RS.peeks, RS.peekO, RS.setVar, RS.noPk, RS.settle, RS.alloc, callOut, LVal.arg, LVal.isAgg, LVal.cells, LVal.unpk, LVal.copy, LVal.down, LVal.plain, LVal.settled, binL, binInt, binStr, unL, resL, resOne, res1, resAll, LVal.isTup, outL, LOp.quiet, LOp.acts, LOp.peeks, LOper.fix, calmOk, loadCalm, awayOk, dstFree, LVal.free, LVal.calm, LVal.calm1, LOp.opds, optL, RS.acquire, appendL, elemsL, bound, inRange, intL, loadL, storeL, setElems, setParts, fitsElem, lenL, isNilL, partL, chunks, c1]
end Go.Proofs.YtpfnlpakcldobaaGreat
