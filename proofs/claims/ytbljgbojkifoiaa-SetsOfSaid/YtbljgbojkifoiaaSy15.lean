/- Few endpoints? The list. -/
import Derived.Test.YtbljgbojkifoiaaSy14
set_option linter.unusedVariables false
set_option linter.unusedSimpArgs false
namespace Go.Proofs.Ytbljgbojkifoiaa
open Go Go.L

/-- How a state's last cell lies. -/
def StateS.lies (s : StateS) : Prop := (s.o = .sh ∨ s.o = .full) ∧ (s.due ≠ [] → s.m = 4)
theorem few_head {s : StateS} : fewB s = (!headBad s && s.due.all fun d => decide (d.data.length ≤ 500)) := by
  simp only [fewB, headBad, Bool.not_not]
  cases decide (s.due.length ≤ 20) <;> cases decide (s.login.value.length ≤ 500) <;> cases decide (s.l0.opts.length ≤ 500) <;> cases decide (s.l1.opts.length ≤ 500) <;> cases decide (s.l2.opts.length ≤ 500) <;> rfl
theorem head_due {s : StateS} (h : headBad s = false) : s.due.length ≤ 20 := by
  simp only [headBad, Bool.not_eq_false', Bool.and_eq_true, decide_eq_true_eq] at h
  exact h.1

set_option maxHeartbeats 4000000 in
theorem loop9out (b : Bool) (l : List StateS) (hlies : ∀ s ∈ l, s.lies) : ∀ (j i : Nat) (z : Int) (v1 v3 v4 v5 v7 v8 : LVal), v1.isOwn = false → v3.isOwn = false → v4.isOwn = false → v5.isOwn = false → v7.isOwn = false → v8.isOwn = false → z = i → i + j = min 100 l.length →
    ∃ (w : Nat → LVal) (st' : List LObj), codeW D.T (.loop D.b9_2) { vars := [.vs b .sh 31 (statesL l), v1, .int .i64 z, v3, v4, v5, .undef, v7, v8], st := [], rs := [] } =
      some (if ((l.take 100).drop i).all fewB then (.exit 0, { vars := [.vs b .sh 31 (statesL l), w 1, w 2, w 3, w 4, w 5, w 6, w 7, w 8], st := [], rs := [] })
        else (.ret, { vars := [.vs b .sh 31 (statesL l), .bool false, w 2, w 3, w 4, w 5, w 6, w 7, w 8], st := st', rs := [] }))
  | 0, i, z, v1, v3, v4, v5, v7, v8, o1, o3, o4, o5, o7, o8, hz, hij => by
    subst hz
    have e5 : (statesL l).length = l.length := statesL_len l
    have hd : (l.take 100).drop i = [] := by rw [List.drop_of_length_le]; simp; omega
    refine ⟨fun j => [.undef, v1, .int .i64 i, v3, v4, .bool false, .undef, v7, v8].getD j .undef, [], ?_⟩
    rw [hd, codeW_loop]
    by_cases g : (i : Int) < (l.length : Int)
    · have g2 : ¬ (i : Int) < 100 := by omega
      simp [D.b9_2, runFun, LMode.isPure, LVal.pfs, LVal.pf, Go.L.initVars, codeW_seq, codeW_region, codeW_regionD, codeW_cond, codeW_ret, codeW_skip, codeW_exit, codeW_block, codeW_fence, thenW, outW, fenceOut, kill, LVal.withins, LVal.within, runOps, runOpsD, Go.L.step, stepD, semD, sem, RS.peek, RS.put, RS.give, RS.take, RS.takes, RS.takeElems, RS.takeParts, RS.peeks, RS.peekO, RS.setVar, RS.noPk, RS.settle, RS.alloc, callOut, LVal.arg, LVal.isAgg, LVal.cells, LVal.unpk, LVal.copy, LVal.down, LVal.plain, LVal.settled, binL, binInt, binStr, unL, resL, resOne, res1, resAll, LVal.isTup, outL, LOp.quiet, LOp.acts, LOp.peeks, LOper.fix, calmOk, loadCalm, awayOk, dstFree, LVal.free, LVal.calm, LVal.calm1, LOp.opds, optL, RS.acquire, appendL, elemsL, bound, inRange, intL, loadL, storeL, setElems, setParts, fitsElem, lenL, isNilL, partL, chunks, o5, e5, g, g2]
    · simp [D.b9_2, runFun, LMode.isPure, LVal.pfs, LVal.pf, Go.L.initVars, codeW_seq, codeW_region, codeW_regionD, codeW_cond, codeW_ret, codeW_skip, codeW_exit, codeW_block, codeW_fence, thenW, outW, fenceOut, kill, LVal.withins, LVal.within, runOps, runOpsD, Go.L.step, stepD, semD, sem, RS.peek, RS.put, RS.give, RS.take, RS.takes, RS.takeElems, RS.takeParts, RS.peeks, RS.peekO, RS.setVar, RS.noPk, RS.settle, RS.alloc, callOut, LVal.arg, LVal.isAgg, LVal.cells, LVal.unpk, LVal.copy, LVal.down, LVal.plain, LVal.settled, binL, binInt, binStr, unL, resL, resOne, res1, resAll, LVal.isTup, outL, LOp.quiet, LOp.acts, LOp.peeks, LOper.fix, calmOk, loadCalm, awayOk, dstFree, LVal.free, LVal.calm, LVal.calm1, LOp.opds, optL, RS.acquire, appendL, elemsL, bound, inRange, intL, loadL, storeL, setElems, setParts, fitsElem, lenL, isNilL, partL, chunks, o5, e5, g]
  | j + 1, i, z, v1, v3, v4, v5, v7, v8, o1, o3, o4, o5, o7, o8, hz, hij => by
    subst hz
    have hi : i < l.length := by omega
    have hi1 : i < 100 := by omega
    obtain ⟨s, hs⟩ : ∃ s, l[i]? = some s := ⟨_, List.getElem?_eq_getElem hi⟩
    have hsm : s ∈ l := List.mem_of_getElem? hs
    have hdrop : (l.take 100).drop i = s :: (l.take 100).drop (i + 1) := by
      rw [List.drop_eq_getElem_cons (by simp; omega)]
      rw [List.getElem?_eq_getElem hi] at hs; injection hs with hs; rw [List.getElem_take, hs]
    have e1 : (i : Int) < (l.length : Int) := by omega
    have e2 : (i : Int) < 100 := by omega
    have e0 : 0 ≤ (i : Int) ∧ (i : Int) < (l.length : Int) := by omega
    have e3 : IntKind.i64.wrap ((i : Int) + 1) = (i : Int) + 1 := wi64 (by omega) (by omega)
    have e5 : (statesL l).length = l.length := statesL_len l
    have e6 : (statesL l)[i]? = some (.agg s.cells) := by rw [statesL_get, hs]; rfl
    have e7 : ∀ n, LVal.withins n (statesL l) = true := fun n => statesL_within n l
    have e8 : ∀ n, LVal.withins n s.cells = true := fun n => cells_within n
    obtain ⟨so, sm⟩ := hlies s hsm
    have q1 : s.cells.length = 31 := rfl
    have q2 : s.cells.all LVal.plain = true := by simp only [StateS.cells]; rcases so with ho | ho <;> rw [ho] <;> rfl
    have q3 : s.cells.any LVal.isOwn = false := by simp only [StateS.cells]; rcases so with ho | ho <;> rw [ho] <;> rfl
    have hr := fun v1 v4 v7 v8 => r9 s so (.vs b .sh 31 (statesL l)) v1 v4 v7 v8 i
    rw [codeW_loop]
    generalize hK : thenW (codeW D.T (.loop D.b9_2)) = K
    have hfx := few_head (s := s)
    cases hb : headBad s with
    | true =>
      rw [hb] at hfx
      have hx : ((l.take 100).drop i).all fewB = false := by rw [hdrop]; simp [hfx]
      refine ⟨fun j => [.undef, .undef, .int .i64 i, .ptr 0 0, v4, .bool true, .bool true, v7, v8].getD j .undef, [.cells 31 s.cells], ?_⟩
      rw [hx]
      rw [hb] at hr
      simp only [StateS.cells, LinkS.cells, LoginS.cells, List.cons_append, List.nil_append] at hr e6 e8 ⊢
      rcases so with so | so <;> simp only [so] at hr e6 e8 ⊢
      · simp [D.b9_2, runFun, LMode.isPure, LVal.pfs, LVal.pf, Go.L.initVars, codeW_seq, codeW_region, codeW_regionD, codeW_cond, codeW_ret, codeW_skip, codeW_exit, codeW_block, codeW_fence, thenW, outW, fenceOut, kill, LVal.withins, LVal.within, runOps, runOpsD, Go.L.step, stepD, semD, sem, RS.peek, RS.put, RS.give, RS.take, RS.takes, RS.takeElems, RS.takeParts, RS.peeks, RS.peekO, RS.setVar, RS.noPk, RS.settle, RS.alloc, callOut, LVal.arg, LVal.isAgg, LVal.cells, LVal.unpk, LVal.copy, LVal.down, LVal.plain, LVal.settled, binL, binInt, binStr, unL, resL, resOne, res1, resAll, LVal.isTup, outL, LOp.quiet, LOp.acts, LOp.peeks, LOper.fix, calmOk, loadCalm, awayOk, dstFree, LVal.free, LVal.calm, LVal.calm1, LOp.opds, optL, RS.acquire, appendL, elemsL, bound, inRange, intL, loadL, storeL, setElems, setParts, fitsElem, lenL, isNilL, partL, chunks, o1, o3, o5, e0, e1, e2, e5, e6, e7, hr]
        subst hK
        rfl
      · simp [D.b9_2, runFun, LMode.isPure, LVal.pfs, LVal.pf, Go.L.initVars, codeW_seq, codeW_region, codeW_regionD, codeW_cond, codeW_ret, codeW_skip, codeW_exit, codeW_block, codeW_fence, thenW, outW, fenceOut, kill, LVal.withins, LVal.within, runOps, runOpsD, Go.L.step, stepD, semD, sem, RS.peek, RS.put, RS.give, RS.take, RS.takes, RS.takeElems, RS.takeParts, RS.peeks, RS.peekO, RS.setVar, RS.noPk, RS.settle, RS.alloc, callOut, LVal.arg, LVal.isAgg, LVal.cells, LVal.unpk, LVal.copy, LVal.down, LVal.plain, LVal.settled, binL, binInt, binStr, unL, resL, resOne, res1, resAll, LVal.isTup, outL, LOp.quiet, LOp.acts, LOp.peeks, LOper.fix, calmOk, loadCalm, awayOk, dstFree, LVal.free, LVal.calm, LVal.calm1, LOp.opds, optL, RS.acquire, appendL, elemsL, bound, inRange, intL, loadL, storeL, setElems, setParts, fitsElem, lenL, isNilL, partL, chunks, o1, o3, o5, e0, e1, e2, e5, e6, e7, hr]
        subst hK
        rfl
    | false =>
      rw [hb] at hfx hr
      obtain ⟨w, c1⟩ := loop9in (.vs b .sh 31 (statesL l)) rfl rfl s so sm (head_due hb) i s.due.length 0 0 v1 (.bool true) (.bool false) v7 v8 o1 o7 o8 rfl (by omega)
      rw [List.drop_zero] at c1
      cases hsh : s.due.all fun d => decide (d.data.length ≤ 500) with
      | true =>
        rw [hsh] at hfx c1
        obtain ⟨w2, st2, c2⟩ := loop9out b l hlies j (i + 1) ((i : Int) + 1) .undef .undef .undef .undef .undef .undef rfl rfl rfl rfl rfl rfl (by omega) (by omega)
        have hx : ((l.take 100).drop i).all fewB = ((l.take 100).drop (i + 1)).all fewB := by rw [hdrop]; simp [hfx]
        refine ⟨w2, st2, ?_⟩
        rw [hx]
        simp only [if_true] at c1
        simp only [StateS.cells, LinkS.cells, LoginS.cells, List.cons_append, List.nil_append] at hr e6 e8 c1 ⊢
        rcases so with so | so <;> simp only [so] at hr e6 e8 c1 ⊢
        · simp [D.b9_2, runFun, LMode.isPure, LVal.pfs, LVal.pf, Go.L.initVars, codeW_seq, codeW_region, codeW_regionD, codeW_cond, codeW_ret, codeW_skip, codeW_exit, codeW_block, codeW_fence, thenW, outW, fenceOut, kill, LVal.withins, LVal.within, runOps, runOpsD, Go.L.step, stepD, semD, sem, RS.peek, RS.put, RS.give, RS.take, RS.takes, RS.takeElems, RS.takeParts, RS.peeks, RS.peekO, RS.setVar, RS.noPk, RS.settle, RS.alloc, callOut, LVal.arg, LVal.isAgg, LVal.cells, LVal.unpk, LVal.copy, LVal.down, LVal.plain, LVal.settled, binL, binInt, binStr, unL, resL, resOne, res1, resAll, LVal.isTup, outL, LOp.quiet, LOp.acts, LOp.peeks, LOper.fix, calmOk, loadCalm, awayOk, dstFree, LVal.free, LVal.calm, LVal.calm1, LOp.opds, optL, RS.acquire, appendL, elemsL, bound, inRange, intL, loadL, storeL, setElems, setParts, fitsElem, lenL, isNilL, partL, chunks, o1, o3, o4, o5, e0, e1, e2, e3, e5, e6, e7, hr, c1, duesL_within]
          subst hK
          simpa using c2
        · simp [D.b9_2, runFun, LMode.isPure, LVal.pfs, LVal.pf, Go.L.initVars, codeW_seq, codeW_region, codeW_regionD, codeW_cond, codeW_ret, codeW_skip, codeW_exit, codeW_block, codeW_fence, thenW, outW, fenceOut, kill, LVal.withins, LVal.within, runOps, runOpsD, Go.L.step, stepD, semD, sem, RS.peek, RS.put, RS.give, RS.take, RS.takes, RS.takeElems, RS.takeParts, RS.peeks, RS.peekO, RS.setVar, RS.noPk, RS.settle, RS.alloc, callOut, LVal.arg, LVal.isAgg, LVal.cells, LVal.unpk, LVal.copy, LVal.down, LVal.plain, LVal.settled, binL, binInt, binStr, unL, resL, resOne, res1, resAll, LVal.isTup, outL, LOp.quiet, LOp.acts, LOp.peeks, LOper.fix, calmOk, loadCalm, awayOk, dstFree, LVal.free, LVal.calm, LVal.calm1, LOp.opds, optL, RS.acquire, appendL, elemsL, bound, inRange, intL, loadL, storeL, setElems, setParts, fitsElem, lenL, isNilL, partL, chunks, o1, o3, o4, o5, e0, e1, e2, e3, e5, e6, e7, hr, c1, duesL_within]
          subst hK
          simpa using c2
      | false =>
        rw [hsh] at hfx c1
        have hx : ((l.take 100).drop i).all fewB = false := by rw [hdrop]; simp [hfx]
        refine ⟨fun j => [.undef, .undef, .int .i64 i, .ptr 0 0, w 4, w 5, w 6, w 7, w 8].getD j .undef, [.cells 31 s.cells], ?_⟩
        rw [hx]
        simp only [Bool.false_eq_true, if_false] at c1
        simp only [StateS.cells, LinkS.cells, LoginS.cells, List.cons_append, List.nil_append] at hr e6 e8 c1 ⊢
        rcases so with so | so <;> simp only [so] at hr e6 e8 c1 ⊢
        · simp [D.b9_2, runFun, LMode.isPure, LVal.pfs, LVal.pf, Go.L.initVars, codeW_seq, codeW_region, codeW_regionD, codeW_cond, codeW_ret, codeW_skip, codeW_exit, codeW_block, codeW_fence, thenW, outW, fenceOut, kill, LVal.withins, LVal.within, runOps, runOpsD, Go.L.step, stepD, semD, sem, RS.peek, RS.put, RS.give, RS.take, RS.takes, RS.takeElems, RS.takeParts, RS.peeks, RS.peekO, RS.setVar, RS.noPk, RS.settle, RS.alloc, callOut, LVal.arg, LVal.isAgg, LVal.cells, LVal.unpk, LVal.copy, LVal.down, LVal.plain, LVal.settled, binL, binInt, binStr, unL, resL, resOne, res1, resAll, LVal.isTup, outL, LOp.quiet, LOp.acts, LOp.peeks, LOper.fix, calmOk, loadCalm, awayOk, dstFree, LVal.free, LVal.calm, LVal.calm1, LOp.opds, optL, RS.acquire, appendL, elemsL, bound, inRange, intL, loadL, storeL, setElems, setParts, fitsElem, lenL, isNilL, partL, chunks, o1, o3, o4, o5, e0, e1, e2, e3, e5, e6, e7, hr, c1]
          subst hK
          rfl
        · simp [D.b9_2, runFun, LMode.isPure, LVal.pfs, LVal.pf, Go.L.initVars, codeW_seq, codeW_region, codeW_regionD, codeW_cond, codeW_ret, codeW_skip, codeW_exit, codeW_block, codeW_fence, thenW, outW, fenceOut, kill, LVal.withins, LVal.within, runOps, runOpsD, Go.L.step, stepD, semD, sem, RS.peek, RS.put, RS.give, RS.take, RS.takes, RS.takeElems, RS.takeParts, RS.peeks, RS.peekO, RS.setVar, RS.noPk, RS.settle, RS.alloc, callOut, LVal.arg, LVal.isAgg, LVal.cells, LVal.unpk, LVal.copy, LVal.down, LVal.plain, LVal.settled, binL, binInt, binStr, unL, resL, resOne, res1, resAll, LVal.isTup, outL, LOp.quiet, LOp.acts, LOp.peeks, LOper.fix, calmOk, loadCalm, awayOk, dstFree, LVal.free, LVal.calm, LVal.calm1, LOp.opds, optL, RS.acquire, appendL, elemsL, bound, inRange, intL, loadL, storeL, setElems, setParts, fitsElem, lenL, isNilL, partL, chunks, o1, o3, o4, o5, e0, e1, e2, e3, e5, e6, e7, hr, c1]
          subst hK
          rfl

def fewL (l : List StateS) : Bool := (l.take 100).all fewB && decide (l.length ≤ 40)
theorem fewL_ok {l : List StateS} (h : fewL l = true) : l.length ≤ 40 ∧ ∀ s ∈ l, s.few := by
  simp only [fewL, Bool.and_eq_true, decide_eq_true_eq, List.all_eq_true] at h
  refine ⟨h.2, fun s hs => fewB_ok (h.1 s ?_)⟩
  rw [List.take_of_length_le (by omega)]
  exact hs

theorem fn9 : D.T.fns 9 = some (.fn D.l9) := rfl
set_option maxHeartbeats 2000000 in
theorem few_eq (b : Bool) (l : List StateS) (hlies : ∀ s ∈ l, s.lies) : callW D.T 9 [.vs b .sh 31 (statesL l)] [] = some (.bool (fewL l), none) := by
  obtain ⟨w, st', c1⟩ := loop9out b l hlies (min 100 l.length) 0 0 (.bool false) .undef .undef .undef .undef .undef rfl rfl rfl rfl rfl rfl rfl (by omega)
  rw [List.drop_zero] at c1
  have e5 : (statesL l).length = l.length := statesL_len l
  have e7 : ∀ n, LVal.withins n (statesL l) = true := fun n => statesL_within n l
  rw [callW_fn fn9]
  cases hx : (l.take 100).all fewB with
  | true =>
    rw [hx] at c1
    simp only [if_true] at c1
    have hd : decide ((l.length : Int) ≤ 40) = fewL l := by simp only [fewL, hx, Bool.true_and]; congr 1; simp; omega
    simp [D.l9, D.c9, runFun, LMode.isPure, LVal.pfs, LVal.pf, Go.L.initVars, codeW_seq, codeW_region, codeW_regionD, codeW_cond, codeW_ret, codeW_skip, codeW_exit, codeW_block, codeW_fence, thenW, outW, fenceOut, kill, LVal.withins, LVal.within, runOps, runOpsD, Go.L.step, stepD, semD, sem, RS.peek, RS.put, RS.give, RS.take, RS.takes, RS.takeElems, RS.takeParts, RS.peeks, RS.peekO, RS.setVar, RS.noPk, RS.settle, RS.alloc, callOut, LVal.arg, LVal.isAgg, LVal.cells, LVal.unpk, LVal.copy, LVal.down, LVal.plain, LVal.settled, binL, binInt, binStr, unL, resL, resOne, res1, resAll, LVal.isTup, outL, LOp.quiet, LOp.acts, LOp.peeks, LOper.fix, calmOk, loadCalm, awayOk, dstFree, LVal.free, LVal.calm, LVal.calm1, LOp.opds, optL, RS.acquire, appendL, elemsL, bound, inRange, intL, loadL, storeL, setElems, setParts, fitsElem, lenL, isNilL, partL, chunks, c1, e5, e7, ← hd]
  | false =>
    rw [hx] at c1
    simp only [Bool.false_eq_true, if_false] at c1
    have hd : fewL l = false := by simp only [fewL, hx, Bool.false_and]
    simp [D.l9, D.c9, runFun, LMode.isPure, LVal.pfs, LVal.pf, Go.L.initVars, codeW_seq, codeW_region, codeW_regionD, codeW_cond, codeW_ret, codeW_skip, codeW_exit, codeW_block, codeW_fence, thenW, outW, fenceOut, kill, LVal.withins, LVal.within, runOps, runOpsD, Go.L.step, stepD, semD, sem, RS.peek, RS.put, RS.give, RS.take, RS.takes, RS.takeElems, RS.takeParts, RS.peeks, RS.peekO, RS.setVar, RS.noPk, RS.settle, RS.alloc, callOut, LVal.arg, LVal.isAgg, LVal.cells, LVal.unpk, LVal.copy, LVal.down, LVal.plain, LVal.settled, binL, binInt, binStr, unL, resL, resOne, res1, resAll, LVal.isTup, outL, LOp.quiet, LOp.acts, LOp.peeks, LOper.fix, calmOk, loadCalm, awayOk, dstFree, LVal.free, LVal.calm, LVal.calm1, LOp.opds, optL, RS.acquire, appendL, elemsL, bound, inRange, intL, loadL, storeL, setElems, setParts, fitsElem, lenL, isNilL, partL, chunks, c1, hd]
end Go.Proofs.Ytbljgbojkifoiaa
