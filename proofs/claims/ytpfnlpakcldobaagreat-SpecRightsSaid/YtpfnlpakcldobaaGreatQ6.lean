/- SpecRights: what the law answers. -/
import Derived.Test.YtpfnlpakcldobaaGreatQ5
import Derived.Test.YtpfnlpakcldobaaGreatQ2
import Derived.Test.YtpfnlpakcldobaaGreatQ7
set_option linter.unusedVariables false
set_option linter.unusedSimpArgs false
namespace Go.Proofs.YtpfnlpakcldobaaGreat
open Go Go.L

theorem fn3 : D.T.fns 3 = some (.fn D.l3) := rfl
theorem given_shut {s : StateS} (h : s.given) (hl : s.due.length ≤ 100) : s.shut := ⟨.inl h.2.1, fun _ => h.2.2, hl⟩

open Classical in
set_option maxHeartbeats 40000000 in
theorem r3 (c : ConfS) (a b : StateS) (ha : a.given) (hb : b.given) (la : a.due.length ≤ 100) (lb : b.due.length ≤ 100) :
    codeW D.T D.r3_0 { vars := [.agg c.cells, .agg a.cells, .agg b.cells, .ptr 0 0, .ptr 1 0, .ptr 2 0, .bool false, .bool false], st := [.cells 24 c.cells, .cells 34 a.cells, .cells 34 b.cells], rs := [] } =
      some (.normal, { vars := [.agg c.cells, .agg a.cells, .agg b.cells, .ptr 0 0, .ptr 1 0, .ptr 2 0, .bool true, .bool false], st := [.cells 24 c.cells, .cells 34 a.cells, .cells 34 b.cells], rs := [] }) := by
  have k8 := good_eq c
  have k9 := rgood_eq c
  have k10 := same_eq a b (given_shut ha la) (given_shut hb lb)
  have k11 := rsame_eq a b (given_shut ha la) (given_shut hb lb)
  have k10' := same_eq a a (given_shut ha la) (given_shut ha la)
  have hal : decide (Alike a a) = true := by simp [Alike]
  rw [hal] at k10'
  generalize goodB c = p at *
  generalize decide (Alike a b) = q at *
  obtain ⟨c1, c2, c3, c4, c5, c6, c7, c8, c9, c10, c11⟩ := c.flat.fx
  obtain ⟨a1, a2, a3, a4, a5, a6, a7, a8, a9, a10, a11⟩ := (StateS.flat (s := a) (.inl ha.2.1)).fx
  obtain ⟨b1, b2, b3, b4, b5, b6, b7, b8, b9, b10, b11⟩ := (StateS.flat (s := b) (.inl hb.2.1)).fx
  generalize c.cells = cc at *
  generalize a.cells = ca at *
  generalize b.cells = cb at *
  unfold D.r3_0
  cases p <;> cases q
  all_goals
    apply regD
    simp only [RS.settle, List.map_cons, List.map_nil, LVal.stay, LObj.settle, a8, b8, c8, List.replicate]
    repeat
      apply runD_cons
      · first
          | (simp [runFun, LMode.isPure, LVal.pfs, LVal.pf, Go.L.initVars, codeW_seq, codeW_region, codeW_regionD, codeW_cond, codeW_ret, codeW_skip, codeW_exit, codeW_block, codeW_fence, thenW, outW, fenceOut, kill, LVal.withins, LVal.within, runOps, runOpsD, Go.L.step, stepD, semD, sem, RS.peek, RS.put, RS.give, RS.take, RS.takes, RS.takeElems, RS.takeParts, RS.peeks, RS.peekO, RS.setVar, RS.noPk, RS.settle, RS.alloc, callOut, LVal.arg, LVal.isAgg, LVal.cells, LVal.unpk, LVal.copy, LVal.down, binL, binInt, binStr, unL, resL, resOne, res1, resAll, LVal.isTup, outL, LOp.quiet, LOp.acts, LOp.peeks, LOper.fix, calmOk, loadCalm, awayOk, dstFree, LVal.free, LVal.calm, LVal.calm1, LOp.opds, optL, RS.acquire, appendL, elemsL, bound, inRange, intL, loadL, storeL, setElems, setParts, fitsElem, lenL, isNilL, partL, chunks, k8, k9, k10, k11, k10', c1, c2, eq_true c3, eq_true c4, eq_true c5, c6, c7, c8, c9, c10, a1, a2, eq_true a3, eq_true a4, eq_true a5, a6, a7, a8, a9, a10, b1, b2, eq_true b3, eq_true b4, eq_true b5, b6, b7, b8, b9, b10]; done)
          | (simp [runFun, LMode.isPure, LVal.pfs, LVal.pf, Go.L.initVars, codeW_seq, codeW_region, codeW_regionD, codeW_cond, codeW_ret, codeW_skip, codeW_exit, codeW_block, codeW_fence, thenW, outW, fenceOut, kill, LVal.withins, LVal.within, runOps, runOpsD, Go.L.step, stepD, semD, sem, RS.peek, RS.put, RS.give, RS.take, RS.takes, RS.takeElems, RS.takeParts, RS.peeks, RS.peekO, RS.setVar, RS.noPk, RS.settle, RS.alloc, callOut, LVal.arg, LVal.isAgg, LVal.cells, LVal.unpk, LVal.copy, LVal.down, binL, binInt, binStr, unL, resL, resOne, res1, resAll, LVal.isTup, outL, LOp.quiet, LOp.acts, LOp.peeks, LOper.fix, calmOk, loadCalm, awayOk, dstFree, LVal.free, LVal.calm, LVal.calm1, LOp.opds, optL, RS.acquire, appendL, elemsL, bound, inRange, intL, loadL, storeL, setElems, setParts, fitsElem, lenL, isNilL, partL, chunks, k8, k9, k10, k11, k10', c1, c2, eq_true c3, eq_true c4, eq_true c5, c6, c7, c8, c9, c10, a1, a2, eq_true a3, eq_true a4, eq_true a5, a6, a7, a8, a9, a10, b1, b2, eq_true b3, eq_true b4, eq_true b5, b6, b7, b8, b9, b10]; rfl)
    exact runD_nil

set_option maxHeartbeats 40000000 in
theorem specRights_eq (c : ConfS) (a b : StateS) (ha : a.given) (hb : b.given) : callW D.T 3 [.agg c.cells, .agg a.cells, .agg b.cells] [] = some (.bool true, none) := by
  have e1 : a.cells[30]? = some (.vs a.nil .sh 4 (duesL a.due)) := by rw [← ha.2.1, ← ha.2.2]; rfl
  have e2 : b.cells[30]? = some (.vs b.nil .sh 4 (duesL b.due)) := by rw [← hb.2.1, ← hb.2.2]; rfl
  have l1 := duesL_len a.due
  have l2 := duesL_len b.due
  have hr := r3 c a b ha hb
  obtain ⟨c1, c2, c3, c4, c5, c6, c7, c8, c9, c10, c11⟩ := c.flat.fx
  obtain ⟨a1, a2, a3, a4, a5, a6, a7, a8, a9, a10, a11⟩ := (StateS.flat (s := a) (.inl ha.2.1)).fx
  obtain ⟨b1, b2, b3, b4, b5, b6, b7, b8, b9, b10, b11⟩ := (StateS.flat (s := b) (.inl hb.2.1)).fx
  generalize c.cells = cc at *
  generalize a.cells = ca at *
  generalize b.cells = cb at *
  generalize a.due.length = na at *
  generalize b.due.length = nb at *
  have e1' : ∀ (h : 30 < ca.length), ca[30]'h = .vs a.nil .sh 4 (duesL a.due) := fun h => by
    have := List.getElem?_eq_getElem h
    rw [e1] at this; injection this with this; exact this.symm
  have e2' : ∀ (h : 30 < cb.length), cb[30]'h = .vs b.nil .sh 4 (duesL b.due) := fun h => by
    have := List.getElem?_eq_getElem h
    rw [e2] at this; injection this with this; exact this.symm
  rw [callW_fn fn3]
  by_cases h1 : 100 < (na : Int)
  · simp [D.l3, D.c3, runFun, LMode.isPure, LVal.pfs, LVal.pf, Go.L.initVars, codeW_seq, codeW_region, codeW_regionD, codeW_cond, codeW_ret, codeW_skip, codeW_exit, codeW_block, codeW_fence, thenW, outW, fenceOut, kill, LVal.withins, LVal.within, runOps, runOpsD, Go.L.step, stepD, semD, sem, RS.peek, RS.put, RS.give, RS.take, RS.takes, RS.takeElems, RS.takeParts, RS.peeks, RS.peekO, RS.setVar, RS.noPk, RS.settle, RS.alloc, callOut, LVal.arg, LVal.isAgg, LVal.cells, LVal.unpk, LVal.copy, LVal.down, binL, binInt, binStr, unL, resL, resOne, res1, resAll, LVal.isTup, outL, LOp.quiet, LOp.acts, LOp.peeks, LOper.fix, calmOk, loadCalm, awayOk, dstFree, LVal.free, LVal.calm, LVal.calm1, LOp.opds, optL, RS.acquire, appendL, elemsL, bound, inRange, intL, loadL, storeL, setElems, setParts, fitsElem, lenL, isNilL, partL, chunks, awake_eq, e1', e2', l1, l2, h1, c1, c2, eq_true c3, eq_true c4, eq_true c5, c6, c7, c8, c9, c10, c11, a1, a2, eq_true a3, eq_true a4, eq_true a5, a6, a7, a8, a9, a10, a11, b1, b2, eq_true b3, eq_true b4, eq_true b5, b6, b7, b8, b9, b10, b11]
  · by_cases h2 : 100 < (nb : Int)
    · simp [D.l3, D.c3, runFun, LMode.isPure, LVal.pfs, LVal.pf, Go.L.initVars, codeW_seq, codeW_region, codeW_regionD, codeW_cond, codeW_ret, codeW_skip, codeW_exit, codeW_block, codeW_fence, thenW, outW, fenceOut, kill, LVal.withins, LVal.within, runOps, runOpsD, Go.L.step, stepD, semD, sem, RS.peek, RS.put, RS.give, RS.take, RS.takes, RS.takeElems, RS.takeParts, RS.peeks, RS.peekO, RS.setVar, RS.noPk, RS.settle, RS.alloc, callOut, LVal.arg, LVal.isAgg, LVal.cells, LVal.unpk, LVal.copy, LVal.down, binL, binInt, binStr, unL, resL, resOne, res1, resAll, LVal.isTup, outL, LOp.quiet, LOp.acts, LOp.peeks, LOper.fix, calmOk, loadCalm, awayOk, dstFree, LVal.free, LVal.calm, LVal.calm1, LOp.opds, optL, RS.acquire, appendL, elemsL, bound, inRange, intL, loadL, storeL, setElems, setParts, fitsElem, lenL, isNilL, partL, chunks, awake_eq, e1', e2', l1, l2, h1, h2, c1, c2, eq_true c3, eq_true c4, eq_true c5, c6, c7, c8, c9, c10, c11, a1, a2, eq_true a3, eq_true a4, eq_true a5, a6, a7, a8, a9, a10, a11, b1, b2, eq_true b3, eq_true b4, eq_true b5, b6, b7, b8, b9, b10, b11]
    · have hr' := hr (by omega) (by omega)
      simp [D.l3, D.c3, runFun, LMode.isPure, LVal.pfs, LVal.pf, Go.L.initVars, codeW_seq, codeW_region, codeW_regionD, codeW_cond, codeW_ret, codeW_skip, codeW_exit, codeW_block, codeW_fence, thenW, outW, fenceOut, kill, LVal.withins, LVal.within, runOps, runOpsD, Go.L.step, stepD, semD, sem, RS.peek, RS.put, RS.give, RS.take, RS.takes, RS.takeElems, RS.takeParts, RS.peeks, RS.peekO, RS.setVar, RS.noPk, RS.settle, RS.alloc, callOut, LVal.arg, LVal.isAgg, LVal.cells, LVal.unpk, LVal.copy, LVal.down, binL, binInt, binStr, unL, resL, resOne, res1, resAll, LVal.isTup, outL, LOp.quiet, LOp.acts, LOp.peeks, LOper.fix, calmOk, loadCalm, awayOk, dstFree, LVal.free, LVal.calm, LVal.calm1, LOp.opds, optL, RS.acquire, appendL, elemsL, bound, inRange, intL, loadL, storeL, setElems, setParts, fitsElem, lenL, isNilL, partL, chunks, awake_eq, e1', e2', l1, l2, h1, h2, c1, c2, eq_true c3, eq_true c4, eq_true c5, c6, c7, c8, c9, c10, c11, a1, a2, eq_true a3, eq_true a4, eq_true a5, a6, a7, a8, a9, a10, a11, b1, b2, eq_true b3, eq_true b4, eq_true b5, b6, b7, b8, b9, b10, b11]
      rw [hr']
      simp [runFun, LMode.isPure, LVal.pfs, LVal.pf, Go.L.initVars, codeW_seq, codeW_region, codeW_regionD, codeW_cond, codeW_ret, codeW_skip, codeW_exit, codeW_block, codeW_fence, thenW, outW, fenceOut, kill, LVal.withins, LVal.within, runOps, runOpsD, Go.L.step, stepD, semD, sem, RS.peek, RS.put, RS.give, RS.take, RS.takes, RS.takeElems, RS.takeParts, RS.peeks, RS.peekO, RS.setVar, RS.noPk, RS.settle, RS.alloc, callOut, LVal.arg, LVal.isAgg, LVal.cells, LVal.unpk, LVal.copy, LVal.down, binL, binInt, binStr, unL, resL, resOne, res1, resAll, LVal.isTup, outL, LOp.quiet, LOp.acts, LOp.peeks, LOper.fix, calmOk, loadCalm, awayOk, dstFree, LVal.free, LVal.calm, LVal.calm1, LOp.opds, optL, RS.acquire, appendL, elemsL, bound, inRange, intL, loadL, storeL, setElems, setParts, fitsElem, lenL, isNilL, partL, chunks, c1, c2, eq_true c3, a1, a2, eq_true a3, b1, b2, eq_true b3]
end Go.Proofs.YtpfnlpakcldobaaGreat
