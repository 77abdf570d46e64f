/- The document's key: the login. -/
import Derived.Test.YtbljgbojkifoiaaSy6
set_option linter.unusedVariables false
set_option linter.unusedSimpArgs false
namespace Go.Proofs.Ytbljgbojkifoiaa
open Go Go.L

set_option maxHeartbeats 8000000 in
theorem r11b (s : StateS) (hl : s.login.ok) (ho : s.login.value.length ≤ 500) (qo : s.o = .sh ∨ s.o = .full) (hd : s.due.length ≤ 20) (k : List UInt8) (hk : k.length ≤ 1000000) (v0 v2 v4 v5 v7 v8 v9 v10 : LVal) :
    codeW D.T D.r11_2 { vars := [v0, .ptr 0 0, v2, .str k, v4, v5, .ptr 1 0, v7, v8, v9, v10], st := [.cells 31 s.cells, .cells 28 s.login.cells], rs := [] } =
      some (.normal, { vars := [v0.stay, .ptr 0 0, v2.stay, .str (k ++ (loginB s.login ++ numB s.due.length)), v4.stay, v5.stay, .ptr 1 0, v7.stay, v8.stay, v9.stay, v10.stay], st := [.cells 31 s.cells, .cells 28 s.login.cells], rs := [] }) := by
  obtain ⟨h1, h2, h3, h4⟩ := hl
  have hdl : i64 (s.due.length : Int) := ⟨by omega, by omega⟩
  have n1 := numB_len h1; have n2 := numB_len h2; have n3 := numB_len h3; have n4 := numB_len h4; have n5 := truthB_len s.login.oursOk; have n6 := truthB_len s.login.theirsOk; have n8 := truthB_len s.login.open_; have n9 := truthB_len s.login.asked; have n7 := textB_len s.login.value; have n10 := numB_len hdl
  have c1 := rnum_eq _ h1; have c2 := rnum_eq _ h2; have c3 := rnum_eq _ h3; have c4 := rnum_eq _ h4; have c5 := rtruth_eq s.login.oursOk; have c6 := rtruth_eq s.login.theirsOk; have c8 := rtruth_eq s.login.open_; have c9 := rtruth_eq s.login.asked; have c7 := rtext_eq s.login.value (by omega); have c10 := rnum_eq _ hdl
  have e5 : (duesL s.due).length = s.due.length := duesL_len s.due
  unfold D.r11_2
  simp only [LoginS.cells, StateS.cells, LinkS.cells, List.cons_append, List.nil_append]
  rcases qo with qo | qo <;> rw [qo]
  · apply regD
    simp only [RS.settle, List.map_cons, List.map_nil, stay_ptr, stay_str, stay_int, stay_bool, stay_sh, stay_full, settle_cells, List.replicate]
    repeat
      apply runD_cons
      · first
          | (simp [runFun, LMode.isPure, LVal.pfs, LVal.pf, Go.L.initVars, codeW_seq, codeW_region, codeW_regionD, codeW_cond, codeW_ret, codeW_skip, codeW_exit, codeW_block, codeW_fence, thenW, outW, fenceOut, kill, LVal.withins, LVal.within, runOps, runOpsD, Go.L.step, stepD, semD, sem, RS.peek, RS.put, RS.give, RS.take, RS.takes, RS.takeElems, RS.takeParts, RS.peeks, RS.peekO, RS.setVar, RS.noPk, RS.settle, RS.alloc, callOut, LVal.arg, LVal.isAgg, LVal.cells, LVal.unpk, LVal.copy, LVal.down, LVal.plain, LVal.settled, binL, binInt, binStr, unL, resL, resOne, res1, resAll, LVal.isTup, outL, LOp.quiet, LOp.acts, LOp.peeks, LOper.fix, calmOk, loadCalm, awayOk, dstFree, LVal.free, LVal.calm, LVal.calm1, LOp.opds, optL, RS.acquire, appendL, elemsL, bound, inRange, intL, loadL, storeL, setElems, setParts, fitsElem, lenL, isNilL, partL, chunks, c1, c2, c3, c4, c5, c6, c7, c8, c9, c10, e5]; done)
          | (simp [runFun, LMode.isPure, LVal.pfs, LVal.pf, Go.L.initVars, codeW_seq, codeW_region, codeW_regionD, codeW_cond, codeW_ret, codeW_skip, codeW_exit, codeW_block, codeW_fence, thenW, outW, fenceOut, kill, LVal.withins, LVal.within, runOps, runOpsD, Go.L.step, stepD, semD, sem, RS.peek, RS.put, RS.give, RS.take, RS.takes, RS.takeElems, RS.takeParts, RS.peeks, RS.peekO, RS.setVar, RS.noPk, RS.settle, RS.alloc, callOut, LVal.arg, LVal.isAgg, LVal.cells, LVal.unpk, LVal.copy, LVal.down, LVal.plain, LVal.settled, binL, binInt, binStr, unL, resL, resOne, res1, resAll, LVal.isTup, outL, LOp.quiet, LOp.acts, LOp.peeks, LOper.fix, calmOk, loadCalm, awayOk, dstFree, LVal.free, LVal.calm, LVal.calm1, LOp.opds, optL, RS.acquire, appendL, elemsL, bound, inRange, intL, loadL, storeL, setElems, setParts, fitsElem, lenL, isNilL, partL, chunks, c1, c2, c3, c4, c5, c6, c7, c8, c9, c10, e5]; rfl)
          | (simp [runFun, LMode.isPure, LVal.pfs, LVal.pf, Go.L.initVars, codeW_seq, codeW_region, codeW_regionD, codeW_cond, codeW_ret, codeW_skip, codeW_exit, codeW_block, codeW_fence, thenW, outW, fenceOut, kill, LVal.withins, LVal.within, runOps, runOpsD, Go.L.step, stepD, semD, sem, RS.peek, RS.put, RS.give, RS.take, RS.takes, RS.takeElems, RS.takeParts, RS.peeks, RS.peekO, RS.setVar, RS.noPk, RS.settle, RS.alloc, callOut, LVal.arg, LVal.isAgg, LVal.cells, LVal.unpk, LVal.copy, LVal.down, LVal.plain, LVal.settled, binL, binInt, binStr, unL, resL, resOne, res1, resAll, LVal.isTup, outL, LOp.quiet, LOp.acts, LOp.peeks, LOper.fix, calmOk, loadCalm, awayOk, dstFree, LVal.free, LVal.calm, LVal.calm1, LOp.opds, optL, RS.acquire, appendL, elemsL, bound, inRange, intL, loadL, storeL, setElems, setParts, fitsElem, lenL, isNilL, partL, chunks, c1, c2, c3, c4, c5, c6, c7, c8, c9, c10, e5]; exact ⟨by omega, rfl⟩)
    simp only [loginB, List.append_assoc]
    exact runD_nil
  · apply regD
    simp only [RS.settle, List.map_cons, List.map_nil, stay_ptr, stay_str, stay_int, stay_bool, stay_sh, stay_full, settle_cells, List.replicate]
    repeat
      apply runD_cons
      · first
          | (simp [runFun, LMode.isPure, LVal.pfs, LVal.pf, Go.L.initVars, codeW_seq, codeW_region, codeW_regionD, codeW_cond, codeW_ret, codeW_skip, codeW_exit, codeW_block, codeW_fence, thenW, outW, fenceOut, kill, LVal.withins, LVal.within, runOps, runOpsD, Go.L.step, stepD, semD, sem, RS.peek, RS.put, RS.give, RS.take, RS.takes, RS.takeElems, RS.takeParts, RS.peeks, RS.peekO, RS.setVar, RS.noPk, RS.settle, RS.alloc, callOut, LVal.arg, LVal.isAgg, LVal.cells, LVal.unpk, LVal.copy, LVal.down, LVal.plain, LVal.settled, binL, binInt, binStr, unL, resL, resOne, res1, resAll, LVal.isTup, outL, LOp.quiet, LOp.acts, LOp.peeks, LOper.fix, calmOk, loadCalm, awayOk, dstFree, LVal.free, LVal.calm, LVal.calm1, LOp.opds, optL, RS.acquire, appendL, elemsL, bound, inRange, intL, loadL, storeL, setElems, setParts, fitsElem, lenL, isNilL, partL, chunks, c1, c2, c3, c4, c5, c6, c7, c8, c9, c10, e5]; done)
          | (simp [runFun, LMode.isPure, LVal.pfs, LVal.pf, Go.L.initVars, codeW_seq, codeW_region, codeW_regionD, codeW_cond, codeW_ret, codeW_skip, codeW_exit, codeW_block, codeW_fence, thenW, outW, fenceOut, kill, LVal.withins, LVal.within, runOps, runOpsD, Go.L.step, stepD, semD, sem, RS.peek, RS.put, RS.give, RS.take, RS.takes, RS.takeElems, RS.takeParts, RS.peeks, RS.peekO, RS.setVar, RS.noPk, RS.settle, RS.alloc, callOut, LVal.arg, LVal.isAgg, LVal.cells, LVal.unpk, LVal.copy, LVal.down, LVal.plain, LVal.settled, binL, binInt, binStr, unL, resL, resOne, res1, resAll, LVal.isTup, outL, LOp.quiet, LOp.acts, LOp.peeks, LOper.fix, calmOk, loadCalm, awayOk, dstFree, LVal.free, LVal.calm, LVal.calm1, LOp.opds, optL, RS.acquire, appendL, elemsL, bound, inRange, intL, loadL, storeL, setElems, setParts, fitsElem, lenL, isNilL, partL, chunks, c1, c2, c3, c4, c5, c6, c7, c8, c9, c10, e5]; rfl)
          | (simp [runFun, LMode.isPure, LVal.pfs, LVal.pf, Go.L.initVars, codeW_seq, codeW_region, codeW_regionD, codeW_cond, codeW_ret, codeW_skip, codeW_exit, codeW_block, codeW_fence, thenW, outW, fenceOut, kill, LVal.withins, LVal.within, runOps, runOpsD, Go.L.step, stepD, semD, sem, RS.peek, RS.put, RS.give, RS.take, RS.takes, RS.takeElems, RS.takeParts, RS.peeks, RS.peekO, RS.setVar, RS.noPk, RS.settle, RS.alloc, callOut, LVal.arg, LVal.isAgg, LVal.cells, LVal.unpk, LVal.copy, LVal.down, LVal.plain, LVal.settled, binL, binInt, binStr, unL, resL, resOne, res1, resAll, LVal.isTup, outL, LOp.quiet, LOp.acts, LOp.peeks, LOper.fix, calmOk, loadCalm, awayOk, dstFree, LVal.free, LVal.calm, LVal.calm1, LOp.opds, optL, RS.acquire, appendL, elemsL, bound, inRange, intL, loadL, storeL, setElems, setParts, fitsElem, lenL, isNilL, partL, chunks, c1, c2, c3, c4, c5, c6, c7, c8, c9, c10, e5]; exact ⟨by omega, rfl⟩)
    simp only [loginB, List.append_assoc]
    exact runD_nil
end Go.Proofs.Ytbljgbojkifoiaa
