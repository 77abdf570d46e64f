/- The document's key. -/
import Derived.Test.YtbljgbojkifoiaaSy6
set_option linter.unusedVariables false
set_option linter.unusedSimpArgs false
namespace Go.Proofs.Ytbljgbojkifoiaa
open Go Go.L

set_option maxHeartbeats 4000000 in
theorem r11a (cs : List LVal) (hcs : cs.map LVal.stay = cs) (l : LinkS) (hl : l.ok) (ho : l.opts.length ≤ 500) (k : List UInt8) (hk : k.length ≤ 1000000) (v0 v2 v6 v7 v8 v10 : LVal) (n : Int) :
    codeW D.T D.r11_0 { vars := [v0, .ptr 0 0, v2, .str k, .int .i64 n, .ptr 1 0, v6, v7, v8, .bool true, v10], st := [.cells 31 cs, .cells 25 l.cells], rs := [] } =
      some (.normal, { vars := [v0.stay, .ptr 0 0, v2.stay, .str (k ++ linkB l), .int .i64 n, .ptr 1 0, v6.stay, v7.stay, v8.stay, .bool true, v10.stay], st := [.cells 31 cs, .cells 25 l.cells], rs := [] }) := by
  obtain ⟨h1, h2, h3, h4⟩ := hl
  have n1 := numB_len h1; have n2 := numB_len h2; have n3 := numB_len h3; have n4 := numB_len h4; have n5 := truthB_len l.sent; have n6 := truthB_len l.answered; have n7 := textB_len l.opts
  have c1 := rnum_eq _ h1; have c2 := rnum_eq _ h2; have c3 := rnum_eq _ h3; have c4 := rnum_eq _ h4; have c5 := rtruth_eq l.sent; have c6 := rtruth_eq l.answered; have c7 := rtext_eq l.opts (by omega)
  unfold D.r11_0
  simp only [LinkS.cells]
  apply regD
  simp only [RS.settle, List.map_cons, List.map_nil, stay_ptr, stay_str, stay_int, stay_bool, settle_cells, hcs, List.replicate]
  repeat
    apply runD_cons
    · first
        | (simp [runFun, LMode.isPure, LVal.pfs, LVal.pf, Go.L.initVars, codeW_seq, codeW_region, codeW_regionD, codeW_cond, codeW_ret, codeW_skip, codeW_exit, codeW_block, codeW_fence, thenW, outW, fenceOut, kill, LVal.withins, LVal.within, runOps, runOpsD, Go.L.step, stepD, semD, sem, RS.peek, RS.put, RS.give, RS.take, RS.takes, RS.takeElems, RS.takeParts, RS.peeks, RS.peekO, RS.setVar, RS.noPk, RS.settle, RS.alloc, callOut, LVal.arg, LVal.isAgg, LVal.cells, LVal.unpk, LVal.copy, LVal.down, LVal.plain, LVal.settled, binL, binInt, binStr, unL, resL, resOne, res1, resAll, LVal.isTup, outL, LOp.quiet, LOp.acts, LOp.peeks, LOper.fix, calmOk, loadCalm, awayOk, dstFree, LVal.free, LVal.calm, LVal.calm1, LOp.opds, optL, RS.acquire, appendL, elemsL, bound, inRange, intL, loadL, storeL, setElems, setParts, fitsElem, lenL, isNilL, partL, chunks, c1, c2, c3, c4, c5, c6, c7]; done)
        | (simp [runFun, LMode.isPure, LVal.pfs, LVal.pf, Go.L.initVars, codeW_seq, codeW_region, codeW_regionD, codeW_cond, codeW_ret, codeW_skip, codeW_exit, codeW_block, codeW_fence, thenW, outW, fenceOut, kill, LVal.withins, LVal.within, runOps, runOpsD, Go.L.step, stepD, semD, sem, RS.peek, RS.put, RS.give, RS.take, RS.takes, RS.takeElems, RS.takeParts, RS.peeks, RS.peekO, RS.setVar, RS.noPk, RS.settle, RS.alloc, callOut, LVal.arg, LVal.isAgg, LVal.cells, LVal.unpk, LVal.copy, LVal.down, LVal.plain, LVal.settled, binL, binInt, binStr, unL, resL, resOne, res1, resAll, LVal.isTup, outL, LOp.quiet, LOp.acts, LOp.peeks, LOper.fix, calmOk, loadCalm, awayOk, dstFree, LVal.free, LVal.calm, LVal.calm1, LOp.opds, optL, RS.acquire, appendL, elemsL, bound, inRange, intL, loadL, storeL, setElems, setParts, fitsElem, lenL, isNilL, partL, chunks, c1, c2, c3, c4, c5, c6, c7]; rfl)
        | (simp [runFun, LMode.isPure, LVal.pfs, LVal.pf, Go.L.initVars, codeW_seq, codeW_region, codeW_regionD, codeW_cond, codeW_ret, codeW_skip, codeW_exit, codeW_block, codeW_fence, thenW, outW, fenceOut, kill, LVal.withins, LVal.within, runOps, runOpsD, Go.L.step, stepD, semD, sem, RS.peek, RS.put, RS.give, RS.take, RS.takes, RS.takeElems, RS.takeParts, RS.peeks, RS.peekO, RS.setVar, RS.noPk, RS.settle, RS.alloc, callOut, LVal.arg, LVal.isAgg, LVal.cells, LVal.unpk, LVal.copy, LVal.down, LVal.plain, LVal.settled, binL, binInt, binStr, unL, resL, resOne, res1, resAll, LVal.isTup, outL, LOp.quiet, LOp.acts, LOp.peeks, LOper.fix, calmOk, loadCalm, awayOk, dstFree, LVal.free, LVal.calm, LVal.calm1, LOp.opds, optL, RS.acquire, appendL, elemsL, bound, inRange, intL, loadL, storeL, setElems, setParts, fitsElem, lenL, isNilL, partL, chunks, c1, c2, c3, c4, c5, c6, c7]; exact ⟨by omega, rfl⟩)
  simp only [linkB, List.append_assoc]
  exact runD_nil
end Go.Proofs.Ytbljgbojkifoiaa
