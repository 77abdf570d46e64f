/- The document's key: what is owed. -/
import Derived.Test.YtbljgbojkifoiaaSy6
set_option linter.unusedVariables false
set_option linter.unusedSimpArgs false
namespace Go.Proofs.Ytbljgbojkifoiaa
open Go Go.L

set_option maxHeartbeats 4000000 in
theorem r11c (cs lg : List LVal) (hcs : cs.map LVal.stay = cs) (hlg : lg.map LVal.stay = lg) (l : DueS) (hl : l.ok) (ho : l.data.length ≤ 500) (k : List UInt8) (hk : k.length ≤ 1000000) (v0 v2 v4 v5 v6 v9 : LVal) (n : Int) :
    codeW D.T D.r11_3 { vars := [v0, .ptr 0 0, v2, .str k, v4, v5, v6, .int .i64 n, .ptr 2 0, v9, .bool true], st := [.cells 31 cs, .cells 28 lg, .cells 43 l.cells], rs := [] } =
      some (.normal, { vars := [v0.stay, .ptr 0 0, v2.stay, .str (k ++ dueB l), v4.stay, v5.stay, v6.stay, .int .i64 n, .ptr 2 0, v9.stay, .bool true], st := [.cells 31 cs, .cells 28 lg, .cells 43 l.cells], rs := [] }) := by
  obtain ⟨h1, h2, h3⟩ := hl
  have n1 := numB_len h1; have n2 := numB_len h2; have n3 := numB_len h3; have n7 := textB_len l.data
  have c1 := rnum_eq _ h1; have c2 := rnum_eq _ h2; have c3 := rnum_eq _ h3; have c7 := rtext_eq l.data (by omega)
  unfold D.r11_3
  simp only [DueS.cells]
  apply regD
  simp only [RS.settle, List.map_cons, List.map_nil, stay_ptr, stay_str, stay_int, stay_bool, settle_cells, hcs, hlg, List.replicate]
  repeat
    apply runD_cons
    · first
        | (simp [runFun, LMode.isPure, LVal.pfs, LVal.pf, Go.L.initVars, codeW_seq, codeW_region, codeW_regionD, codeW_cond, codeW_ret, codeW_skip, codeW_exit, codeW_block, codeW_fence, thenW, outW, fenceOut, kill, LVal.withins, LVal.within, runOps, runOpsD, Go.L.step, stepD, semD, sem, RS.peek, RS.put, RS.give, RS.take, RS.takes, RS.takeElems, RS.takeParts, RS.peeks, RS.peekO, RS.setVar, RS.noPk, RS.settle, RS.alloc, callOut, LVal.arg, LVal.isAgg, LVal.cells, LVal.unpk, LVal.copy, LVal.down, LVal.plain, LVal.settled, binL, binInt, binStr, unL, resL, resOne, res1, resAll, LVal.isTup, outL, LOp.quiet, LOp.acts, LOp.peeks, LOper.fix, calmOk, loadCalm, awayOk, dstFree, LVal.free, LVal.calm, LVal.calm1, LOp.opds, optL, RS.acquire, appendL, elemsL, bound, inRange, intL, loadL, storeL, setElems, setParts, fitsElem, lenL, isNilL, partL, chunks, c1, c2, c3, c7]; done)
        | (simp [runFun, LMode.isPure, LVal.pfs, LVal.pf, Go.L.initVars, codeW_seq, codeW_region, codeW_regionD, codeW_cond, codeW_ret, codeW_skip, codeW_exit, codeW_block, codeW_fence, thenW, outW, fenceOut, kill, LVal.withins, LVal.within, runOps, runOpsD, Go.L.step, stepD, semD, sem, RS.peek, RS.put, RS.give, RS.take, RS.takes, RS.takeElems, RS.takeParts, RS.peeks, RS.peekO, RS.setVar, RS.noPk, RS.settle, RS.alloc, callOut, LVal.arg, LVal.isAgg, LVal.cells, LVal.unpk, LVal.copy, LVal.down, LVal.plain, LVal.settled, binL, binInt, binStr, unL, resL, resOne, res1, resAll, LVal.isTup, outL, LOp.quiet, LOp.acts, LOp.peeks, LOper.fix, calmOk, loadCalm, awayOk, dstFree, LVal.free, LVal.calm, LVal.calm1, LOp.opds, optL, RS.acquire, appendL, elemsL, bound, inRange, intL, loadL, storeL, setElems, setParts, fitsElem, lenL, isNilL, partL, chunks, c1, c2, c3, c7]; rfl)
        | (simp [runFun, LMode.isPure, LVal.pfs, LVal.pf, Go.L.initVars, codeW_seq, codeW_region, codeW_regionD, codeW_cond, codeW_ret, codeW_skip, codeW_exit, codeW_block, codeW_fence, thenW, outW, fenceOut, kill, LVal.withins, LVal.within, runOps, runOpsD, Go.L.step, stepD, semD, sem, RS.peek, RS.put, RS.give, RS.take, RS.takes, RS.takeElems, RS.takeParts, RS.peeks, RS.peekO, RS.setVar, RS.noPk, RS.settle, RS.alloc, callOut, LVal.arg, LVal.isAgg, LVal.cells, LVal.unpk, LVal.copy, LVal.down, LVal.plain, LVal.settled, binL, binInt, binStr, unL, resL, resOne, res1, resAll, LVal.isTup, outL, LOp.quiet, LOp.acts, LOp.peeks, LOper.fix, calmOk, loadCalm, awayOk, dstFree, LVal.free, LVal.calm, LVal.calm1, LOp.opds, optL, RS.acquire, appendL, elemsL, bound, inRange, intL, loadL, storeL, setElems, setParts, fitsElem, lenL, isNilL, partL, chunks, c1, c2, c3, c7]; exact ⟨by omega, rfl⟩)
  simp only [dueB, List.append_assoc]
  exact runD_nil

set_option maxHeartbeats 4000000 in
theorem due11 (s : StateS) (qo : s.o = .sh ∨ s.o = .full) (qm : s.due ≠ [] → s.m = 4) (hok : ∀ d ∈ s.due, d.ok) (hsh : ∀ d ∈ s.due, d.data.length ≤ 500) (hlen : s.due.length ≤ 20) : ∀ (j i : Nat) (z : Int) (k : List UInt8) (v0 v2 v4 v5 v6 v8 v9 v10 : LVal), v0.isOwn = false → v2.isOwn = false → v8.isOwn = false → v10.isOwn = false → z = i → i + j = s.due.length → k.length + 1100 * j ≤ 500000 →
    ∃ (w : Nat → LVal), codeW D.T (.loop D.b11_4) { vars := [v0, .ptr 0 0, v2, .str k, v4, v5, v6, .int .i64 z, v8, v9, v10], st := [.cells 31 s.cells, .cells 28 s.login.cells], rs := [] } =
      some (.exit 2, { vars := [w 0, .ptr 0 0, w 2, .str (k ++ duesB (s.due.drop i)), w 4, w 5, w 6, .int .i64 s.due.length, w 8, w 9, .bool false], st := [.cells 31 s.cells, .cells 28 s.login.cells], rs := [] })
  | 0, i, z, k, v0, v2, v4, v5, v6, v8, v9, v10, o0, o2, o8, o10, hz, hij, hb => by
    subst hz
    have hi : i = s.due.length := by omega
    subst hi
    refine ⟨fun j => [v0, .undef, v2, .undef, v4, v5, v6, .undef, v8, v9].getD j .undef, ?_⟩
    have e5 : (duesL s.due).length = s.due.length := duesL_len s.due
    rw [codeW_loop]
    simp only [StateS.cells, LinkS.cells, LoginS.cells, List.cons_append, List.nil_append]
    rcases qo with qo | qo <;> simp [qo, D.b11_4, runFun, LMode.isPure, LVal.pfs, LVal.pf, Go.L.initVars, codeW_seq, codeW_region, codeW_regionD, codeW_cond, codeW_ret, codeW_skip, codeW_exit, codeW_block, codeW_fence, thenW, outW, fenceOut, kill, LVal.withins, LVal.within, runOps, runOpsD, Go.L.step, stepD, semD, sem, RS.peek, RS.put, RS.give, RS.take, RS.takes, RS.takeElems, RS.takeParts, RS.peeks, RS.peekO, RS.setVar, RS.noPk, RS.settle, RS.alloc, callOut, LVal.arg, LVal.isAgg, LVal.cells, LVal.unpk, LVal.copy, LVal.down, LVal.plain, LVal.settled, binL, binInt, binStr, unL, resL, resOne, res1, resAll, LVal.isTup, outL, LOp.quiet, LOp.acts, LOp.peeks, LOper.fix, calmOk, loadCalm, awayOk, dstFree, LVal.free, LVal.calm, LVal.calm1, LOp.opds, optL, RS.acquire, appendL, elemsL, bound, inRange, intL, loadL, storeL, setElems, setParts, fitsElem, lenL, isNilL, partL, chunks, o10, e5, duesB]
  | j + 1, i, z, k, v0, v2, v4, v5, v6, v8, v9, v10, o0, o2, o8, o10, hz, hij, hb => by
    subst hz
    have hi : i < s.due.length := by omega
    obtain ⟨d, hd⟩ : ∃ d, s.due[i]? = some d := ⟨_, List.getElem?_eq_getElem hi⟩
    have hdm : d ∈ s.due := List.mem_of_getElem? hd
    have hdrop : s.due.drop i = d :: s.due.drop (i + 1) := by
      rw [List.drop_eq_getElem_cons hi]
      rw [List.getElem?_eq_getElem hi] at hd; injection hd with hd; rw [hd]
    have hdl : (dueB d).length ≤ 1100 := by
      obtain ⟨q1, q2, q3⟩ := hok d hdm
      have n1 := numB_len q1; have n2 := numB_len q2; have n3 := numB_len q3; have n7 := textB_len d.data
      have := hsh d hdm
      simp only [dueB, List.length_append]; omega
    obtain ⟨w, c1⟩ := due11 s qo qm hok hsh hlen j (i + 1) ((i : Int) + 1) (k ++ dueB d) .undef .undef .undef .undef .undef .undef .undef .undef rfl rfl rfl rfl (by omega) (by omega) (by simp only [List.length_append]; omega)
    refine ⟨w, ?_⟩
    have e1 : (i : Int) < (s.due.length : Int) := by omega
    have e0 : 0 ≤ (i : Int) ∧ (i : Int) < (s.due.length : Int) := by omega
    have e3 : IntKind.i64.wrap ((i : Int) + 1) = (i : Int) + 1 := wi64 (by omega) (by omega)
    have e5 : (duesL s.due).length = s.due.length := duesL_len s.due
    have e6 : (duesL s.due)[i]? = some (.agg d.cells) := by rw [duesL_get, hd]; rfl
    have e7 : ∀ n, LVal.withins n (duesL s.due) = true := fun n => duesL_within n s.due
    have hsc : s.cells.map LVal.stay = s.cells := by simp only [StateS.cells]; rcases qo with ho | ho <;> rw [ho] <;> rfl
    have hm4 : s.m = 4 := qm (fun e => by rw [e] at hi; simp at hi)
    have hr := r11c s.cells s.login.cells hsc rfl d (hok d hdm) (hsh d hdm) k (by omega) v0 v2 v4 v5 v6 v9 i
    rw [codeW_loop, hdrop]
    generalize hK : thenW (codeW D.T (.loop D.b11_4)) = K
    simp only [duesB]
    rw [← List.append_assoc]
    simp only [StateS.cells, LinkS.cells, LoginS.cells, DueS.cells, List.cons_append, List.nil_append] at hr c1 e6 ⊢
    rcases qo with qo | qo
    · simp only [qo, hm4] at hr c1 ⊢
      simp [D.b11_4, runFun, LMode.isPure, LVal.pfs, LVal.pf, Go.L.initVars, codeW_seq, codeW_region, codeW_regionD, codeW_cond, codeW_ret, codeW_skip, codeW_exit, codeW_block, codeW_fence, thenW, outW, fenceOut, kill, LVal.withins, LVal.within, runOps, runOpsD, Go.L.step, stepD, semD, sem, RS.peek, RS.put, RS.give, RS.take, RS.takes, RS.takeElems, RS.takeParts, RS.peeks, RS.peekO, RS.setVar, RS.noPk, RS.settle, RS.alloc, callOut, LVal.arg, LVal.isAgg, LVal.cells, LVal.unpk, LVal.copy, LVal.down, LVal.plain, LVal.settled, binL, binInt, binStr, unL, resL, resOne, res1, resAll, LVal.isTup, outL, LOp.quiet, LOp.acts, LOp.peeks, LOper.fix, calmOk, loadCalm, awayOk, dstFree, LVal.free, LVal.calm, LVal.calm1, LOp.opds, optL, RS.acquire, appendL, elemsL, bound, inRange, intL, loadL, storeL, setElems, setParts, fitsElem, lenL, isNilL, partL, chunks, o8, o10, e0, e1, e3, e5, e6, e7, hr]
      subst hK
      simpa using c1
    · simp only [qo, hm4] at hr c1 ⊢
      simp [D.b11_4, runFun, LMode.isPure, LVal.pfs, LVal.pf, Go.L.initVars, codeW_seq, codeW_region, codeW_regionD, codeW_cond, codeW_ret, codeW_skip, codeW_exit, codeW_block, codeW_fence, thenW, outW, fenceOut, kill, LVal.withins, LVal.within, runOps, runOpsD, Go.L.step, stepD, semD, sem, RS.peek, RS.put, RS.give, RS.take, RS.takes, RS.takeElems, RS.takeParts, RS.peeks, RS.peekO, RS.setVar, RS.noPk, RS.settle, RS.alloc, callOut, LVal.arg, LVal.isAgg, LVal.cells, LVal.unpk, LVal.copy, LVal.down, LVal.plain, LVal.settled, binL, binInt, binStr, unL, resL, resOne, res1, resAll, LVal.isTup, outL, LOp.quiet, LOp.acts, LOp.peeks, LOper.fix, calmOk, loadCalm, awayOk, dstFree, LVal.free, LVal.calm, LVal.calm1, LOp.opds, optL, RS.acquire, appendL, elemsL, bound, inRange, intL, loadL, storeL, setElems, setParts, fitsElem, lenL, isNilL, partL, chunks, o8, o10, e0, e1, e3, e5, e6, e7, hr]
      subst hK
      simpa using c1
end Go.Proofs.Ytbljgbojkifoiaa
