/- Sets by the document: two lists alike. -/
import Derived.Test.YtbljgbojkifoiaaSy24
set_option linter.unusedVariables false
set_option linter.unusedSimpArgs false
namespace Go.Proofs.Ytbljgbojkifoiaa
open Go Go.L

theorem fn14 : D.T.fns 14 = some (.fn D.l14) := rfl
/-- The same states, one by one. -/
def sameS (l m : List StateS) : Bool := l.map keyB == m.map keyB

theorem sameS_len {l m : List StateS} (h : l.length ≠ m.length) : sameS l m = false := by
  simp only [sameS, beq_eq_false_iff_ne, ne_eq]
  intro e
  exact h (by simpa using congrArg List.length e)

abbrev W14 (b0 b1 : Bool) (n0 n1 : Nat) (l m : List StateS) (v2 : LVal) (i : Int) (v4 : LVal) : RS :=
  { vars := [.vs b0 .sh n0 (statesL l), .vs b1 .sh n1 (statesL m), v2,   .int .i64 i, v4, .undef, .undef], st := [], rs := [] }

set_option maxHeartbeats 8000000 in
theorem loop14 (b0 b1 : Bool) (n0 n1 : Nat) (l m : List StateS) (h0 : l = [] ∨ n0 = 31) (h1 : m = [] ∨ n1 = 31) (hl1 : ∀ x ∈ l, x.ok ∧ x.few) (hm1 : ∀ x ∈ m, x.ok ∧ x.few) (hlen : l.length = m.length) (hl : l.length ≤ 100000) : ∀ (j i : Nat) (v2 v4 : LVal),
    v2.isOwn = false → v4.isOwn = false → i + j = l.length →
    ∃ (w : Nat → LVal), codeW D.T (.loop D.b14_0) (W14 b0 b1 n0 n1 l m v2 i v4) =
      some (if sameS (l.drop i) (m.drop i) then .exit 0 else .ret, { vars := [w 0, w 1, if sameS (l.drop i) (m.drop i) then w 2 else .bool false, w 3, w 4, w 5, w 6], st := [], rs := [] })
  | 0, i, v2, v4, o2, o4, hij => by
    have hi : i = l.length := by omega
    subst hi
    have e5 : (statesL l).length = l.length := statesL_len l
    have hlen' : (statesL m).length = m.length := statesL_len m
    rw [List.drop_length, hlen, List.drop_length]
    refine ⟨fun j => ([.vs b0 .sh n0 (statesL l), .vs b1 .sh n1 (statesL m), v2, .int .i64 m.length, v4, .bool false, .undef] : List LVal).getD j .undef, ?_⟩
    rw [codeW_loop]
    simp [D.b14_0, runFun, LMode.isPure, LVal.pfs, LVal.pf, Go.L.initVars, codeW_seq, codeW_region, codeW_regionD, codeW_cond, codeW_ret, codeW_skip, codeW_exit, codeW_block, codeW_fence, thenW, outW, fenceOut, kill, LVal.withins, LVal.within, runOps, runOpsD, Go.L.step, stepD, semD, sem, RS.peek, RS.put, RS.give, RS.take, RS.takes, RS.takeElems, RS.takeParts, RS.peeks, RS.peekO, RS.setVar, RS.noPk, RS.settle, RS.alloc, callOut, LVal.arg, LVal.isAgg, LVal.cells, LVal.unpk, LVal.copy, LVal.down, LVal.plain, LVal.settled, binL, binInt, binStr, unL, resL, resOne, res1, resAll, LVal.isTup, outL, LOp.quiet, LOp.acts, LOp.peeks, LOper.fix, calmOk, loadCalm, awayOk, dstFree, LVal.free, LVal.calm, LVal.calm1, LOp.opds, optL, RS.acquire, appendL, elemsL, bound, inRange, intL, loadL, storeL, setElems, setParts, fitsElem, lenL, isNilL, partL, chunks, o2, o4, e5, sameS, hlen, hlen']
  | j + 1, i, v2, v4, o2, o4, hij => by
    have hi : i < l.length := by omega
    have hi' : i < m.length := by omega
    obtain ⟨x, hx⟩ : ∃ x, l[i]? = some x := ⟨_, List.getElem?_eq_getElem hi⟩
    obtain ⟨y, hy⟩ : ∃ y, m[i]? = some y := ⟨_, List.getElem?_eq_getElem hi'⟩
    have hdrop : l.drop i = x :: l.drop (i + 1) := by
      rw [List.drop_eq_getElem_cons hi]
      rw [List.getElem?_eq_getElem hi] at hx; injection hx with hx; rw [hx]
    have hdrop' : m.drop i = y :: m.drop (i + 1) := by
      rw [List.drop_eq_getElem_cons hi']
      rw [List.getElem?_eq_getElem hi'] at hy; injection hy with hy; rw [hy]
    have hn0 : n0 = 31 := by
      rcases h0 with rfl | h
      · simp at hi
      · exact h
    have hn1 : n1 = 31 := by
      rcases h1 with rfl | h
      · simp at hi'
      · exact h
    subst hn0 hn1
    have e1 : (i : Int) < (m.length : Int) := by omega
    have e2 : (i : Int) < (l.length : Int) := by omega
    have e0 : 0 ≤ (i : Int) ∧ (i : Int) < (m.length : Int) := by omega
    have e0' : 0 ≤ (i : Int) ∧ (i : Int) < (l.length : Int) := by omega
    have e3 : IntKind.i64.wrap ((i : Int) + 1) = (i : Int) + 1 := wi64 (by omega) (by omega)
    have e5 : (statesL l).length = l.length := statesL_len l
    have e5' : (statesL m).length = m.length := statesL_len m
    have e6 : (statesL l)[i]? = some (.agg x.cells) := by rw [statesL_get, hx]; rfl
    have e6' : (statesL m)[i]? = some (.agg y.cells) := by rw [statesL_get, hy]; rfl
    have hxo := hl1 x (List.mem_of_getElem? hx)
    have hyo := hm1 y (List.mem_of_getElem? hy)
    have e7 : ∀ l : List StateS, LVal.pfs (statesL l) = true := statesL_pfs
    have lx : x.lies := ⟨hxo.1.2.2.2.2.2.2.1, hxo.1.2.2.2.2.2.2.2⟩
    have ly : y.lies := ⟨hyo.1.2.2.2.2.2.2.1, hyo.1.2.2.2.2.2.2.2⟩
    obtain ⟨fx1, fx2, fx3⟩ := fits_state lx
    obtain ⟨fy1, fy2, fy3⟩ := fits_state ly
    have c12 := same_eq x y (hxo.1.shut hxo.2) (hyo.1.shut hyo.2)
    have hk : @decide (Alike x y) (Classical.propDecidable _) = (keyB x == keyB y) := by
      rw [Bool.eq_iff_iff]
      simp [key_inj]
    rw [hk] at c12
    rw [hdrop, hdrop']
    obtain ⟨w, IH⟩ := loop14 b0 b1 31 31 l m (.inr rfl) (.inr rfl) hl1 hm1 hlen hl j (i + 1) .undef .undef rfl rfl (by omega)
    rw [codeW_loop]
    generalize hK : thenW (codeW D.T (.loop D.b14_0)) = K
    cases hq : keyB x == keyB y with
    | false =>
      have hs : sameS (x :: l.drop (i + 1)) (y :: m.drop (i + 1)) = false := by simp [sameS] at hq ⊢; simp [hq]
      rw [hs]
      rw [hq] at c12
      refine ⟨fun j => ([.vs b0 .sh 31 (statesL l), .vs b1 .sh 31 (statesL m), v2, .int .i64 i, v4.stay, .bool true, .bool true] : List LVal).getD j .undef, ?_⟩
      simp [D.b14_0, runFun, LMode.isPure, LVal.pfs, LVal.pf, Go.L.initVars, codeW_seq, codeW_region, codeW_regionD, codeW_cond, codeW_ret, codeW_skip, codeW_exit, codeW_block, codeW_fence, thenW, outW, fenceOut, kill, LVal.withins, LVal.within, runOps, runOpsD, Go.L.step, stepD, semD, sem, RS.peek, RS.put, RS.give, RS.take, RS.takes, RS.takeElems, RS.takeParts, RS.peeks, RS.peekO, RS.setVar, RS.noPk, RS.settle, RS.alloc, callOut, LVal.arg, LVal.isAgg, LVal.cells, LVal.unpk, LVal.copy, LVal.down, LVal.plain, LVal.settled, binL, binInt, binStr, unL, resL, resOne, res1, resAll, LVal.isTup, outL, LOp.quiet, LOp.acts, LOp.peeks, LOper.fix, calmOk, loadCalm, awayOk, dstFree, LVal.free, LVal.calm, LVal.calm1, LOp.opds, optL, RS.acquire, appendL, elemsL, bound, inRange, intL, loadL, storeL, setElems, setParts, fitsElem, lenL, isNilL, partL, chunks, o2, o4, e0, e0', e1, e2, e3, e5, e5', e6, e6', e7, fx1, fx2, fy1, fy2, c12]
      subst hK
      rfl
    | true =>
      have hs : sameS (x :: l.drop (i + 1)) (y :: m.drop (i + 1)) = sameS (l.drop (i + 1)) (m.drop (i + 1)) := by simp [sameS] at hq ⊢; simp [hq]
      rw [hs]
      rw [hq] at c12
      refine ⟨w, ?_⟩
      simp [D.b14_0, runFun, LMode.isPure, LVal.pfs, LVal.pf, Go.L.initVars, codeW_seq, codeW_region, codeW_regionD, codeW_cond, codeW_ret, codeW_skip, codeW_exit, codeW_block, codeW_fence, thenW, outW, fenceOut, kill, LVal.withins, LVal.within, runOps, runOpsD, Go.L.step, stepD, semD, sem, RS.peek, RS.put, RS.give, RS.take, RS.takes, RS.takeElems, RS.takeParts, RS.peeks, RS.peekO, RS.setVar, RS.noPk, RS.settle, RS.alloc, callOut, LVal.arg, LVal.isAgg, LVal.cells, LVal.unpk, LVal.copy, LVal.down, LVal.plain, LVal.settled, binL, binInt, binStr, unL, resL, resOne, res1, resAll, LVal.isTup, outL, LOp.quiet, LOp.acts, LOp.peeks, LOper.fix, calmOk, loadCalm, awayOk, dstFree, LVal.free, LVal.calm, LVal.calm1, LOp.opds, optL, RS.acquire, appendL, elemsL, bound, inRange, intL, loadL, storeL, setElems, setParts, fitsElem, lenL, isNilL, partL, chunks, o2, o4, e0, e0', e1, e2, e3, e5, e5', e6, e6', e7, fx1, fx2, fy1, fy2, c12]
      subst hK
      exact IH

set_option maxHeartbeats 8000000 in
/-- Same. -/
theorem rsame_eq {b0 b1 : Bool} {n0 n1 : Nat} {l m : List StateS} (h0 : l = [] ∨ n0 = 31) (h1 : m = [] ∨ n1 = 31) (hl1 : ∀ x ∈ l, x.ok ∧ x.few) (hm1 : ∀ x ∈ m, x.ok ∧ x.few) (hl : l.length ≤ 100000) (hl' : m.length ≤ 100000) :
    callW D.T 14 [.vs b0 .sh n0 (statesL l), .vs b1 .sh n1 (statesL m)] [] = some (.bool (sameS l m), none) := by
  have e5 : (statesL l).length = l.length := statesL_len l
  have e5' : (statesL m).length = m.length := statesL_len m
  have e7 : ∀ l : List StateS, LVal.pfs (statesL l) = true := statesL_pfs
  rw [callW_fn fn14]
  by_cases hlen : l.length = m.length
  · obtain ⟨w, c1⟩ := loop14 b0 b1 n0 n1 l m h0 h1 hl1 hm1 hlen hl l.length 0 (.bool false) (.bool false) rfl rfl (by omega)
    have z0 : ((0 : Nat) : Int) = 0 := rfl
    rw [z0] at c1
    simp only [List.drop_zero] at c1
    simp [D.l14, D.c14, runFun, LMode.isPure, LVal.pfs, LVal.pf, Go.L.initVars, codeW_seq, codeW_region, codeW_regionD, codeW_cond, codeW_ret, codeW_skip, codeW_exit, codeW_block, codeW_fence, thenW, outW, fenceOut, kill, LVal.withins, LVal.within, runOps, runOpsD, Go.L.step, stepD, semD, sem, RS.peek, RS.put, RS.give, RS.take, RS.takes, RS.takeElems, RS.takeParts, RS.peeks, RS.peekO, RS.setVar, RS.noPk, RS.settle, RS.alloc, callOut, LVal.arg, LVal.isAgg, LVal.cells, LVal.unpk, LVal.copy, LVal.down, LVal.plain, LVal.settled, binL, binInt, binStr, unL, resL, resOne, res1, resAll, LVal.isTup, outL, LOp.quiet, LOp.acts, LOp.peeks, LOper.fix, calmOk, loadCalm, awayOk, dstFree, LVal.free, LVal.calm, LVal.calm1, LOp.opds, optL, RS.acquire, appendL, elemsL, bound, inRange, intL, loadL, storeL, setElems, setParts, fitsElem, lenL, isNilL, partL, chunks, e5, e5', e7, hlen]
    rw [c1]
    cases sameS l m <;> simp [runFun, LMode.isPure, LVal.pfs, LVal.pf, Go.L.initVars, codeW_seq, codeW_region, codeW_regionD, codeW_cond, codeW_ret, codeW_skip, codeW_exit, codeW_block, codeW_fence, thenW, outW, fenceOut, kill, LVal.withins, LVal.within, runOps, runOpsD, Go.L.step, stepD, semD, sem, RS.peek, RS.put, RS.give, RS.take, RS.takes, RS.takeElems, RS.takeParts, RS.peeks, RS.peekO, RS.setVar, RS.noPk, RS.settle, RS.alloc, callOut, LVal.arg, LVal.isAgg, LVal.cells, LVal.unpk, LVal.copy, LVal.down, LVal.plain, LVal.settled, binL, binInt, binStr, unL, resL, resOne, res1, resAll, LVal.isTup, outL, LOp.quiet, LOp.acts, LOp.peeks, LOper.fix, calmOk, loadCalm, awayOk, dstFree, LVal.free, LVal.calm, LVal.calm1, LOp.opds, optL, RS.acquire, appendL, elemsL, bound, inRange, intL, loadL, storeL, setElems, setParts, fitsElem, lenL, isNilL, partL, chunks]
  · rw [sameS_len hlen]
    have h2 : ¬ ((l.length : Int) = (m.length : Int)) := by omega
    simp [D.l14, D.c14, runFun, LMode.isPure, LVal.pfs, LVal.pf, Go.L.initVars, codeW_seq, codeW_region, codeW_regionD, codeW_cond, codeW_ret, codeW_skip, codeW_exit, codeW_block, codeW_fence, thenW, outW, fenceOut, kill, LVal.withins, LVal.within, runOps, runOpsD, Go.L.step, stepD, semD, sem, RS.peek, RS.put, RS.give, RS.take, RS.takes, RS.takeElems, RS.takeParts, RS.peeks, RS.peekO, RS.setVar, RS.noPk, RS.settle, RS.alloc, callOut, LVal.arg, LVal.isAgg, LVal.cells, LVal.unpk, LVal.copy, LVal.down, LVal.plain, LVal.settled, binL, binInt, binStr, unL, resL, resOne, res1, resAll, LVal.isTup, outL, LOp.quiet, LOp.acts, LOp.peeks, LOper.fix, calmOk, loadCalm, awayOk, dstFree, LVal.free, LVal.calm, LVal.calm1, LOp.opds, optL, RS.acquire, appendL, elemsL, bound, inRange, intL, loadL, storeL, setElems, setParts, fitsElem, lenL, isNilL, partL, chunks, e5, e5', e7, h2, hlen]
end Go.Proofs.Ytbljgbojkifoiaa
