/- Sets: Is. -/
import Derived.Test.YtbljgbojkifoiaaSy25
set_option linter.unusedVariables false
set_option linter.unusedSimpArgs false
namespace Go.Proofs.Ytbljgbojkifoiaa
open Go Go.L

theorem fn16 : D.T.fns 16 = some (.fn D.l16) := rfl
/-- In order, no two alike. -/
def isFrom (a : StateS) : List StateS → Bool
  | [] => true
  | b :: l => decide (keyB a < keyB b) && isFrom b l
def isS : List StateS → Bool
  | [] => true
  | a :: l => isFrom a l

abbrev W16 (b0 : Bool) (n0 : Nat) (l : List StateS) (v1 : LVal) (i : Int) : RS :=
  { vars := [.vs b0 .sh n0 (statesL l), v1, .int .i64 i, .undef, .undef], st := [], rs := [] }

theorem geq_str (a b : List UInt8) : (!(Op.bytesLess a b)) = !(decide (a < b)) := by rw [bytesLess_eq']

set_option maxHeartbeats 8000000 in
theorem loop16 (b0 : Bool) (n0 : Nat) (l : List StateS) (h0 : l = [] ∨ n0 = 31) (hl1 : ∀ x ∈ l, x.ok ∧ x.few) (hl : l.length ≤ 100000) : ∀ (j i : Nat) (a : StateS) (v1 : LVal),
    v1.isOwn = false → l[i]? = some a → i + 1 + j = l.length →
    ∃ (w : Nat → LVal), codeW D.T (.loop D.b16_0) (W16 b0 n0 l v1 (i + 1 : Nat)) =
      some (if isFrom a (l.drop (i + 1)) then .exit 0 else .ret, { vars := [w 0, if isFrom a (l.drop (i + 1)) then w 1 else .bool false, w 2, w 3, w 4], st := [], rs := [] })
  | 0, i, a, v1, o1, ha, hij => by
    have hi : i + 1 = l.length := by omega
    have e5 : (statesL l).length = l.length := statesL_len l
    rw [hi, List.drop_length]
    refine ⟨fun j => ([.vs b0 .sh n0 (statesL l), v1, .int .i64 l.length, .bool false, .undef] : List LVal).getD j .undef, ?_⟩
    rw [codeW_loop]
    simp [D.b16_0, runFun, LMode.isPure, LVal.pfs, LVal.pf, Go.L.initVars, codeW_seq, codeW_region, codeW_regionD, codeW_cond, codeW_ret, codeW_skip, codeW_exit, codeW_block, codeW_fence, thenW, outW, fenceOut, kill, LVal.withins, LVal.within, runOps, runOpsD, Go.L.step, stepD, semD, sem, RS.peek, RS.put, RS.give, RS.take, RS.takes, RS.takeElems, RS.takeParts, RS.peeks, RS.peekO, RS.setVar, RS.noPk, RS.settle, RS.alloc, callOut, LVal.arg, LVal.isAgg, LVal.cells, LVal.unpk, LVal.copy, LVal.down, LVal.plain, LVal.settled, binL, binInt, binStr, unL, resL, resOne, res1, resAll, LVal.isTup, outL, LOp.quiet, LOp.acts, LOp.peeks, LOper.fix, calmOk, loadCalm, awayOk, dstFree, LVal.free, LVal.calm, LVal.calm1, LOp.opds, optL, RS.acquire, appendL, elemsL, bound, inRange, intL, loadL, storeL, setElems, setParts, fitsElem, lenL, isNilL, partL, chunks, o1, e5, isFrom]
  | j + 1, i, a, v1, o1, ha, hij => by
    have hi : i + 1 < l.length := by omega
    obtain ⟨x, hx⟩ : ∃ x, l[i + 1]? = some x := ⟨_, List.getElem?_eq_getElem hi⟩
    have hdrop : l.drop (i + 1) = x :: l.drop (i + 1 + 1) := by
      rw [List.drop_eq_getElem_cons hi]
      rw [List.getElem?_eq_getElem hi] at hx; injection hx with hx; rw [hx]
    have hn0 : n0 = 31 := by
      rcases h0 with rfl | h
      · simp at hi
      · exact h
    subst hn0
    obtain ⟨w, IH⟩ := loop16 b0 31 l (.inr rfl) hl1 hl j (i + 1) x .undef rfl hx (by omega)
    rw [hdrop]
    generalize hz : (((i + 1 : Nat)) : Int) = z
    have e1 : z < (l.length : Int) := by omega
    have e0 : 0 ≤ z ∧ z < (l.length : Int) := by omega
    have e2 : IntKind.i64.wrap (z - 1) = z - 1 := wi64 (by omega) (by omega)
    have e2' : IntKind.i64.wrap (z + -1) = z - 1 := wi64 (by omega) (by omega)
    have e3 : IntKind.i64.wrap (z + 1) = z + 1 := wi64 (by omega) (by omega)
    have e4 : 0 ≤ z - 1 ∧ z - 1 < (l.length : Int) := by omega
    have e8 : 1 ≤ z := by omega
    have e5 : (statesL l).length = l.length := statesL_len l
    have z1 : z.toNat = i + 1 := by omega
    have z2 : (z - 1).toNat = i := by omega
    have e6 : (statesL l)[i]? = some (.agg a.cells) := by rw [statesL_get, ha]; rfl
    have e6' : (statesL l)[i + 1]? = some (.agg x.cells) := by rw [statesL_get, hx]; rfl
    have hxo := hl1 x (List.mem_of_getElem? hx)
    have hao := hl1 a (List.mem_of_getElem? ha)
    have e7 : ∀ l : List StateS, LVal.pfs (statesL l) = true := statesL_pfs
    have lx : x.lies := ⟨hxo.1.2.2.2.2.2.2.1, hxo.1.2.2.2.2.2.2.2⟩
    have la : a.lies := ⟨hao.1.2.2.2.2.2.2.1, hao.1.2.2.2.2.2.2.2⟩
    obtain ⟨fx1, fx2, fx3⟩ := fits_state lx
    obtain ⟨fa1, fa2, fa3⟩ := fits_state la
    have ka := key_eq a hao.1 hao.2
    have kx := key_eq x hxo.1 hxo.2
    have hz' : (((i + 1 + 1 : Nat)) : Int) = z + 1 := by omega
    rw [hz'] at IH
    rw [codeW_loop]
    generalize hK : thenW (codeW D.T (.loop D.b16_0)) = K
    simp only [isFrom]
    by_cases hq : keyB a < keyB x
    · simp only [hq, decide_true, Bool.true_and]
      refine ⟨w, ?_⟩
      simp [D.b16_0, runFun, LMode.isPure, LVal.pfs, LVal.pf, Go.L.initVars, codeW_seq, codeW_region, codeW_regionD, codeW_cond, codeW_ret, codeW_skip, codeW_exit, codeW_block, codeW_fence, thenW, outW, fenceOut, kill, LVal.withins, LVal.within, runOps, runOpsD, Go.L.step, stepD, semD, sem, RS.peek, RS.put, RS.give, RS.take, RS.takes, RS.takeElems, RS.takeParts, RS.peeks, RS.peekO, RS.setVar, RS.noPk, RS.settle, RS.alloc, callOut, LVal.arg, LVal.isAgg, LVal.cells, LVal.unpk, LVal.copy, LVal.down, LVal.plain, LVal.settled, binL, binInt, binStr, unL, resL, resOne, res1, resAll, LVal.isTup, outL, LOp.quiet, LOp.acts, LOp.peeks, LOper.fix, calmOk, loadCalm, awayOk, dstFree, LVal.free, LVal.calm, LVal.calm1, LOp.opds, optL, RS.acquire, appendL, elemsL, bound, inRange, intL, loadL, storeL, setElems, setParts, fitsElem, lenL, isNilL, partL, chunks, o1, e0, e1, e2, e2', e3, e4, e8, e5, z1, z2, e6, e6', e7, fx1, fx2, fa1, fa2, ka, kx, bytesLess_eq', hq]
      subst hK
      exact IH
    · simp only [hq, decide_false, Bool.false_and]
      refine ⟨fun j => ([.vs b0 .sh 31 (statesL l), .undef, .int .i64 z, .bool true, .bool true] : List LVal).getD j .undef, ?_⟩
      simp [D.b16_0, runFun, LMode.isPure, LVal.pfs, LVal.pf, Go.L.initVars, codeW_seq, codeW_region, codeW_regionD, codeW_cond, codeW_ret, codeW_skip, codeW_exit, codeW_block, codeW_fence, thenW, outW, fenceOut, kill, LVal.withins, LVal.within, runOps, runOpsD, Go.L.step, stepD, semD, sem, RS.peek, RS.put, RS.give, RS.take, RS.takes, RS.takeElems, RS.takeParts, RS.peeks, RS.peekO, RS.setVar, RS.noPk, RS.settle, RS.alloc, callOut, LVal.arg, LVal.isAgg, LVal.cells, LVal.unpk, LVal.copy, LVal.down, LVal.plain, LVal.settled, binL, binInt, binStr, unL, resL, resOne, res1, resAll, LVal.isTup, outL, LOp.quiet, LOp.acts, LOp.peeks, LOper.fix, calmOk, loadCalm, awayOk, dstFree, LVal.free, LVal.calm, LVal.calm1, LOp.opds, optL, RS.acquire, appendL, elemsL, bound, inRange, intL, loadL, storeL, setElems, setParts, fitsElem, lenL, isNilL, partL, chunks, o1, e0, e1, e2, e2', e3, e4, e8, e5, z1, z2, e6, e6', e7, fx1, fx2, fa1, fa2, ka, kx, bytesLess_eq', hq]
      subst hK
      rfl

set_option maxHeartbeats 8000000 in
/-- Is. -/
theorem is_eq {b0 : Bool} {n0 : Nat} {l : List StateS} (h0 : l = [] ∨ n0 = 31) (hl1 : ∀ x ∈ l, x.ok ∧ x.few) (hl : l.length ≤ 100000) :
    callW D.T 16 [.vs b0 .sh n0 (statesL l)] [] = some (.bool (isS l), none) := by
  have e5 : (statesL l).length = l.length := statesL_len l
  have e7 : ∀ l : List StateS, LVal.pfs (statesL l) = true := statesL_pfs
  rw [callW_fn fn16]
  match l, h0, hl1, hl, e5 with
  | [], h0, hl1, hl, e5 =>
    simp [D.l16, D.c16, runFun, LMode.isPure, LVal.pfs, LVal.pf, Go.L.initVars, codeW_seq, codeW_region, codeW_regionD, codeW_cond, codeW_ret, codeW_skip, codeW_exit, codeW_block, codeW_fence, thenW, outW, fenceOut, kill, LVal.withins, LVal.within, runOps, runOpsD, Go.L.step, stepD, semD, sem, RS.peek, RS.put, RS.give, RS.take, RS.takes, RS.takeElems, RS.takeParts, RS.peeks, RS.peekO, RS.setVar, RS.noPk, RS.settle, RS.alloc, callOut, LVal.arg, LVal.isAgg, LVal.cells, LVal.unpk, LVal.copy, LVal.down, LVal.plain, LVal.settled, binL, binInt, binStr, unL, resL, resOne, res1, resAll, LVal.isTup, outL, LOp.quiet, LOp.acts, LOp.peeks, LOper.fix, calmOk, loadCalm, awayOk, dstFree, LVal.free, LVal.calm, LVal.calm1, LOp.opds, optL, RS.acquire, appendL, elemsL, bound, inRange, intL, loadL, storeL, setElems, setParts, fitsElem, lenL, isNilL, partL, chunks, e5, e7]
    rw [codeW_loop]
    simp [D.b16_0, runFun, LMode.isPure, LVal.pfs, LVal.pf, Go.L.initVars, codeW_seq, codeW_region, codeW_regionD, codeW_cond, codeW_ret, codeW_skip, codeW_exit, codeW_block, codeW_fence, thenW, outW, fenceOut, kill, LVal.withins, LVal.within, runOps, runOpsD, Go.L.step, stepD, semD, sem, RS.peek, RS.put, RS.give, RS.take, RS.takes, RS.takeElems, RS.takeParts, RS.peeks, RS.peekO, RS.setVar, RS.noPk, RS.settle, RS.alloc, callOut, LVal.arg, LVal.isAgg, LVal.cells, LVal.unpk, LVal.copy, LVal.down, LVal.plain, LVal.settled, binL, binInt, binStr, unL, resL, resOne, res1, resAll, LVal.isTup, outL, LOp.quiet, LOp.acts, LOp.peeks, LOper.fix, calmOk, loadCalm, awayOk, dstFree, LVal.free, LVal.calm, LVal.calm1, LOp.opds, optL, RS.acquire, appendL, elemsL, bound, inRange, intL, loadL, storeL, setElems, setParts, fitsElem, lenL, isNilL, partL, chunks, e5, isS, statesL]
  | a :: l, h0, hl1, hl, e5 =>
    obtain ⟨w, c1⟩ := loop16 b0 n0 (a :: l) h0 hl1 hl l.length 0 a (.bool false) rfl rfl (by simp; omega)
    have z0 : ((0 + 1 : Nat) : Int) = 1 := rfl
    rw [z0] at c1
    simp only [Nat.zero_add, List.drop_succ_cons, List.drop_zero] at c1
    simp [D.l16, D.c16, runFun, LMode.isPure, LVal.pfs, LVal.pf, Go.L.initVars, codeW_seq, codeW_region, codeW_regionD, codeW_cond, codeW_ret, codeW_skip, codeW_exit, codeW_block, codeW_fence, thenW, outW, fenceOut, kill, LVal.withins, LVal.within, runOps, runOpsD, Go.L.step, stepD, semD, sem, RS.peek, RS.put, RS.give, RS.take, RS.takes, RS.takeElems, RS.takeParts, RS.peeks, RS.peekO, RS.setVar, RS.noPk, RS.settle, RS.alloc, callOut, LVal.arg, LVal.isAgg, LVal.cells, LVal.unpk, LVal.copy, LVal.down, LVal.plain, LVal.settled, binL, binInt, binStr, unL, resL, resOne, res1, resAll, LVal.isTup, outL, LOp.quiet, LOp.acts, LOp.peeks, LOper.fix, calmOk, loadCalm, awayOk, dstFree, LVal.free, LVal.calm, LVal.calm1, LOp.opds, optL, RS.acquire, appendL, elemsL, bound, inRange, intL, loadL, storeL, setElems, setParts, fitsElem, lenL, isNilL, partL, chunks, e5, e7, isS]
    rw [c1]
    cases isFrom a l <;> simp [runFun, LMode.isPure, LVal.pfs, LVal.pf, Go.L.initVars, codeW_seq, codeW_region, codeW_regionD, codeW_cond, codeW_ret, codeW_skip, codeW_exit, codeW_block, codeW_fence, thenW, outW, fenceOut, kill, LVal.withins, LVal.within, runOps, runOpsD, Go.L.step, stepD, semD, sem, RS.peek, RS.put, RS.give, RS.take, RS.takes, RS.takeElems, RS.takeParts, RS.peeks, RS.peekO, RS.setVar, RS.noPk, RS.settle, RS.alloc, callOut, LVal.arg, LVal.isAgg, LVal.cells, LVal.unpk, LVal.copy, LVal.down, LVal.plain, LVal.settled, binL, binInt, binStr, unL, resL, resOne, res1, resAll, LVal.isTup, outL, LOp.quiet, LOp.acts, LOp.peeks, LOper.fix, calmOk, loadCalm, awayOk, dstFree, LVal.free, LVal.calm, LVal.calm1, LOp.opds, optL, RS.acquire, appendL, elemsL, bound, inRange, intL, loadL, storeL, setElems, setParts, fitsElem, lenL, isNilL, partL, chunks]
end Go.Proofs.Ytbljgbojkifoiaa
