/- Numbers in digits: the program's. -/
import Derived.Test.YtbljgbojkifoiaaSy0
set_option linter.unusedVariables false
set_option linter.unusedSimpArgs false
namespace Go.Proofs.Ytbljgbojkifoiaa
open Go Go.L

/-- A digit. -/
def dig (n : Nat) : UInt8 := if n < 10 then UInt8.ofNat (48 + n) else UInt8.ofNat (87 + n)
/-- A number's digits by ten. -/
def dec (n : Nat) : List UInt8 := if h : n < 10 then [dig n] else dec (n / 10) ++ [dig (n % 10)]
termination_by n
decreasing_by omega

theorem fn46 : D.T.fns 46 = some (.fn D.l46) := rfl
theorem letter_eq (n : Nat) (h : n < 16) : callW D.T 46 [.int .u64 n] [] = some (.int .u8 (dig n).toNat, none) := by
  rw [callW_fn fn46]
  by_cases h10 : n < 10
  · have e1 : IntKind.u64.wrap (48 + (n : Int)) = 48 + n := w64 (by omega) (by omega)
    have e2 : IntKind.u8.wrap (48 + (n : Int)) = 48 + n := w8 (by omega) (by omega)
    have e3 : ((dig n).toNat : Int) = 48 + n := by simp [dig, h10]; omega
    have e4 : (n : Int) < 10 := by omega
    simp [D.l46, D.c46, runFun, LMode.isPure, LVal.pfs, LVal.pf, Go.L.initVars, codeW_seq, codeW_region, codeW_regionD, codeW_cond, codeW_ret, codeW_skip, codeW_exit, codeW_block, codeW_fence, thenW, outW, fenceOut, kill, LVal.withins, LVal.within, runOps, runOpsD, Go.L.step, stepD, semD, sem, RS.peek, RS.put, RS.give, RS.take, RS.takes, RS.takeElems, RS.takeParts, RS.peeks, RS.peekO, RS.setVar, RS.noPk, RS.settle, RS.alloc, callOut, LVal.arg, LVal.isAgg, LVal.cells, LVal.unpk, LVal.copy, LVal.down, LVal.plain, LVal.settled, binL, binInt, binStr, unL, resL, resOne, res1, resAll, LVal.isTup, outL, LOp.quiet, LOp.acts, LOp.peeks, LOper.fix, calmOk, loadCalm, awayOk, dstFree, LVal.free, LVal.calm, LVal.calm1, LOp.opds, optL, RS.acquire, appendL, elemsL, bound, inRange, intL, loadL, storeL, setElems, setParts, fitsElem, lenL, isNilL, partL, chunks, e1, e2, e3, e4]
  · have e1 : IntKind.u64.wrap (97 + (n : Int)) = 97 + n := w64 (by omega) (by omega)
    have e1' : IntKind.u64.wrap (97 + (n : Int) - 10) = 97 + n - 10 := w64 (by omega) (by omega)
    have e2 : IntKind.u8.wrap (97 + (n : Int) - 10) = 97 + n - 10 := w8 (by omega) (by omega)
    have e3 : ((dig n).toNat : Int) = 97 + n - 10 := by simp [dig, h10]; omega
    have e4 : ¬ (n : Int) < 10 := by omega
    simp [D.l46, D.c46, runFun, LMode.isPure, LVal.pfs, LVal.pf, Go.L.initVars, codeW_seq, codeW_region, codeW_regionD, codeW_cond, codeW_ret, codeW_skip, codeW_exit, codeW_block, codeW_fence, thenW, outW, fenceOut, kill, LVal.withins, LVal.within, runOps, runOpsD, Go.L.step, stepD, semD, sem, RS.peek, RS.put, RS.give, RS.take, RS.takes, RS.takeElems, RS.takeParts, RS.peeks, RS.peekO, RS.setVar, RS.noPk, RS.settle, RS.alloc, callOut, LVal.arg, LVal.isAgg, LVal.cells, LVal.unpk, LVal.copy, LVal.down, LVal.plain, LVal.settled, binL, binInt, binStr, unL, resL, resOne, res1, resAll, LVal.isTup, outL, LOp.quiet, LOp.acts, LOp.peeks, LOper.fix, calmOk, loadCalm, awayOk, dstFree, LVal.free, LVal.calm, LVal.calm1, LOp.opds, optL, RS.acquire, appendL, elemsL, bound, inRange, intL, loadL, storeL, setElems, setParts, fitsElem, lenL, isNilL, partL, chunks, e1, e1', e2, e3, e4]

/-- Bytes that are put together, as the loop holds them. -/
def Acc (a : LVal) (bs : List UInt8) : Prop :=
  (bs = [] ∧ a = .vs true .sh 0 []) ∨ (bs ≠ [] ∧ (a = .vs false .full 1 (bytesL bs) ∨ a = .vs false (.own 5 true) 1 (bytesL bs)))

set_option maxHeartbeats 2000000 in
theorem loop45 : ∀ (k n : Nat) (z : Int) (a : LVal) (bs : List UInt8) (v2 v4 : LVal), v2.isOwn = false → v4.isOwn = false → z = n → n < 10 ^ k → n < 18446744073709551616 → Acc a bs → bs.length + k ≤ 100 →
    ∃ vs, codeW D.T (.loop D.b45_0) { vars := [.int .u64 z, .int .u64 10, v2, a, v4], st := [], rs := [] } = some (.ret, { vars := vs, st := [], rs := [] }) ∧ vs[2]? = some (.str (dec n ++ bs))
  | k, n, z, a, bs, v2, v4, o2, o4, hz, hn, h64, ha, hl => by
    subst hz
    rw [codeW_loop]
    have e1 : (n : Int).tmod 10 = (n : Int) % 10 := Int.tmod_eq_emod_of_nonneg (by omega)
    have e2 : (n : Int).tdiv 10 = (n : Int) / 10 := Int.tdiv_eq_ediv_of_nonneg (by omega)
    have e3 : callW D.T 46 [.int .u64 ((n : Int) % 10)] [] = some (.int .u8 (dig (n % 10)).toNat, none) := by simpa using letter_eq (n % 10) (by omega)
    have e4 : IntKind.u64.wrap ((n : Int) / 10) = (n : Int) / 10 := w64 (by omega) (by omega)
    have e40 : IntKind.u64.wrap 0 = 0 := by rfl
    have e5 : bytesOfL (.int .u8 ((dig (n % 10)).toNat : Int) :: bytesL bs) = some (dig (n % 10) :: bs) := bytesOf_bytesL (dig (n % 10) :: bs)
    have e6 : LVal.withins 0 (bytesL bs) = true := withins_bytesL 0 bs
    have e7 : (bytesL bs).length = bs.length := by simp [bytesL]
    generalize hK : thenW (codeW D.T (.loop D.b45_0)) = K
    have hacc : ∀ (a : LVal) (bs : List UInt8), Acc a bs → a = .vs true .sh 0 [] ∧ bs = [] ∨ ∃ o, a = .vs false o 1 (bytesL bs) ∧ (o = .full ∨ o = .own 5 true) ∧ bytesL bs ≠ [] := by
      rintro a bs (⟨rfl, rfl⟩ | ⟨hne, rfl | rfl⟩)
      · exact .inl ⟨rfl, rfl⟩
      · exact .inr ⟨_, rfl, .inl rfl, fun h => hne (by simpa [bytesL] using h)⟩
      · exact .inr ⟨_, rfl, .inr rfl, fun h => hne (by simpa [bytesL] using h)⟩
    by_cases h10 : n < 10
    · have q : (n : Int) / 10 = 0 := by omega
      have hd : dec n = [dig (n % 10)] := by rw [dec, dif_pos h10, Nat.mod_eq_of_lt h10]
      rcases hacc a bs ha with ⟨rfl, rfl⟩ | ⟨o, rfl, rfl | rfl, hne'⟩
      · have e5' : bytesOfL [.int .u8 ((dig (n % 10)).toNat : Int)] = some [dig (n % 10)] := e5
        simp [D.b45_0, runFun, LMode.isPure, LVal.pfs, LVal.pf, Go.L.initVars, codeW_seq, codeW_region, codeW_regionD, codeW_cond, codeW_ret, codeW_skip, codeW_exit, codeW_block, codeW_fence, thenW, outW, fenceOut, kill, LVal.withins, LVal.within, runOps, runOpsD, Go.L.step, stepD, semD, sem, RS.peek, RS.put, RS.give, RS.take, RS.takes, RS.takeElems, RS.takeParts, RS.peeks, RS.peekO, RS.setVar, RS.noPk, RS.settle, RS.alloc, callOut, LVal.arg, LVal.isAgg, LVal.cells, LVal.unpk, LVal.copy, LVal.down, LVal.plain, LVal.settled, binL, binInt, binStr, unL, resL, resOne, res1, resAll, LVal.isTup, outL, LOp.quiet, LOp.acts, LOp.peeks, LOper.fix, calmOk, loadCalm, awayOk, dstFree, LVal.free, LVal.calm, LVal.calm1, LOp.opds, optL, RS.acquire, appendL, elemsL, bound, inRange, intL, loadL, storeL, setElems, setParts, fitsElem, lenL, isNilL, partL, chunks, o2, o4, e1, e2, e3, e4, e40, e5', e6, q]
        subst hK
        simp [hd]
      · simp [D.b45_0, runFun, LMode.isPure, LVal.pfs, LVal.pf, Go.L.initVars, codeW_seq, codeW_region, codeW_regionD, codeW_cond, codeW_ret, codeW_skip, codeW_exit, codeW_block, codeW_fence, thenW, outW, fenceOut, kill, LVal.withins, LVal.within, runOps, runOpsD, Go.L.step, stepD, semD, sem, RS.peek, RS.put, RS.give, RS.take, RS.takes, RS.takeElems, RS.takeParts, RS.peeks, RS.peekO, RS.setVar, RS.noPk, RS.settle, RS.alloc, callOut, LVal.arg, LVal.isAgg, LVal.cells, LVal.unpk, LVal.copy, LVal.down, LVal.plain, LVal.settled, binL, binInt, binStr, unL, resL, resOne, res1, resAll, LVal.isTup, outL, LOp.quiet, LOp.acts, LOp.peeks, LOper.fix, calmOk, loadCalm, awayOk, dstFree, LVal.free, LVal.calm, LVal.calm1, LOp.opds, optL, RS.acquire, appendL, elemsL, bound, inRange, intL, loadL, storeL, setElems, setParts, fitsElem, lenL, isNilL, partL, chunks, o2, o4, e1, e2, e3, e4, e40, e5, e6, e7, q, hne', maxBytes, show bs.length + 1 ≤ 140737488355328 by omega, show 1 + bs.length ≤ 140737488355328 by omega]
        subst hK
        simp [hd]
      · simp [D.b45_0, runFun, LMode.isPure, LVal.pfs, LVal.pf, Go.L.initVars, codeW_seq, codeW_region, codeW_regionD, codeW_cond, codeW_ret, codeW_skip, codeW_exit, codeW_block, codeW_fence, thenW, outW, fenceOut, kill, LVal.withins, LVal.within, runOps, runOpsD, Go.L.step, stepD, semD, sem, RS.peek, RS.put, RS.give, RS.take, RS.takes, RS.takeElems, RS.takeParts, RS.peeks, RS.peekO, RS.setVar, RS.noPk, RS.settle, RS.alloc, callOut, LVal.arg, LVal.isAgg, LVal.cells, LVal.unpk, LVal.copy, LVal.down, LVal.plain, LVal.settled, binL, binInt, binStr, unL, resL, resOne, res1, resAll, LVal.isTup, outL, LOp.quiet, LOp.acts, LOp.peeks, LOper.fix, calmOk, loadCalm, awayOk, dstFree, LVal.free, LVal.calm, LVal.calm1, LOp.opds, optL, RS.acquire, appendL, elemsL, bound, inRange, intL, loadL, storeL, setElems, setParts, fitsElem, lenL, isNilL, partL, chunks, o2, o4, e1, e2, e3, e4, e40, e5, e6, e7, q, hne', maxBytes, show bs.length + 1 ≤ 140737488355328 by omega, show 1 + bs.length ≤ 140737488355328 by omega]
        subst hK
        simp [hd]
    · have q : ¬ (n : Int) / 10 = 0 := by omega
      have hd : dec n ++ bs = dec (n / 10) ++ (dig (n % 10) :: bs) := by rw [dec, dif_neg h10]; simp
      obtain ⟨k, rfl⟩ : ∃ j, k = j + 1 := ⟨k - 1, by cases k with | zero => simp at hn; omega | succ => omega⟩
      have hn' : n / 10 < 10 ^ k := by rw [Nat.pow_succ] at hn; omega
      rcases hacc a bs ha with ⟨rfl, rfl⟩ | ⟨o, rfl, rfl | rfl, hne'⟩
      · simp [D.b45_0, runFun, LMode.isPure, LVal.pfs, LVal.pf, Go.L.initVars, codeW_seq, codeW_region, codeW_regionD, codeW_cond, codeW_ret, codeW_skip, codeW_exit, codeW_block, codeW_fence, thenW, outW, fenceOut, kill, LVal.withins, LVal.within, runOps, runOpsD, Go.L.step, stepD, semD, sem, RS.peek, RS.put, RS.give, RS.take, RS.takes, RS.takeElems, RS.takeParts, RS.peeks, RS.peekO, RS.setVar, RS.noPk, RS.settle, RS.alloc, callOut, LVal.arg, LVal.isAgg, LVal.cells, LVal.unpk, LVal.copy, LVal.down, LVal.plain, LVal.settled, binL, binInt, binStr, unL, resL, resOne, res1, resAll, LVal.isTup, outL, LOp.quiet, LOp.acts, LOp.peeks, LOper.fix, calmOk, loadCalm, awayOk, dstFree, LVal.free, LVal.calm, LVal.calm1, LOp.opds, optL, RS.acquire, appendL, elemsL, bound, inRange, intL, loadL, storeL, setElems, setParts, fitsElem, lenL, isNilL, partL, chunks, o2, o4, e1, e2, e3, e4, e6, q]
        subst hK
        simp only [thenW_normal]
        rw [List.append_nil] at hd
        rw [hd]
        exact loop45 k (n / 10) _ _ _ _ _ rfl rfl (by omega) hn' (by omega) (.inr ⟨by simp, .inl rfl⟩) (by simp at hl ⊢; omega)
      · simp [D.b45_0, runFun, LMode.isPure, LVal.pfs, LVal.pf, Go.L.initVars, codeW_seq, codeW_region, codeW_regionD, codeW_cond, codeW_ret, codeW_skip, codeW_exit, codeW_block, codeW_fence, thenW, outW, fenceOut, kill, LVal.withins, LVal.within, runOps, runOpsD, Go.L.step, stepD, semD, sem, RS.peek, RS.put, RS.give, RS.take, RS.takes, RS.takeElems, RS.takeParts, RS.peeks, RS.peekO, RS.setVar, RS.noPk, RS.settle, RS.alloc, callOut, LVal.arg, LVal.isAgg, LVal.cells, LVal.unpk, LVal.copy, LVal.down, LVal.plain, LVal.settled, binL, binInt, binStr, unL, resL, resOne, res1, resAll, LVal.isTup, outL, LOp.quiet, LOp.acts, LOp.peeks, LOper.fix, calmOk, loadCalm, awayOk, dstFree, LVal.free, LVal.calm, LVal.calm1, LOp.opds, optL, RS.acquire, appendL, elemsL, bound, inRange, intL, loadL, storeL, setElems, setParts, fitsElem, lenL, isNilL, partL, chunks, o2, o4, e1, e2, e3, e4, e6, e7, q, hne', maxBytes, show bs.length + 1 ≤ 140737488355328 by omega, show 1 + bs.length ≤ 140737488355328 by omega]
        subst hK
        simp only [thenW_normal, hd]
        exact loop45 k (n / 10) _ _ _ _ _ rfl rfl (by omega) hn' (by omega) (.inr ⟨by simp, .inr rfl⟩) (by simp at hl ⊢; omega)
      · simp [D.b45_0, runFun, LMode.isPure, LVal.pfs, LVal.pf, Go.L.initVars, codeW_seq, codeW_region, codeW_regionD, codeW_cond, codeW_ret, codeW_skip, codeW_exit, codeW_block, codeW_fence, thenW, outW, fenceOut, kill, LVal.withins, LVal.within, runOps, runOpsD, Go.L.step, stepD, semD, sem, RS.peek, RS.put, RS.give, RS.take, RS.takes, RS.takeElems, RS.takeParts, RS.peeks, RS.peekO, RS.setVar, RS.noPk, RS.settle, RS.alloc, callOut, LVal.arg, LVal.isAgg, LVal.cells, LVal.unpk, LVal.copy, LVal.down, LVal.plain, LVal.settled, binL, binInt, binStr, unL, resL, resOne, res1, resAll, LVal.isTup, outL, LOp.quiet, LOp.acts, LOp.peeks, LOper.fix, calmOk, loadCalm, awayOk, dstFree, LVal.free, LVal.calm, LVal.calm1, LOp.opds, optL, RS.acquire, appendL, elemsL, bound, inRange, intL, loadL, storeL, setElems, setParts, fitsElem, lenL, isNilL, partL, chunks, o2, o4, e1, e2, e3, e4, e6, e7, q, hne', maxBytes, show bs.length + 1 ≤ 140737488355328 by omega, show 1 + bs.length ≤ 140737488355328 by omega]
        subst hK
        simp only [thenW_normal, hd]
        exact loop45 k (n / 10) _ _ _ _ _ rfl rfl (by omega) hn' (by omega) (.inr ⟨by simp, .inr rfl⟩) (by simp at hl ⊢; omega)

theorem fn45 : D.T.fns 45 = some (.fn D.l45) := rfl
theorem fn36 : D.T.fns 36 = some (.fn D.l36) := rfl
theorem put_eq (n : Nat) (h : n < 18446744073709551616) : callW D.T 45 [.int .u64 n, .int .u64 10] [] = some (.str (dec n), none) := by
  obtain ⟨vs, h1, h2⟩ := loop45 20 n n (.vs true .sh 0 []) [] (.str []) .undef rfl rfl rfl (by omega) h (.inl ⟨rfl, rfl⟩) (by simp)
  rw [callW_fn fn45]
  simp [D.l45, D.c45, runFun, LMode.isPure, LVal.pfs, LVal.pf, Go.L.initVars, codeW_seq, codeW_region, codeW_regionD, codeW_cond, codeW_ret, codeW_skip, codeW_exit, codeW_block, codeW_fence, thenW, outW, fenceOut, kill, LVal.withins, LVal.within, runOps, runOpsD, Go.L.step, stepD, semD, sem, RS.peek, RS.put, RS.give, RS.take, RS.takes, RS.takeElems, RS.takeParts, RS.peeks, RS.peekO, RS.setVar, RS.noPk, RS.settle, RS.alloc, callOut, LVal.arg, LVal.isAgg, LVal.cells, LVal.unpk, LVal.copy, LVal.down, LVal.plain, LVal.settled, binL, binInt, binStr, unL, resL, resOne, res1, resAll, LVal.isTup, outL, LOp.quiet, LOp.acts, LOp.peeks, LOper.fix, calmOk, loadCalm, awayOk, dstFree, LVal.free, LVal.calm, LVal.calm1, LOp.opds, optL, RS.acquire, appendL, elemsL, bound, inRange, intL, loadL, storeL, setElems, setParts, fitsElem, lenL, isNilL, partL, chunks, h1, h2]
theorem dec_eq (n : Nat) (h : n < 18446744073709551616) : callW D.T 36 [.int .u64 n] [] = some (.str (dec n), none) := by
  rw [callW_fn fn36]
  simp [D.l36, D.c36, runFun, LMode.isPure, LVal.pfs, LVal.pf, Go.L.initVars, codeW_seq, codeW_region, codeW_regionD, codeW_cond, codeW_ret, codeW_skip, codeW_exit, codeW_block, codeW_fence, thenW, outW, fenceOut, kill, LVal.withins, LVal.within, runOps, runOpsD, Go.L.step, stepD, semD, sem, RS.peek, RS.put, RS.give, RS.take, RS.takes, RS.takeElems, RS.takeParts, RS.peeks, RS.peekO, RS.setVar, RS.noPk, RS.settle, RS.alloc, callOut, LVal.arg, LVal.isAgg, LVal.cells, LVal.unpk, LVal.copy, LVal.down, LVal.plain, LVal.settled, binL, binInt, binStr, unL, resL, resOne, res1, resAll, LVal.isTup, outL, LOp.quiet, LOp.acts, LOp.peeks, LOper.fix, calmOk, loadCalm, awayOk, dstFree, LVal.free, LVal.calm, LVal.calm1, LOp.opds, optL, RS.acquire, appendL, elemsL, bound, inRange, intL, loadL, storeL, setElems, setParts, fitsElem, lenL, isNilL, partL, chunks, put_eq n h]
end Go.Proofs.Ytbljgbojkifoiaa
