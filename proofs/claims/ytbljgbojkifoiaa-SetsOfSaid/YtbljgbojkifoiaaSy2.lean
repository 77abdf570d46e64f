/- Bytes in digits: the program's. -/
import Derived.Test.YtbljgbojkifoiaaSy1
set_option linter.unusedVariables false
set_option linter.unusedSimpArgs false
namespace Go.Proofs.Ytbljgbojkifoiaa
open Go Go.L

/-- Bytes in digits. -/
def hexB : List UInt8 → List UInt8
  | [] => []
  | b :: r => dig (b.toNat / 16) :: dig (b.toNat % 16) :: hexB r
theorem hexB_append : ∀ (a b : List UInt8), hexB (a ++ b) = hexB a ++ hexB b
  | [], b => rfl
  | x :: a, b => by simp [hexB, hexB_append a b]
theorem hexB_len : ∀ (a : List UInt8), (hexB a).length = 2 * a.length
  | [] => rfl
  | x :: a => by simp [hexB, hexB_len a]; omega

def Acc3 (a : LVal) (bs : List UInt8) : Prop := (bs = [] ∧ a = .vs false .full 1 []) ∨ a = .vs false (.own 5 true) 1 (bytesL bs)

set_option maxHeartbeats 2000000 in
theorem loop37 (b : Bool) (l : List UInt8) (hl : l.length ≤ 10000) : ∀ (j i : Nat) (z : Int) (a : LVal) (bs : List UInt8) (v0 v1 v3 v7 : LVal), v0.isOwn = false → v1.isOwn = false → v3.isOwn = false → v7.isOwn = false → z = i → i + j = l.length → Acc3 a bs → bs.length ≤ 2 * i →
    ∃ a' w0 w1 w3, codeW D.T (.loop D.b37_0) { vars := [v0, v1, a, v3, .vs b .sh 1 (bytesL l), .int .i64 l.length, .int .i64 z, v7], st := [], rs := [] } =
      some (.exit 0, { vars := [w0, w1, a', w3, .vs b .sh 1 (bytesL l), .int .i64 l.length, .int .i64 l.length, .bool false], st := [], rs := [] }) ∧ Acc3 a' (bs ++ hexB (l.drop i))
  | 0, i, z, a, bs, v0, v1, v3, v7, o0, o1, o3, o7, hz, hij, ha, hb => by
    subst hz
    have hi : i = l.length := by omega
    subst hi
    rw [codeW_loop]
    refine ⟨a, v0, v1, v3, ?_, by simpa [hexB] using ha⟩
    rcases ha with ⟨rfl, rfl⟩ | rfl <;> simp [D.b37_0, runFun, LMode.isPure, LVal.pfs, LVal.pf, Go.L.initVars, codeW_seq, codeW_region, codeW_regionD, codeW_cond, codeW_ret, codeW_skip, codeW_exit, codeW_block, codeW_fence, thenW, outW, fenceOut, kill, LVal.withins, LVal.within, runOps, runOpsD, Go.L.step, stepD, semD, sem, RS.peek, RS.put, RS.give, RS.take, RS.takes, RS.takeElems, RS.takeParts, RS.peeks, RS.peekO, RS.setVar, RS.noPk, RS.settle, RS.alloc, callOut, LVal.arg, LVal.isAgg, LVal.cells, LVal.unpk, LVal.copy, LVal.down, LVal.plain, LVal.settled, binL, binInt, binStr, unL, resL, resOne, res1, resAll, LVal.isTup, outL, LOp.quiet, LOp.acts, LOp.peeks, LOper.fix, calmOk, loadCalm, awayOk, dstFree, LVal.free, LVal.calm, LVal.calm1, LOp.opds, optL, RS.acquire, appendL, elemsL, bound, inRange, intL, loadL, storeL, setElems, setParts, fitsElem, lenL, isNilL, partL, chunks, o0, o1, o3, o7]
  | j + 1, i, z, a, bs, v0, v1, v3, v7, o0, o1, o3, o7, hz, hij, ha, hb => by
    subst hz
    have hi : i < l.length := by omega
    obtain ⟨x, hx⟩ : ∃ x, l[i]? = some x := ⟨_, List.getElem?_eq_getElem hi⟩
    have hd : l.drop i = x :: l.drop (i + 1) := by
      rw [List.drop_eq_getElem_cons hi]
      rw [List.getElem?_eq_getElem hi] at hx; injection hx with hx; rw [hx]
    have hgx : (bytesL l)[i]? = some (byteL x) := by rw [get_bytesL, hx]; rfl
    have hx256 : x.toNat < 256 := by have := x.toNat_lt; omega
    have hlen : (bytesL l).length = l.length := len_bytesL l
    have hlt : (i : Int) < (l.length : Int) := by omega
    have hcond : 0 ≤ (i : Int) ∧ (i : Int) < (l.length : Int) := by omega
    have e1 : (x.toNat : Int).tdiv 16 = (x.toNat : Int) / 16 := tdivN _ _
    have e2 : (x.toNat : Int).tmod 16 = (x.toNat : Int) % 16 := tmodN _ _
    have e3 : IntKind.u8.wrap ((x.toNat : Int) / 16) = (x.toNat : Int) / 16 := w8 (by omega) (by omega)
    have e4 : IntKind.u64.wrap ((x.toNat : Int) / 16) = (x.toNat : Int) / 16 := w64 (by omega) (by omega)
    have e5 : IntKind.u64.wrap ((x.toNat : Int) % 16) = (x.toNat : Int) % 16 := w64 (by omega) (by omega)
    have e6 : callW D.T 46 [.int .u64 ((x.toNat : Int) / 16)] [] = some (.int .u8 (dig (x.toNat / 16)).toNat, none) := by simpa using letter_eq (x.toNat / 16) (by omega)
    have e7 : callW D.T 46 [.int .u64 ((x.toNat : Int) % 16)] [] = some (.int .u8 (dig (x.toNat % 16)).toNat, none) := by simpa using letter_eq (x.toNat % 16) (by omega)
    have e8 : IntKind.i64.wrap ((i : Int) + 1) = (i : Int) + 1 := wi64 (by omega) (by omega)
    have e9 : LVal.withins 0 (bytesL l) = true := withins_bytesL 0 l
    have e10 : LVal.withins 0 (bytesL bs) = true := withins_bytesL 0 bs
    have e11 : (bytesL bs).length = bs.length := len_bytesL bs
    rw [codeW_loop]
    generalize hK : thenW (codeW D.T (.loop D.b37_0)) = K
    rcases ha with ⟨rfl, rfl⟩ | rfl
    · obtain ⟨a', w0, w1, w3, h1, h2⟩ := loop37 b l hl j (i + 1) ((i : Int) + 1) _ [dig (x.toNat / 16), dig (x.toNat % 16)] .undef .undef .undef .undef rfl rfl rfl rfl (by omega) (by omega) (.inr rfl) (by simp; omega)
      refine ⟨a', w0, w1, w3, ?_, by rw [hd]; simpa [hexB] using h2⟩
      simp [D.b37_0, runFun, LMode.isPure, LVal.pfs, LVal.pf, Go.L.initVars, codeW_seq, codeW_region, codeW_regionD, codeW_cond, codeW_ret, codeW_skip, codeW_exit, codeW_block, codeW_fence, thenW, outW, fenceOut, kill, LVal.withins, LVal.within, runOps, runOpsD, Go.L.step, stepD, semD, sem, RS.peek, RS.put, RS.give, RS.take, RS.takes, RS.takeElems, RS.takeParts, RS.peeks, RS.peekO, RS.setVar, RS.noPk, RS.settle, RS.alloc, callOut, LVal.arg, LVal.isAgg, LVal.cells, LVal.unpk, LVal.copy, LVal.down, LVal.plain, LVal.settled, binL, binInt, binStr, unL, resL, resOne, res1, resAll, LVal.isTup, outL, LOp.quiet, LOp.acts, LOp.peeks, LOper.fix, calmOk, loadCalm, awayOk, dstFree, LVal.free, LVal.calm, LVal.calm1, LOp.opds, optL, RS.acquire, appendL, elemsL, bound, inRange, intL, loadL, storeL, setElems, setParts, fitsElem, lenL, isNilL, partL, chunks, o0, o1, o3, o7, hlt, hcond, hlen, hgx, byteL, e1, e2, e3, e4, e5, e6, e7, e8, e9, maxBytes]
      subst hK
      exact h1
    · obtain ⟨a', w0, w1, w3, h1, h2⟩ := loop37 b l hl j (i + 1) ((i : Int) + 1) (.vs false (.own 5 true) 1 (bytesL (bs ++ [dig (x.toNat / 16), dig (x.toNat % 16)]))) (bs ++ [dig (x.toNat / 16), dig (x.toNat % 16)]) .undef .undef .undef .undef rfl rfl rfl rfl (by omega) (by omega) (.inr rfl) (by simp; omega)
      refine ⟨a', w0, w1, w3, ?_, by rw [hd]; simpa [hexB] using h2⟩
      simp [D.b37_0, runFun, LMode.isPure, LVal.pfs, LVal.pf, Go.L.initVars, codeW_seq, codeW_region, codeW_regionD, codeW_cond, codeW_ret, codeW_skip, codeW_exit, codeW_block, codeW_fence, thenW, outW, fenceOut, kill, LVal.withins, LVal.within, runOps, runOpsD, Go.L.step, stepD, semD, sem, RS.peek, RS.put, RS.give, RS.take, RS.takes, RS.takeElems, RS.takeParts, RS.peeks, RS.peekO, RS.setVar, RS.noPk, RS.settle, RS.alloc, callOut, LVal.arg, LVal.isAgg, LVal.cells, LVal.unpk, LVal.copy, LVal.down, LVal.plain, LVal.settled, binL, binInt, binStr, unL, resL, resOne, res1, resAll, LVal.isTup, outL, LOp.quiet, LOp.acts, LOp.peeks, LOper.fix, calmOk, loadCalm, awayOk, dstFree, LVal.free, LVal.calm, LVal.calm1, LOp.opds, optL, RS.acquire, appendL, elemsL, bound, inRange, intL, loadL, storeL, setElems, setParts, fitsElem, lenL, isNilL, partL, chunks, o0, o1, o3, o7, hlt, hcond, hlen, hgx, byteL, e1, e2, e3, e4, e5, e6, e7, e8, e9, e10, e11, maxBytes, show bs.length + 2 ≤ 140737488355328 by omega]
      subst hK
      simpa [bytesL, byteL] using h1

theorem fn37 : D.T.fns 37 = some (.fn D.l37) := rfl
set_option maxHeartbeats 2000000 in
theorem bytes_eq (b : Bool) (l : List UInt8) (hl : l.length ≤ 10000) : callW D.T 37 [.vs b .sh 1 (bytesL l)] [] = some (.str (hexB l), none) := by
  rw [callW_fn fn37]
  have ez : IntKind.i64.wrap 0 = 0 := by rfl
  by_cases h0 : l = []
  · subst h0
    simp [D.l37, D.c37, runFun, LMode.isPure, LVal.pfs, LVal.pf, Go.L.initVars, codeW_seq, codeW_region, codeW_regionD, codeW_cond, codeW_ret, codeW_skip, codeW_exit, codeW_block, codeW_fence, thenW, outW, fenceOut, kill, LVal.withins, LVal.within, runOps, runOpsD, Go.L.step, stepD, semD, sem, RS.peek, RS.put, RS.give, RS.take, RS.takes, RS.takeElems, RS.takeParts, RS.peeks, RS.peekO, RS.setVar, RS.noPk, RS.settle, RS.alloc, callOut, LVal.arg, LVal.isAgg, LVal.cells, LVal.unpk, LVal.copy, LVal.down, LVal.plain, LVal.settled, binL, binInt, binStr, unL, resL, resOne, res1, resAll, LVal.isTup, outL, LOp.quiet, LOp.acts, LOp.peeks, LOper.fix, calmOk, loadCalm, awayOk, dstFree, LVal.free, LVal.calm, LVal.calm1, LOp.opds, optL, RS.acquire, appendL, elemsL, bound, inRange, intL, loadL, storeL, setElems, setParts, fitsElem, lenL, isNilL, partL, chunks, codeW_loop, D.b37_0, hexB, bytesL, bytesOfL, maxBytes, ez]
  · have e0 : IntKind.i64.wrap (2 * (l.length : Int)) = 2 * (l.length : Int) := wi64 (by omega) (by omega)
    have hlen : (bytesL l).length = l.length := len_bytesL l
    have hpos : 0 < l.length := List.length_pos_iff.2 h0
    have hw : LVal.withins 0 (bytesL (hexB l)) = true := withins_bytesL 0 _
    have hb := bytesOf_bytesL (hexB l)
    have hne : ¬ (0 : Int) = 2 * (l.length : Int) := by omega
    have hle : 2 * (l.length : Int) ≤ 140737488355328 := by omega
    have hge : 0 ≤ 2 * (l.length : Int) := by omega
    obtain ⟨a', w0, w1, w3, h1, h2⟩ := loop37 b l hl l.length 0 0 (.vs false (.own 5 true) 1 []) [] (.vs b .sh 1 (bytesL l)) (.str []) .undef .undef rfl rfl rfl rfl rfl (by omega) (.inr rfl) (by simp)
    simp only [List.nil_append, List.drop_zero] at h2
    rcases h2 with ⟨hh, rfl⟩ | rfl
    · exfalso
      have := hexB_len l
      rw [hh] at this
      simp at this
      omega
    · simp [D.l37, D.c37, runFun, LMode.isPure, LVal.pfs, LVal.pf, Go.L.initVars, codeW_seq, codeW_region, codeW_regionD, codeW_cond, codeW_ret, codeW_skip, codeW_exit, codeW_block, codeW_fence, thenW, outW, fenceOut, kill, LVal.withins, LVal.within, runOps, runOpsD, Go.L.step, stepD, semD, sem, RS.peek, RS.put, RS.give, RS.take, RS.takes, RS.takeElems, RS.takeParts, RS.peeks, RS.peekO, RS.setVar, RS.noPk, RS.settle, RS.alloc, callOut, LVal.arg, LVal.isAgg, LVal.cells, LVal.unpk, LVal.copy, LVal.down, LVal.plain, LVal.settled, binL, binInt, binStr, unL, resL, resOne, res1, resAll, LVal.isTup, outL, LOp.quiet, LOp.acts, LOp.peeks, LOper.fix, calmOk, loadCalm, awayOk, dstFree, LVal.free, LVal.calm, LVal.calm1, LOp.opds, optL, RS.acquire, appendL, elemsL, bound, inRange, intL, loadL, storeL, setElems, setParts, fitsElem, lenL, isNilL, partL, chunks, e0, hlen, h1, hw, hb, hne, hle, hge, maxBytes]
end Go.Proofs.Ytbljgbojkifoiaa
