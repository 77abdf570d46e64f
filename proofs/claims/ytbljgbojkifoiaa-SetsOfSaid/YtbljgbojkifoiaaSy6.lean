/- Numbers and bytes in digits: the document's. -/
import Derived.Test.YtbljgbojkifoiaaSy5
set_option linter.unusedVariables false
set_option linter.unusedSimpArgs false
namespace Go.Proofs.Ytbljgbojkifoiaa
open Go Go.L

theorem signs_sl : ∀ m : Nat, m < 16 → List.drop m (List.take (m + 1) [48, 49, 50, 51, 52, 53, 54, 55, 56, 57, 97, 98, 99, 100, 101, 102]) = [dig m] := by decide

set_option maxHeartbeats 2000000 in
theorem loop38 : ∀ (k n : Nat) (z : Int) (s : List UInt8) (v2 v4 : LVal), v2.isOwn = false → v4.isOwn = false → z = n → n < 10 ^ (k + 1) → n < 18446744073709551616 → s.length + k ≤ 100 →
    ∃ (z' : Int) (w : Nat → LVal), codeW D.T (.loop D.b38_0) { vars := [.int .u64 z, .int .u64 10, v2, .str s, v4], st := [], rs := [] } = some (.exit 0, { vars := [.int .u64 z', .int .u64 10, w 2, .str ((if n < 10 then [] else dec (n / 10)) ++ s), w 4], st := [], rs := [] }) ∧ (w 2).isOwn = false
  | k, n, z, s, v2, v4, o2, o4, hz, hn, h64, hl => by
    subst hz
    have e1 : (n : Int).tmod 10 = (n : Int) % 10 := tmodN _ _
    have e2 : (n : Int).tdiv 10 = (n : Int) / 10 := tdivN _ _
    have e4 : IntKind.u64.wrap ((n : Int) / 10) = (n : Int) / 10 := w64 (by omega) (by omega)
    have e5 : ((n : Int) / 10).tmod 10 = (n : Int) / 10 % 10 := by have := tmodN (n / 10) 10; simpa using this
    have e6 : IntKind.u64.wrap ((n : Int) / 10 % 10 + 1) = (n : Int) / 10 % 10 + 1 := w64 (by omega) (by omega)
    rw [codeW_loop]
    generalize hK : thenW (codeW D.T (.loop D.b38_0)) = K
    by_cases h10 : n < 10
    · have q : ¬ (n : Int) ≥ 10 := by omega
      have q' : ¬ (10 : Int) ≤ n := by omega
      refine ⟨n, fun j => if j = 2 then v2 else .bool false, ?_, by simpa using o2⟩
      simp [D.b38_0, runFun, LMode.isPure, LVal.pfs, LVal.pf, Go.L.initVars, codeW_seq, codeW_region, codeW_regionD, codeW_cond, codeW_ret, codeW_skip, codeW_exit, codeW_block, codeW_fence, thenW, outW, fenceOut, kill, LVal.withins, LVal.within, runOps, runOpsD, Go.L.step, stepD, semD, sem, RS.peek, RS.put, RS.give, RS.take, RS.takes, RS.takeElems, RS.takeParts, RS.peeks, RS.peekO, RS.setVar, RS.noPk, RS.settle, RS.alloc, callOut, LVal.arg, LVal.isAgg, LVal.cells, LVal.unpk, LVal.copy, LVal.down, LVal.plain, LVal.settled, binL, binInt, binStr, unL, resL, resOne, res1, resAll, LVal.isTup, outL, LOp.quiet, LOp.acts, LOp.peeks, LOper.fix, calmOk, loadCalm, awayOk, dstFree, LVal.free, LVal.calm, LVal.calm1, LOp.opds, optL, RS.acquire, appendL, elemsL, bound, inRange, intL, loadL, storeL, setElems, setParts, fitsElem, lenL, isNilL, partL, chunks, o2, o4, q, q', h10]
      subst hK
      rfl
    · have q : (n : Int) ≥ 10 := by omega
      have q' : (10 : Int) ≤ n := by omega
      obtain ⟨k, rfl⟩ : ∃ j, k = j + 1 := ⟨k - 1, by cases k with | zero => simp at hn; omega | succ => omega⟩
      obtain ⟨z', w, c1, c2⟩ := loop38 k (n / 10) ((n : Int) / 10) (dig (n / 10 % 10) :: s) .undef .undef rfl rfl (by omega) (by rw [Nat.pow_succ] at hn; omega) (by omega) (by simp; omega)
      refine ⟨z', w, ?_, c2⟩
      have hsl : List.drop (((n : Int) / 10 % 10).toNat) (List.take (((n : Int) / 10 % 10 + 1).toNat) [48, 49, 50, 51, 52, 53, 54, 55, 56, 57, 97, 98, 99, 100, 101, 102]) = [dig (n / 10 % 10)] := by
        have a1 : ((n : Int) / 10 % 10).toNat = n / 10 % 10 := by omega
        have a2 : ((n : Int) / 10 % 10 + 1).toNat = n / 10 % 10 + 1 := by omega
        rw [a1, a2]; exact signs_sl _ (by omega)
      have b1 : 0 ≤ (n : Int) / 10 % 10 + 1 ∧ (n : Int) / 10 % 10 + 1 ≤ 16 := by omega
      have b2 : 0 ≤ (n : Int) / 10 % 10 ∧ (n : Int) / 10 % 10 ≤ max ((n : Int) / 10 % 10 + 1) 0 := by omega
      have hdd : dec (n / 10) ++ s = (if n / 10 < 10 then [] else dec (n / 10 / 10)) ++ dig (n / 10 % 10) :: s := by
        rw [dec]
        split
        · rename_i h; rw [Nat.mod_eq_of_lt h]; rfl
        · simp
      simp only [if_neg h10, hdd]
      simp [D.b38_0, runFun, LMode.isPure, LVal.pfs, LVal.pf, Go.L.initVars, codeW_seq, codeW_region, codeW_regionD, codeW_cond, codeW_ret, codeW_skip, codeW_exit, codeW_block, codeW_fence, thenW, outW, fenceOut, kill, LVal.withins, LVal.within, runOps, runOpsD, Go.L.step, stepD, semD, sem, RS.peek, RS.put, RS.give, RS.take, RS.takes, RS.takeElems, RS.takeParts, RS.peeks, RS.peekO, RS.setVar, RS.noPk, RS.settle, RS.alloc, callOut, LVal.arg, LVal.isAgg, LVal.cells, LVal.unpk, LVal.copy, LVal.down, LVal.plain, LVal.settled, binL, binInt, binStr, unL, resL, resOne, res1, resAll, LVal.isTup, outL, LOp.quiet, LOp.acts, LOp.peeks, LOper.fix, calmOk, loadCalm, awayOk, dstFree, LVal.free, LVal.calm, LVal.calm1, LOp.opds, optL, RS.acquire, appendL, elemsL, bound, inRange, intL, loadL, storeL, setElems, setParts, fitsElem, lenL, isNilL, partL, chunks, o2, o4, q, q', e1, e2, e4, e5, e6, hsl, b1, b2, show 1 + s.length ≤ 9223372036854775807 by omega]
      subst hK
      simpa using c1

theorem fn38 : D.T.fns 38 = some (.fn D.l38) := rfl
theorem fn39 : D.T.fns 39 = some (.fn D.l39) := rfl
theorem fn24 : D.T.fns 24 = some (.fn D.l24) := rfl
theorem fn25 : D.T.fns 25 = some (.fn D.l25) := rfl
theorem fn26 : D.T.fns 26 = some (.fn D.l26) := rfl

set_option maxHeartbeats 2000000 in
theorem put38 (n : Nat) (z : Int) (hz : z = n) (h : n < 18446744073709551616) : callW D.T 38 [.int .u64 z, .int .u64 10] [] = some (.str (dec n), none) := by
  subst hz
  obtain ⟨z', w, c1, c2⟩ := loop38 19 n n [dig (n % 10)] (.str []) .undef rfl rfl rfl (by omega) h (by simp)
  have hd : (if n < 10 then [] else dec (n / 10)) ++ [dig (n % 10)] = dec n := by
    conv => rhs; rw [dec]
    split
    · rename_i h; rw [Nat.mod_eq_of_lt h]; rfl
    · rfl
  rw [hd] at c1
  have e1 : (n : Int).tmod 10 = (n : Int) % 10 := tmodN _ _
  have e6 : IntKind.u64.wrap ((n : Int) % 10 + 1) = (n : Int) % 10 + 1 := w64 (by omega) (by omega)
  have hsl : List.drop (((n : Int) % 10).toNat) (List.take (((n : Int) % 10 + 1).toNat) [48, 49, 50, 51, 52, 53, 54, 55, 56, 57, 97, 98, 99, 100, 101, 102]) = [dig (n % 10)] := by
    have a1 : ((n : Int) % 10).toNat = n % 10 := by omega
    have a2 : ((n : Int) % 10 + 1).toNat = n % 10 + 1 := by omega
    rw [a1, a2]; exact signs_sl _ (by omega)
  have b1 : 0 ≤ (n : Int) % 10 + 1 ∧ (n : Int) % 10 + 1 ≤ 16 := by omega
  have b2 : 0 ≤ (n : Int) % 10 ∧ (n : Int) % 10 ≤ max ((n : Int) % 10 + 1) 0 := by omega
  rw [callW_fn fn38]
  simp [D.l38, D.c38, runFun, LMode.isPure, LVal.pfs, LVal.pf, Go.L.initVars, codeW_seq, codeW_region, codeW_regionD, codeW_cond, codeW_ret, codeW_skip, codeW_exit, codeW_block, codeW_fence, thenW, outW, fenceOut, kill, LVal.withins, LVal.within, runOps, runOpsD, Go.L.step, stepD, semD, sem, RS.peek, RS.put, RS.give, RS.take, RS.takes, RS.takeElems, RS.takeParts, RS.peeks, RS.peekO, RS.setVar, RS.noPk, RS.settle, RS.alloc, callOut, LVal.arg, LVal.isAgg, LVal.cells, LVal.unpk, LVal.copy, LVal.down, LVal.plain, LVal.settled, binL, binInt, binStr, unL, resL, resOne, res1, resAll, LVal.isTup, outL, LOp.quiet, LOp.acts, LOp.peeks, LOper.fix, calmOk, loadCalm, awayOk, dstFree, LVal.free, LVal.calm, LVal.calm1, LOp.opds, optL, RS.acquire, appendL, elemsL, bound, inRange, intL, loadL, storeL, setElems, setParts, fitsElem, lenL, isNilL, partL, chunks, e1, e6, hsl, b1, b2, c1]

set_option maxHeartbeats 2000000 in
theorem rnum_eq (n : Int) (h : i64 n) : callW D.T 24 [.int .i64 n] [] = some (.str (numB n), none) := by
  obtain ⟨h1, h2⟩ := h
  rw [callW_fn fn24]
  by_cases hn : n < 0
  · have e1 : IntKind.i64.wrap (n + 1) = n + 1 := wi64 (by omega) (by omega)
    have e2 : IntKind.i64.wrap (0 - (n + 1)) = -n - 1 := by rw [wi64 (by omega) (by omega)]; omega
    have e3 : IntKind.u64.wrap (-n - 1) = -n - 1 := w64 (by omega) (by omega)
    have e4 : IntKind.u64.wrap (-n - 1 + 1) = -n := by rw [w64 (by omega) (by omega)]; omega
    have e4' : IntKind.u64.wrap (-n) = -n := w64 (by omega) (by omega)
    have e5 := put38 n.natAbs (-n) (by omega) (by omega)
    have e6 := dec_len 19 n.natAbs (by omega)
    simp only [Int.zero_sub] at e2
    simp [D.l24, D.c24, runFun, LMode.isPure, LVal.pfs, LVal.pf, Go.L.initVars, codeW_seq, codeW_region, codeW_regionD, codeW_cond, codeW_ret, codeW_skip, codeW_exit, codeW_block, codeW_fence, thenW, outW, fenceOut, kill, LVal.withins, LVal.within, runOps, runOpsD, Go.L.step, stepD, semD, sem, RS.peek, RS.put, RS.give, RS.take, RS.takes, RS.takeElems, RS.takeParts, RS.peeks, RS.peekO, RS.setVar, RS.noPk, RS.settle, RS.alloc, callOut, LVal.arg, LVal.isAgg, LVal.cells, LVal.unpk, LVal.copy, LVal.down, LVal.plain, LVal.settled, binL, binInt, binStr, unL, resL, resOne, res1, resAll, LVal.isTup, outL, LOp.quiet, LOp.acts, LOp.peeks, LOper.fix, calmOk, loadCalm, awayOk, dstFree, LVal.free, LVal.calm, LVal.calm1, LOp.opds, optL, RS.acquire, appendL, elemsL, bound, inRange, intL, loadL, storeL, setElems, setParts, fitsElem, lenL, isNilL, partL, chunks, hn, e1, e2, e3, e4, e4', e5, numB, show (dec n.natAbs).length + 1 ≤ 9223372036854775807 by omega, show (dec n.natAbs).length + 1 + 1 ≤ 9223372036854775807 by omega, show 1 + (dec n.natAbs).length ≤ 9223372036854775807 by omega]
  · have e3 : IntKind.u64.wrap n = n := w64 (by omega) (by omega)
    have e5 := put38 n.toNat n (by omega) (by omega)
    have e6 := dec_len 19 n.toNat (by omega)
    simp [D.l24, D.c24, runFun, LMode.isPure, LVal.pfs, LVal.pf, Go.L.initVars, codeW_seq, codeW_region, codeW_regionD, codeW_cond, codeW_ret, codeW_skip, codeW_exit, codeW_block, codeW_fence, thenW, outW, fenceOut, kill, LVal.withins, LVal.within, runOps, runOpsD, Go.L.step, stepD, semD, sem, RS.peek, RS.put, RS.give, RS.take, RS.takes, RS.takeElems, RS.takeParts, RS.peeks, RS.peekO, RS.setVar, RS.noPk, RS.settle, RS.alloc, callOut, LVal.arg, LVal.isAgg, LVal.cells, LVal.unpk, LVal.copy, LVal.down, LVal.plain, LVal.settled, binL, binInt, binStr, unL, resL, resOne, res1, resAll, LVal.isTup, outL, LOp.quiet, LOp.acts, LOp.peeks, LOper.fix, calmOk, loadCalm, awayOk, dstFree, LVal.free, LVal.calm, LVal.calm1, LOp.opds, optL, RS.acquire, appendL, elemsL, bound, inRange, intL, loadL, storeL, setElems, setParts, fitsElem, lenL, isNilL, partL, chunks, hn, e3, e5, numB, show (dec n.toNat).length + 1 ≤ 9223372036854775807 by omega]

theorem rtruth_eq (b : Bool) : callW D.T 25 [.bool b] [] = some (.str (truthB b), none) := by
  rw [callW_fn fn25]
  cases b <;> simp [D.l25, D.c25, runFun, LMode.isPure, LVal.pfs, LVal.pf, Go.L.initVars, codeW_seq, codeW_region, codeW_regionD, codeW_cond, codeW_ret, codeW_skip, codeW_exit, codeW_block, codeW_fence, thenW, outW, fenceOut, kill, LVal.withins, LVal.within, runOps, runOpsD, Go.L.step, stepD, semD, sem, RS.peek, RS.put, RS.give, RS.take, RS.takes, RS.takeElems, RS.takeParts, RS.peeks, RS.peekO, RS.setVar, RS.noPk, RS.settle, RS.alloc, callOut, LVal.arg, LVal.isAgg, LVal.cells, LVal.unpk, LVal.copy, LVal.down, LVal.plain, LVal.settled, binL, binInt, binStr, unL, resL, resOne, res1, resAll, LVal.isTup, outL, LOp.quiet, LOp.acts, LOp.peeks, LOper.fix, calmOk, loadCalm, awayOk, dstFree, LVal.free, LVal.calm, LVal.calm1, LOp.opds, optL, RS.acquire, appendL, elemsL, bound, inRange, intL, loadL, storeL, setElems, setParts, fitsElem, lenL, isNilL, partL, chunks, truthB]

theorem r39 (b : Bool) (l : List UInt8) (i : Nat) (x : UInt8) (s : List UInt8) (v1 v4 : LVal) (hx : l[i]? = some x) (hi : i < l.length) (hs : s.length ≤ 100000) :
    codeW D.T D.r39_0 { vars := [.vs b .sh 1 (bytesL l), v1, .str s, .int .i64 i, v4], st := [], rs := [] } = some (.normal, { vars := [.vs b .sh 1 (bytesL l), v1.stay, .str (s ++ [dig (x.toNat / 16), dig (x.toNat % 16)]), .int .i64 i, v4.stay], st := [], rs := [] }) := by
  have hgx : (bytesL l)[i]? = some (byteL x) := by rw [get_bytesL, hx]; rfl
  have hx256 : x.toNat < 256 := x.toNat_lt
  have hlen : (bytesL l).length = l.length := len_bytesL l
  have hcond : 0 ≤ (i : Int) ∧ (i : Int) < (l.length : Int) := by omega
  have e1 : (x.toNat : Int).tdiv 16 = (x.toNat : Int) / 16 := tdivN _ _
  have e2 : (x.toNat : Int).tmod 16 = (x.toNat : Int) % 16 := tmodN _ _
  have e3 : IntKind.u8.wrap ((x.toNat : Int) / 16) = (x.toNat : Int) / 16 := w8 (by omega) (by omega)
  have e4 : IntKind.u8.wrap ((x.toNat : Int) / 16 + 1) = (x.toNat : Int) / 16 + 1 := w8 (by omega) (by omega)
  have e5 : IntKind.u8.wrap ((x.toNat : Int) % 16 + 1) = (x.toNat : Int) % 16 + 1 := w8 (by omega) (by omega)
  have s1 : List.drop (((x.toNat : Int) / 16).toNat) (List.take (((x.toNat : Int) / 16 + 1).toNat) [48, 49, 50, 51, 52, 53, 54, 55, 56, 57, 97, 98, 99, 100, 101, 102]) = [dig (x.toNat / 16)] := by
    have a1 : ((x.toNat : Int) / 16).toNat = x.toNat / 16 := by omega
    have a2 : ((x.toNat : Int) / 16 + 1).toNat = x.toNat / 16 + 1 := by omega
    rw [a1, a2]; exact signs_sl _ (by omega)
  have s2 : List.drop (((x.toNat : Int) % 16).toNat) (List.take (((x.toNat : Int) % 16 + 1).toNat) [48, 49, 50, 51, 52, 53, 54, 55, 56, 57, 97, 98, 99, 100, 101, 102]) = [dig (x.toNat % 16)] := by
    have a1 : ((x.toNat : Int) % 16).toNat = x.toNat % 16 := by omega
    have a2 : ((x.toNat : Int) % 16 + 1).toNat = x.toNat % 16 + 1 := by omega
    rw [a1, a2]; exact signs_sl _ (by omega)
  have b1 : 0 ≤ (x.toNat : Int) / 16 + 1 ∧ (x.toNat : Int) / 16 + 1 ≤ 16 := by omega
  have b2 : 0 ≤ (x.toNat : Int) / 16 ∧ (x.toNat : Int) / 16 ≤ max ((x.toNat : Int) / 16 + 1) 0 := by omega
  have b3 : 0 ≤ (x.toNat : Int) % 16 + 1 ∧ (x.toNat : Int) % 16 + 1 ≤ 16 := by omega
  have b4 : 0 ≤ (x.toNat : Int) % 16 ∧ (x.toNat : Int) % 16 ≤ max ((x.toNat : Int) % 16 + 1) 0 := by omega
  unfold D.r39_0
  apply regD
  simp only [RS.settle, List.map_cons, List.map_nil, stay_sh, stay_str, stay_int, List.replicate]
  repeat
    apply runD_cons
    · simp [runFun, LMode.isPure, LVal.pfs, LVal.pf, Go.L.initVars, codeW_seq, codeW_region, codeW_regionD, codeW_cond, codeW_ret, codeW_skip, codeW_exit, codeW_block, codeW_fence, thenW, outW, fenceOut, kill, LVal.withins, LVal.within, runOps, runOpsD, Go.L.step, stepD, semD, sem, RS.peek, RS.put, RS.give, RS.take, RS.takes, RS.takeElems, RS.takeParts, RS.peeks, RS.peekO, RS.setVar, RS.noPk, RS.settle, RS.alloc, callOut, LVal.arg, LVal.isAgg, LVal.cells, LVal.unpk, LVal.copy, LVal.down, LVal.plain, LVal.settled, binL, binInt, binStr, unL, resL, resOne, res1, resAll, LVal.isTup, outL, LOp.quiet, LOp.acts, LOp.peeks, LOper.fix, calmOk, loadCalm, awayOk, dstFree, LVal.free, LVal.calm, LVal.calm1, LOp.opds, optL, RS.acquire, appendL, elemsL, bound, inRange, intL, loadL, storeL, setElems, setParts, fitsElem, lenL, isNilL, partL, chunks, hcond, hlen, hgx, byteL, e1, e2, e3, e4, e5, s1, s2, b1, b2, b3, b4, show s.length + 1 ≤ 9223372036854775807 by omega, show s.length + 1 + 1 ≤ 9223372036854775807 by omega]
      rfl
  exact runD_nil

set_option maxHeartbeats 2000000 in
theorem loop39 (b : Bool) (l : List UInt8) (hl : l.length ≤ 10000) : ∀ (j i : Nat) (z : Int) (s : List UInt8) (v1 v4 : LVal), v1.isOwn = false → v4.isOwn = false → z = i → i + j = l.length → s.length ≤ 2 * i →
    ∃ w1 : LVal, codeW D.T (.loop D.b39_1) { vars := [.vs b .sh 1 (bytesL l), v1, .str s, .int .i64 z, v4], st := [], rs := [] } =
      some (.exit 0, { vars := [.vs b .sh 1 (bytesL l), w1, .str (s ++ hexB (l.drop i)), .int .i64 l.length, .bool false], st := [], rs := [] })
  | 0, i, z, s, v1, v4, o1, o4, hz, hij, hs => by
    subst hz
    have hi : i = l.length := by omega
    subst hi
    rw [codeW_loop]
    refine ⟨v1, ?_⟩
    have hlen : (bytesL l).length = l.length := len_bytesL l
    simp [D.b39_1, runFun, LMode.isPure, LVal.pfs, LVal.pf, Go.L.initVars, codeW_seq, codeW_region, codeW_regionD, codeW_cond, codeW_ret, codeW_skip, codeW_exit, codeW_block, codeW_fence, thenW, outW, fenceOut, kill, LVal.withins, LVal.within, runOps, runOpsD, Go.L.step, stepD, semD, sem, RS.peek, RS.put, RS.give, RS.take, RS.takes, RS.takeElems, RS.takeParts, RS.peeks, RS.peekO, RS.setVar, RS.noPk, RS.settle, RS.alloc, callOut, LVal.arg, LVal.isAgg, LVal.cells, LVal.unpk, LVal.copy, LVal.down, LVal.plain, LVal.settled, binL, binInt, binStr, unL, resL, resOne, res1, resAll, LVal.isTup, outL, LOp.quiet, LOp.acts, LOp.peeks, LOper.fix, calmOk, loadCalm, awayOk, dstFree, LVal.free, LVal.calm, LVal.calm1, LOp.opds, optL, RS.acquire, appendL, elemsL, bound, inRange, intL, loadL, storeL, setElems, setParts, fitsElem, lenL, isNilL, partL, chunks, o1, o4, hlen, hexB]
  | j + 1, i, z, s, v1, v4, o1, o4, hz, hij, hs => by
    subst hz
    have hi : i < l.length := by omega
    obtain ⟨x, hx⟩ : ∃ x, l[i]? = some x := ⟨_, List.getElem?_eq_getElem hi⟩
    have hd : l.drop i = x :: l.drop (i + 1) := by
      rw [List.drop_eq_getElem_cons hi]
      rw [List.getElem?_eq_getElem hi] at hx; injection hx with hx; rw [hx]
    have hlen : (bytesL l).length = l.length := len_bytesL l
    have hlt : (i : Int) < (l.length : Int) := by omega
    have e8 : IntKind.i64.wrap ((i : Int) + 1) = (i : Int) + 1 := wi64 (by omega) (by omega)
    have e9 : LVal.withins 0 (bytesL l) = true := withins_bytesL 0 l
    have hr := r39 b l i x s v1 (.bool true) hx hi (by omega)
    simp only [stay_bool] at hr
    obtain ⟨w1, c1⟩ := loop39 b l hl j (i + 1) ((i : Int) + 1) (s ++ [dig (x.toNat / 16), dig (x.toNat % 16)]) .undef .undef rfl rfl (by omega) (by omega) (by simp; omega)
    refine ⟨w1, ?_⟩
    rw [codeW_loop, hd]
    generalize hK : thenW (codeW D.T (.loop D.b39_1)) = K
    simp [D.b39_1, runFun, LMode.isPure, LVal.pfs, LVal.pf, Go.L.initVars, codeW_seq, codeW_region, codeW_regionD, codeW_cond, codeW_ret, codeW_skip, codeW_exit, codeW_block, codeW_fence, thenW, outW, fenceOut, kill, LVal.withins, LVal.within, runOps, runOpsD, Go.L.step, stepD, semD, sem, RS.peek, RS.put, RS.give, RS.take, RS.takes, RS.takeElems, RS.takeParts, RS.peeks, RS.peekO, RS.setVar, RS.noPk, RS.settle, RS.alloc, callOut, LVal.arg, LVal.isAgg, LVal.cells, LVal.unpk, LVal.copy, LVal.down, LVal.plain, LVal.settled, binL, binInt, binStr, unL, resL, resOne, res1, resAll, LVal.isTup, outL, LOp.quiet, LOp.acts, LOp.peeks, LOper.fix, calmOk, loadCalm, awayOk, dstFree, LVal.free, LVal.calm, LVal.calm1, LOp.opds, optL, RS.acquire, appendL, elemsL, bound, inRange, intL, loadL, storeL, setElems, setParts, fitsElem, lenL, isNilL, partL, chunks, o1, o4, hlt, hlen, e8, e9] at hr ⊢
    simp [hr, runFun, LMode.isPure, LVal.pfs, LVal.pf, Go.L.initVars, codeW_seq, codeW_region, codeW_regionD, codeW_cond, codeW_ret, codeW_skip, codeW_exit, codeW_block, codeW_fence, thenW, outW, fenceOut, kill, LVal.withins, LVal.within, runOps, runOpsD, Go.L.step, stepD, semD, sem, RS.peek, RS.put, RS.give, RS.take, RS.takes, RS.takeElems, RS.takeParts, RS.peeks, RS.peekO, RS.setVar, RS.noPk, RS.settle, RS.alloc, callOut, LVal.arg, LVal.isAgg, LVal.cells, LVal.unpk, LVal.copy, LVal.down, LVal.plain, LVal.settled, binL, binInt, binStr, unL, resL, resOne, res1, resAll, LVal.isTup, outL, LOp.quiet, LOp.acts, LOp.peeks, LOper.fix, calmOk, loadCalm, awayOk, dstFree, LVal.free, LVal.calm, LVal.calm1, LOp.opds, optL, RS.acquire, appendL, elemsL, bound, inRange, intL, loadL, storeL, setElems, setParts, fitsElem, lenL, isNilL, partL, chunks, e8, e9]
    subst hK
    simpa [hexB] using c1

set_option maxHeartbeats 2000000 in
theorem rbytes_eq (b : Bool) (l : List UInt8) (hl : l.length ≤ 10000) : callW D.T 39 [.vs b .sh 1 (bytesL l)] [] = some (.str (hexB l), none) := by
  obtain ⟨w1, c1⟩ := loop39 b l hl l.length 0 0 [] (.str []) .undef rfl rfl rfl (by omega) (by simp)
  simp only [List.nil_append, List.drop_zero] at c1
  have e9 : LVal.withins 0 (bytesL l) = true := withins_bytesL 0 l
  rw [callW_fn fn39]
  simp [D.l39, D.c39, runFun, LMode.isPure, LVal.pfs, LVal.pf, Go.L.initVars, codeW_seq, codeW_region, codeW_regionD, codeW_cond, codeW_ret, codeW_skip, codeW_exit, codeW_block, codeW_fence, thenW, outW, fenceOut, kill, LVal.withins, LVal.within, runOps, runOpsD, Go.L.step, stepD, semD, sem, RS.peek, RS.put, RS.give, RS.take, RS.takes, RS.takeElems, RS.takeParts, RS.peeks, RS.peekO, RS.setVar, RS.noPk, RS.settle, RS.alloc, callOut, LVal.arg, LVal.isAgg, LVal.cells, LVal.unpk, LVal.copy, LVal.down, LVal.plain, LVal.settled, binL, binInt, binStr, unL, resL, resOne, res1, resAll, LVal.isTup, outL, LOp.quiet, LOp.acts, LOp.peeks, LOper.fix, calmOk, loadCalm, awayOk, dstFree, LVal.free, LVal.calm, LVal.calm1, LOp.opds, optL, RS.acquire, appendL, elemsL, bound, inRange, intL, loadL, storeL, setElems, setParts, fitsElem, lenL, isNilL, partL, chunks, c1, e9]

theorem rtext_eq (s : List UInt8) (hs : s.length ≤ 10000) : callW D.T 26 [.str s] [] = some (.str (textB s), none) := by
  have q := rbytes_eq false s hs
  have hx := hexB_len s
  rw [callW_fn fn26]
  simp [D.l26, D.c26, runFun, LMode.isPure, LVal.pfs, LVal.pf, Go.L.initVars, codeW_seq, codeW_region, codeW_regionD, codeW_cond, codeW_ret, codeW_skip, codeW_exit, codeW_block, codeW_fence, thenW, outW, fenceOut, kill, LVal.withins, LVal.within, runOps, runOpsD, Go.L.step, stepD, semD, sem, RS.peek, RS.put, RS.give, RS.take, RS.takes, RS.takeElems, RS.takeParts, RS.peeks, RS.peekO, RS.setVar, RS.noPk, RS.settle, RS.alloc, callOut, LVal.arg, LVal.isAgg, LVal.cells, LVal.unpk, LVal.copy, LVal.down, LVal.plain, LVal.settled, binL, binInt, binStr, unL, resL, resOne, res1, resAll, LVal.isTup, outL, LOp.quiet, LOp.acts, LOp.peeks, LOper.fix, calmOk, loadCalm, awayOk, dstFree, LVal.free, LVal.calm, LVal.calm1, LOp.opds, optL, RS.acquire, appendL, elemsL, bound, inRange, intL, loadL, storeL, setElems, setParts, fitsElem, lenL, isNilL, partL, chunks, q, textB, maxBytes, show s.length ≤ 140737488355328 by omega, show (hexB s).length + 1 ≤ 9223372036854775807 by omega]
end Go.Proofs.Ytbljgbojkifoiaa
