/- Texts 6 7 7b 7c 8. -/
import Derived.Test.YtbljgbojkifoiaaKVA
section
set_option linter.unusedVariables false
set_option linter.unusedSimpArgs false
namespace Go.Proofs.Ytbljgbojkifoiaa
open Go Go.L

theorem signs_sl : ∀ m : Nat, m < 16 → List.drop m (List.take (m + 1) [48, 49, 50, 51, 52, 53, 54, 55, 56, 57, 97, 98, 99, 100, 101, 102]) = [dig m] := by decide

set_option maxHeartbeats 2000000 in
theorem loop38 : ∀ (k n : Nat) (z : Int) (s : List UInt8) (v2 v4 : LVal), v2.isOwn = false → v4.isOwn = false → z = n → n < 10 ^ (k + 1) → n < 18446744073709551616 → s.length + k ≤ 100 →
    ∃ (z' : Int) (w : Nat → LVal), codeW D.T (.loop D.b38_0) { vars := [.int .u64 z, .int .u64 10, v2, .str s, v4], st := [], rs := [] } = some (.exit 0, { vars := [.int .u64 z', .int .u64 10, w 2, .str ((if n < 10 then [] else dec (n / 10)) ++ s), w 4], st := [], rs := [] }) ∧ (w 2).isOwn = false
  | k, n, z, s, v2, v4, o2, o4, hz, hn, h64, hl => by
    subst hz
    have e1 : (n : Int).tmod 10 = (n : Int) % 10 := tmodN _ _
    have e2 : (n : Int).tdiv 10 = (n : Int) / 10 := tdivN _ _
    have e4 : IntKind.u64.wrap ((n : Int) / 10) = (n : Int) / 10 := w64 (by omega) (by omega)
    have e5 : ((n : Int) / 10).tmod 10 = (n : Int) / 10 % 10 := by have := tmodN (n / 10) 10; simpa using this
    have e6 : IntKind.u64.wrap ((n : Int) / 10 % 10 + 1) = (n : Int) / 10 % 10 + 1 := w64 (by omega) (by omega)
    rw [codeW_loop]
    generalize hK : thenW (codeW D.T (.loop D.b38_0)) = K
    by_cases h10 : n < 10
    · have q : ¬ (n : Int) ≥ 10 := by omega
      have q' : ¬ (10 : Int) ≤ n := by omega
      refine ⟨n, fun j => if j = 2 then v2 else .bool false, ?_, by simpa using o2⟩
      simp [D.b38_0, runFun, LMode.isPure, LVal.pfs, LVal.pf, Go.L.initVars, codeW_seq, codeW_region, codeW_regionD, codeW_cond, codeW_ret, codeW_skip, codeW_exit, codeW_block, codeW_fence, thenW, outW, fenceOut, kill, LVal.withins, LVal.within, runOps, runOpsD, Go.L.step, stepD, semD, sem, RS.peek, RS.put, RS.give, RS.take, RS.takes, RS.takeElems, RS.takeParts, RS.peeks, RS.peekO, RS.setVar, RS.noPk, RS.settle, RS.alloc, callOut, LVal.arg, LVal.isAgg, LVal.cells, LVal.unpk, LVal.copy, LVal.down, LVal.plain, LVal.settled, binL, binInt, binStr, unL, resL, resOne, res1, resAll, LVal.isTup, outL, LOp.quiet, LOp.acts, LOp.peeks, LOper.fix, calmOk, loadCalm, awayOk, dstFree, LVal.free, LVal.calm, LVal.calm1, LOp.opds, optL, RS.acquire, appendL, elemsL, bound, inRange, intL, loadL, storeL, setElems, setParts, fitsElem, lenL, isNilL, partL, chunks, o2, o4, q, q', h10]
      subst hK
      rfl
    · have q : (n : Int) ≥ 10 := by omega
      have q' : (10 : Int) ≤ n := by omega
      obtain ⟨k, rfl⟩ : ∃ j, k = j + 1 := ⟨k - 1, by cases k with | zero => simp at hn; omega | succ => omega⟩
      obtain ⟨z', w, c1, c2⟩ := loop38 k (n / 10) ((n : Int) / 10) (dig (n / 10 % 10) :: s) .undef .undef rfl rfl (by omega) (by rw [Nat.pow_succ] at hn; omega) (by omega) (by simp; omega)
      refine ⟨z', w, ?_, c2⟩
      have hsl : List.drop (((n : Int) / 10 % 10).toNat) (List.take (((n : Int) / 10 % 10 + 1).toNat) [48, 49, 50, 51, 52, 53, 54, 55, 56, 57, 97, 98, 99, 100, 101, 102]) = [dig (n / 10 % 10)] := by
        have a1 : ((n : Int) / 10 % 10).toNat = n / 10 % 10 := by omega
        have a2 : ((n : Int) / 10 % 10 + 1).toNat = n / 10 % 10 + 1 := by omega
        rw [a1, a2]; exact signs_sl _ (by omega)
      have b1 : 0 ≤ (n : Int) / 10 % 10 + 1 ∧ (n : Int) / 10 % 10 + 1 ≤ 16 := by omega
      have b2 : 0 ≤ (n : Int) / 10 % 10 ∧ (n : Int) / 10 % 10 ≤ max ((n : Int) / 10 % 10 + 1) 0 := by omega
      have hdd : dec (n / 10) ++ s = (if n / 10 < 10 then [] else dec (n / 10 / 10)) ++ dig (n / 10 % 10) :: s := by
        rw [dec]
        split
        · rename_i h; rw [Nat.mod_eq_of_lt h]; rfl
        · simp
      simp only [if_neg h10, hdd]
      simp [D.b38_0, runFun, LMode.isPure, LVal.pfs, LVal.pf, Go.L.initVars, codeW_seq, codeW_region, codeW_regionD, codeW_cond, codeW_ret, codeW_skip, codeW_exit, codeW_block, codeW_fence, thenW, outW, fenceOut, kill, LVal.withins, LVal.within, runOps, runOpsD, Go.L.step, stepD, semD, sem, RS.peek, RS.put, RS.give, RS.take, RS.takes, RS.takeElems, RS.takeParts, RS.peeks, RS.peekO, RS.setVar, RS.noPk, RS.settle, RS.alloc, callOut, LVal.arg, LVal.isAgg, LVal.cells, LVal.unpk, LVal.copy, LVal.down, LVal.plain, LVal.settled, binL, binInt, binStr, unL, resL, resOne, res1, resAll, LVal.isTup, outL, LOp.quiet, LOp.acts, LOp.peeks, LOper.fix, calmOk, loadCalm, awayOk, dstFree, LVal.free, LVal.calm, LVal.calm1, LOp.opds, optL, RS.acquire, appendL, elemsL, bound, inRange, intL, loadL, storeL, setElems, setParts, fitsElem, lenL, isNilL, partL, chunks, o2, o4, q, q', e1, e2, e4, e5, e6, hsl, b1, b2, show 1 + s.length ≤ 9223372036854775807 by omega]
      subst hK
      simpa using c1

theorem fn38 : D.T.fns 38 = some (.fn D.l38) := rfl
theorem fn39 : D.T.fns 39 = some (.fn D.l39) := rfl
theorem fn24 : D.T.fns 24 = some (.fn D.l24) := rfl
theorem fn25 : D.T.fns 25 = some (.fn D.l25) := rfl
theorem fn26 : D.T.fns 26 = some (.fn D.l26) := rfl

set_option maxHeartbeats 2000000 in
theorem put38 (n : Nat) (z : Int) (hz : z = n) (h : n < 18446744073709551616) : callW D.T 38 [.int .u64 z, .int .u64 10] [] = some (.str (dec n), none) := by
  subst hz
  obtain ⟨z', w, c1, c2⟩ := loop38 19 n n [dig (n % 10)] (.str []) .undef rfl rfl rfl (by omega) h (by simp)
  have hd : (if n < 10 then [] else dec (n / 10)) ++ [dig (n % 10)] = dec n := by
    conv => rhs; rw [dec]
    split
    · rename_i h; rw [Nat.mod_eq_of_lt h]; rfl
    · rfl
  rw [hd] at c1
  have e1 : (n : Int).tmod 10 = (n : Int) % 10 := tmodN _ _
  have e6 : IntKind.u64.wrap ((n : Int) % 10 + 1) = (n : Int) % 10 + 1 := w64 (by omega) (by omega)
  have hsl : List.drop (((n : Int) % 10).toNat) (List.take (((n : Int) % 10 + 1).toNat) [48, 49, 50, 51, 52, 53, 54, 55, 56, 57, 97, 98, 99, 100, 101, 102]) = [dig (n % 10)] := by
    have a1 : ((n : Int) % 10).toNat = n % 10 := by omega
    have a2 : ((n : Int) % 10 + 1).toNat = n % 10 + 1 := by omega
    rw [a1, a2]; exact signs_sl _ (by omega)
  have b1 : 0 ≤ (n : Int) % 10 + 1 ∧ (n : Int) % 10 + 1 ≤ 16 := by omega
  have b2 : 0 ≤ (n : Int) % 10 ∧ (n : Int) % 10 ≤ max ((n : Int) % 10 + 1) 0 := by omega
  rw [callW_fn fn38]
  simp [D.l38, D.c38, runFun, LMode.isPure, LVal.pfs, LVal.pf, Go.L.initVars, codeW_seq, codeW_region, codeW_regionD, codeW_cond, codeW_ret, codeW_skip, codeW_exit, codeW_block, codeW_fence, thenW, outW, fenceOut, kill, LVal.withins, LVal.within, runOps, runOpsD, Go.L.step, stepD, semD, sem, RS.peek, RS.put, RS.give, RS.take, RS.takes, RS.takeElems, RS.takeParts, RS.peeks, RS.peekO, RS.setVar, RS.noPk, RS.settle, RS.alloc, callOut, LVal.arg, LVal.isAgg, LVal.cells, LVal.unpk, LVal.copy, LVal.down, LVal.plain, LVal.settled, binL, binInt, binStr, unL, resL, resOne, res1, resAll, LVal.isTup, outL, LOp.quiet, LOp.acts, LOp.peeks, LOper.fix, calmOk, loadCalm, awayOk, dstFree, LVal.free, LVal.calm, LVal.calm1, LOp.opds, optL, RS.acquire, appendL, elemsL, bound, inRange, intL, loadL, storeL, setElems, setParts, fitsElem, lenL, isNilL, partL, chunks, e1, e6, hsl, b1, b2, c1]

set_option maxHeartbeats 2000000 in
theorem rnum_eq (n : Int) (h : i64 n) : callW D.T 24 [.int .i64 n] [] = some (.str (numB n), none) := by
  obtain ⟨h1, h2⟩ := h
  rw [callW_fn fn24]
  by_cases hn : n < 0
  · have e1 : IntKind.i64.wrap (n + 1) = n + 1 := wi64 (by omega) (by omega)
    have e2 : IntKind.i64.wrap (0 - (n + 1)) = -n - 1 := by rw [wi64 (by omega) (by omega)]; omega
    have e3 : IntKind.u64.wrap (-n - 1) = -n - 1 := w64 (by omega) (by omega)
    have e4 : IntKind.u64.wrap (-n - 1 + 1) = -n := by rw [w64 (by omega) (by omega)]; omega
    have e4' : IntKind.u64.wrap (-n) = -n := w64 (by omega) (by omega)
    have e5 := put38 n.natAbs (-n) (by omega) (by omega)
    have e6 := dec_len 19 n.natAbs (by omega)
    simp only [Int.zero_sub] at e2
    simp [D.l24, D.c24, runFun, LMode.isPure, LVal.pfs, LVal.pf, Go.L.initVars, codeW_seq, codeW_region, codeW_regionD, codeW_cond, codeW_ret, codeW_skip, codeW_exit, codeW_block, codeW_fence, thenW, outW, fenceOut, kill, LVal.withins, LVal.within, runOps, runOpsD, Go.L.step, stepD, semD, sem, RS.peek, RS.put, RS.give, RS.take, RS.takes, RS.takeElems, RS.takeParts, RS.peeks, RS.peekO, RS.setVar, RS.noPk, RS.settle, RS.alloc, callOut, LVal.arg, LVal.isAgg, LVal.cells, LVal.unpk, LVal.copy, LVal.down, LVal.plain, LVal.settled, binL, binInt, binStr, unL, resL, resOne, res1, resAll, LVal.isTup, outL, LOp.quiet, LOp.acts, LOp.peeks, LOper.fix, calmOk, loadCalm, awayOk, dstFree, LVal.free, LVal.calm, LVal.calm1, LOp.opds, optL, RS.acquire, appendL, elemsL, bound, inRange, intL, loadL, storeL, setElems, setParts, fitsElem, lenL, isNilL, partL, chunks, hn, e1, e2, e3, e4, e4', e5, numB, show (dec n.natAbs).length + 1 ≤ 9223372036854775807 by omega, show (dec n.natAbs).length + 1 + 1 ≤ 9223372036854775807 by omega, show 1 + (dec n.natAbs).length ≤ 9223372036854775807 by omega]
  · have e3 : IntKind.u64.wrap n = n := w64 (by omega) (by omega)
    have e5 := put38 n.toNat n (by omega) (by omega)
    have e6 := dec_len 19 n.toNat (by omega)
    simp [D.l24, D.c24, runFun, LMode.isPure, LVal.pfs, LVal.pf, Go.L.initVars, codeW_seq, codeW_region, codeW_regionD, codeW_cond, codeW_ret, codeW_skip, codeW_exit, codeW_block, codeW_fence, thenW, outW, fenceOut, kill, LVal.withins, LVal.within, runOps, runOpsD, Go.L.step, stepD, semD, sem, RS.peek, RS.put, RS.give, RS.take, RS.takes, RS.takeElems, RS.takeParts, RS.peeks, RS.peekO, RS.setVar, RS.noPk, RS.settle, RS.alloc, callOut, LVal.arg, LVal.isAgg, LVal.cells, LVal.unpk, LVal.copy, LVal.down, LVal.plain, LVal.settled, binL, binInt, binStr, unL, resL, resOne, res1, resAll, LVal.isTup, outL, LOp.quiet, LOp.acts, LOp.peeks, LOper.fix, calmOk, loadCalm, awayOk, dstFree, LVal.free, LVal.calm, LVal.calm1, LOp.opds, optL, RS.acquire, appendL, elemsL, bound, inRange, intL, loadL, storeL, setElems, setParts, fitsElem, lenL, isNilL, partL, chunks, hn, e3, e5, numB, show (dec n.toNat).length + 1 ≤ 9223372036854775807 by omega]

theorem rtruth_eq (b : Bool) : callW D.T 25 [.bool b] [] = some (.str (truthB b), none) := by
  rw [callW_fn fn25]
  cases b <;> simp [D.l25, D.c25, runFun, LMode.isPure, LVal.pfs, LVal.pf, Go.L.initVars, codeW_seq, codeW_region, codeW_regionD, codeW_cond, codeW_ret, codeW_skip, codeW_exit, codeW_block, codeW_fence, thenW, outW, fenceOut, kill, LVal.withins, LVal.within, runOps, runOpsD, Go.L.step, stepD, semD, sem, RS.peek, RS.put, RS.give, RS.take, RS.takes, RS.takeElems, RS.takeParts, RS.peeks, RS.peekO, RS.setVar, RS.noPk, RS.settle, RS.alloc, callOut, LVal.arg, LVal.isAgg, LVal.cells, LVal.unpk, LVal.copy, LVal.down, LVal.plain, LVal.settled, binL, binInt, binStr, unL, resL, resOne, res1, resAll, LVal.isTup, outL, LOp.quiet, LOp.acts, LOp.peeks, LOper.fix, calmOk, loadCalm, awayOk, dstFree, LVal.free, LVal.calm, LVal.calm1, LOp.opds, optL, RS.acquire, appendL, elemsL, bound, inRange, intL, loadL, storeL, setElems, setParts, fitsElem, lenL, isNilL, partL, chunks, truthB]

theorem r39 (b : Bool) (l : List UInt8) (i : Nat) (x : UInt8) (s : List UInt8) (v1 v4 : LVal) (hx : l[i]? = some x) (hi : i < l.length) (hs : s.length ≤ 100000) :
    codeW D.T D.r39_0 { vars := [.vs b .sh 1 (bytesL l), v1, .str s, .int .i64 i, v4], st := [], rs := [] } = some (.normal, { vars := [.vs b .sh 1 (bytesL l), v1.stay, .str (s ++ [dig (x.toNat / 16), dig (x.toNat % 16)]), .int .i64 i, v4.stay], st := [], rs := [] }) := by
  have hgx : (bytesL l)[i]? = some (byteL x) := by rw [get_bytesL, hx]; rfl
  have hx256 : x.toNat < 256 := x.toNat_lt
  have hlen : (bytesL l).length = l.length := len_bytesL l
  have hcond : 0 ≤ (i : Int) ∧ (i : Int) < (l.length : Int) := by omega
  have e1 : (x.toNat : Int).tdiv 16 = (x.toNat : Int) / 16 := tdivN _ _
  have e2 : (x.toNat : Int).tmod 16 = (x.toNat : Int) % 16 := tmodN _ _
  have e3 : IntKind.u8.wrap ((x.toNat : Int) / 16) = (x.toNat : Int) / 16 := w8 (by omega) (by omega)
  have e4 : IntKind.u8.wrap ((x.toNat : Int) / 16 + 1) = (x.toNat : Int) / 16 + 1 := w8 (by omega) (by omega)
  have e5 : IntKind.u8.wrap ((x.toNat : Int) % 16 + 1) = (x.toNat : Int) % 16 + 1 := w8 (by omega) (by omega)
  have s1 : List.drop (((x.toNat : Int) / 16).toNat) (List.take (((x.toNat : Int) / 16 + 1).toNat) [48, 49, 50, 51, 52, 53, 54, 55, 56, 57, 97, 98, 99, 100, 101, 102]) = [dig (x.toNat / 16)] := by
    have a1 : ((x.toNat : Int) / 16).toNat = x.toNat / 16 := by omega
    have a2 : ((x.toNat : Int) / 16 + 1).toNat = x.toNat / 16 + 1 := by omega
    rw [a1, a2]; exact signs_sl _ (by omega)
  have s2 : List.drop (((x.toNat : Int) % 16).toNat) (List.take (((x.toNat : Int) % 16 + 1).toNat) [48, 49, 50, 51, 52, 53, 54, 55, 56, 57, 97, 98, 99, 100, 101, 102]) = [dig (x.toNat % 16)] := by
    have a1 : ((x.toNat : Int) % 16).toNat = x.toNat % 16 := by omega
    have a2 : ((x.toNat : Int) % 16 + 1).toNat = x.toNat % 16 + 1 := by omega
    rw [a1, a2]; exact signs_sl _ (by omega)
  have b1 : 0 ≤ (x.toNat : Int) / 16 + 1 ∧ (x.toNat : Int) / 16 + 1 ≤ 16 := by omega
  have b2 : 0 ≤ (x.toNat : Int) / 16 ∧ (x.toNat : Int) / 16 ≤ max ((x.toNat : Int) / 16 + 1) 0 := by omega
  have b3 : 0 ≤ (x.toNat : Int) % 16 + 1 ∧ (x.toNat : Int) % 16 + 1 ≤ 16 := by omega
  have b4 : 0 ≤ (x.toNat : Int) % 16 ∧ (x.toNat : Int) % 16 ≤ max ((x.toNat : Int) % 16 + 1) 0 := by omega
  unfold D.r39_0
  apply regD
  simp only [RS.settle, List.map_cons, List.map_nil, stay_sh, stay_str, stay_int, List.replicate]
  repeat
    apply runD_cons
    · simp [runFun, LMode.isPure, LVal.pfs, LVal.pf, Go.L.initVars, codeW_seq, codeW_region, codeW_regionD, codeW_cond, codeW_ret, codeW_skip, codeW_exit, codeW_block, codeW_fence, thenW, outW, fenceOut, kill, LVal.withins, LVal.within, runOps, runOpsD, Go.L.step, stepD, semD, sem, RS.peek, RS.put, RS.give, RS.take, RS.takes, RS.takeElems, RS.takeParts, RS.peeks, RS.peekO, RS.setVar, RS.noPk, RS.settle, RS.alloc, callOut, LVal.arg, LVal.isAgg, LVal.cells, LVal.unpk, LVal.copy, LVal.down, LVal.plain, LVal.settled, binL, binInt, binStr, unL, resL, resOne, res1, resAll, LVal.isTup, outL, LOp.quiet, LOp.acts, LOp.peeks, LOper.fix, calmOk, loadCalm, awayOk, dstFree, LVal.free, LVal.calm, LVal.calm1, LOp.opds, optL, RS.acquire, appendL, elemsL, bound, inRange, intL, loadL, storeL, setElems, setParts, fitsElem, lenL, isNilL, partL, chunks, hcond, hlen, hgx, byteL, e1, e2, e3, e4, e5, s1, s2, b1, b2, b3, b4, show s.length + 1 ≤ 9223372036854775807 by omega, show s.length + 1 + 1 ≤ 9223372036854775807 by omega]
      rfl
  exact runD_nil

set_option maxHeartbeats 2000000 in
theorem loop39 (b : Bool) (l : List UInt8) (hl : l.length ≤ 10000) : ∀ (j i : Nat) (z : Int) (s : List UInt8) (v1 v4 : LVal), v1.isOwn = false → v4.isOwn = false → z = i → i + j = l.length → s.length ≤ 2 * i →
    ∃ w1 : LVal, codeW D.T (.loop D.b39_1) { vars := [.vs b .sh 1 (bytesL l), v1, .str s, .int .i64 z, v4], st := [], rs := [] } =
      some (.exit 0, { vars := [.vs b .sh 1 (bytesL l), w1, .str (s ++ hexB (l.drop i)), .int .i64 l.length, .bool false], st := [], rs := [] })
  | 0, i, z, s, v1, v4, o1, o4, hz, hij, hs => by
    subst hz
    have hi : i = l.length := by omega
    subst hi
    rw [codeW_loop]
    refine ⟨v1, ?_⟩
    have hlen : (bytesL l).length = l.length := len_bytesL l
    simp [D.b39_1, runFun, LMode.isPure, LVal.pfs, LVal.pf, Go.L.initVars, codeW_seq, codeW_region, codeW_regionD, codeW_cond, codeW_ret, codeW_skip, codeW_exit, codeW_block, codeW_fence, thenW, outW, fenceOut, kill, LVal.withins, LVal.within, runOps, runOpsD, Go.L.step, stepD, semD, sem, RS.peek, RS.put, RS.give, RS.take, RS.takes, RS.takeElems, RS.takeParts, RS.peeks, RS.peekO, RS.setVar, RS.noPk, RS.settle, RS.alloc, callOut, LVal.arg, LVal.isAgg, LVal.cells, LVal.unpk, LVal.copy, LVal.down, LVal.plain, LVal.settled, binL, binInt, binStr, unL, resL, resOne, res1, resAll, LVal.isTup, outL, LOp.quiet, LOp.acts, LOp.peeks, LOper.fix, calmOk, loadCalm, awayOk, dstFree, LVal.free, LVal.calm, LVal.calm1, LOp.opds, optL, RS.acquire, appendL, elemsL, bound, inRange, intL, loadL, storeL, setElems, setParts, fitsElem, lenL, isNilL, partL, chunks, o1, o4, hlen, hexB]
  | j + 1, i, z, s, v1, v4, o1, o4, hz, hij, hs => by
    subst hz
    have hi : i < l.length := by omega
    obtain ⟨x, hx⟩ : ∃ x, l[i]? = some x := ⟨_, List.getElem?_eq_getElem hi⟩
    have hd : l.drop i = x :: l.drop (i + 1) := by
      rw [List.drop_eq_getElem_cons hi]
      rw [List.getElem?_eq_getElem hi] at hx; injection hx with hx; rw [hx]
    have hlen : (bytesL l).length = l.length := len_bytesL l
    have hlt : (i : Int) < (l.length : Int) := by omega
    have e8 : IntKind.i64.wrap ((i : Int) + 1) = (i : Int) + 1 := wi64 (by omega) (by omega)
    have e9 : LVal.withins 0 (bytesL l) = true := withins_bytesL 0 l
    have hr := r39 b l i x s v1 (.bool true) hx hi (by omega)
    simp only [stay_bool] at hr
    obtain ⟨w1, c1⟩ := loop39 b l hl j (i + 1) ((i : Int) + 1) (s ++ [dig (x.toNat / 16), dig (x.toNat % 16)]) .undef .undef rfl rfl (by omega) (by omega) (by simp; omega)
    refine ⟨w1, ?_⟩
    rw [codeW_loop, hd]
    generalize hK : thenW (codeW D.T (.loop D.b39_1)) = K
    simp [D.b39_1, runFun, LMode.isPure, LVal.pfs, LVal.pf, Go.L.initVars, codeW_seq, codeW_region, codeW_regionD, codeW_cond, codeW_ret, codeW_skip, codeW_exit, codeW_block, codeW_fence, thenW, outW, fenceOut, kill, LVal.withins, LVal.within, runOps, runOpsD, Go.L.step, stepD, semD, sem, RS.peek, RS.put, RS.give, RS.take, RS.takes, RS.takeElems, RS.takeParts, RS.peeks, RS.peekO, RS.setVar, RS.noPk, RS.settle, RS.alloc, callOut, LVal.arg, LVal.isAgg, LVal.cells, LVal.unpk, LVal.copy, LVal.down, LVal.plain, LVal.settled, binL, binInt, binStr, unL, resL, resOne, res1, resAll, LVal.isTup, outL, LOp.quiet, LOp.acts, LOp.peeks, LOper.fix, calmOk, loadCalm, awayOk, dstFree, LVal.free, LVal.calm, LVal.calm1, LOp.opds, optL, RS.acquire, appendL, elemsL, bound, inRange, intL, loadL, storeL, setElems, setParts, fitsElem, lenL, isNilL, partL, chunks, o1, o4, hlt, hlen, e8, e9] at hr ⊢
    simp [hr, runFun, LMode.isPure, LVal.pfs, LVal.pf, Go.L.initVars, codeW_seq, codeW_region, codeW_regionD, codeW_cond, codeW_ret, codeW_skip, codeW_exit, codeW_block, codeW_fence, thenW, outW, fenceOut, kill, LVal.withins, LVal.within, runOps, runOpsD, Go.L.step, stepD, semD, sem, RS.peek, RS.put, RS.give, RS.take, RS.takes, RS.takeElems, RS.takeParts, RS.peeks, RS.peekO, RS.setVar, RS.noPk, RS.settle, RS.alloc, callOut, LVal.arg, LVal.isAgg, LVal.cells, LVal.unpk, LVal.copy, LVal.down, LVal.plain, LVal.settled, binL, binInt, binStr, unL, resL, resOne, res1, resAll, LVal.isTup, outL, LOp.quiet, LOp.acts, LOp.peeks, LOper.fix, calmOk, loadCalm, awayOk, dstFree, LVal.free, LVal.calm, LVal.calm1, LOp.opds, optL, RS.acquire, appendL, elemsL, bound, inRange, intL, loadL, storeL, setElems, setParts, fitsElem, lenL, isNilL, partL, chunks, e8, e9]
    subst hK
    simpa [hexB] using c1

set_option maxHeartbeats 2000000 in
theorem rbytes_eq (b : Bool) (l : List UInt8) (hl : l.length ≤ 10000) : callW D.T 39 [.vs b .sh 1 (bytesL l)] [] = some (.str (hexB l), none) := by
  obtain ⟨w1, c1⟩ := loop39 b l hl l.length 0 0 [] (.str []) .undef rfl rfl rfl (by omega) (by simp)
  simp only [List.nil_append, List.drop_zero] at c1
  have e9 : LVal.withins 0 (bytesL l) = true := withins_bytesL 0 l
  rw [callW_fn fn39]
  simp [D.l39, D.c39, runFun, LMode.isPure, LVal.pfs, LVal.pf, Go.L.initVars, codeW_seq, codeW_region, codeW_regionD, codeW_cond, codeW_ret, codeW_skip, codeW_exit, codeW_block, codeW_fence, thenW, outW, fenceOut, kill, LVal.withins, LVal.within, runOps, runOpsD, Go.L.step, stepD, semD, sem, RS.peek, RS.put, RS.give, RS.take, RS.takes, RS.takeElems, RS.takeParts, RS.peeks, RS.peekO, RS.setVar, RS.noPk, RS.settle, RS.alloc, callOut, LVal.arg, LVal.isAgg, LVal.cells, LVal.unpk, LVal.copy, LVal.down, LVal.plain, LVal.settled, binL, binInt, binStr, unL, resL, resOne, res1, resAll, LVal.isTup, outL, LOp.quiet, LOp.acts, LOp.peeks, LOper.fix, calmOk, loadCalm, awayOk, dstFree, LVal.free, LVal.calm, LVal.calm1, LOp.opds, optL, RS.acquire, appendL, elemsL, bound, inRange, intL, loadL, storeL, setElems, setParts, fitsElem, lenL, isNilL, partL, chunks, c1, e9]

theorem rtext_eq (s : List UInt8) (hs : s.length ≤ 10000) : callW D.T 26 [.str s] [] = some (.str (textB s), none) := by
  have q := rbytes_eq false s hs
  have hx := hexB_len s
  rw [callW_fn fn26]
  simp [D.l26, D.c26, runFun, LMode.isPure, LVal.pfs, LVal.pf, Go.L.initVars, codeW_seq, codeW_region, codeW_regionD, codeW_cond, codeW_ret, codeW_skip, codeW_exit, codeW_block, codeW_fence, thenW, outW, fenceOut, kill, LVal.withins, LVal.within, runOps, runOpsD, Go.L.step, stepD, semD, sem, RS.peek, RS.put, RS.give, RS.take, RS.takes, RS.takeElems, RS.takeParts, RS.peeks, RS.peekO, RS.setVar, RS.noPk, RS.settle, RS.alloc, callOut, LVal.arg, LVal.isAgg, LVal.cells, LVal.unpk, LVal.copy, LVal.down, LVal.plain, LVal.settled, binL, binInt, binStr, unL, resL, resOne, res1, resAll, LVal.isTup, outL, LOp.quiet, LOp.acts, LOp.peeks, LOper.fix, calmOk, loadCalm, awayOk, dstFree, LVal.free, LVal.calm, LVal.calm1, LOp.opds, optL, RS.acquire, appendL, elemsL, bound, inRange, intL, loadL, storeL, setElems, setParts, fitsElem, lenL, isNilL, partL, chunks, q, textB, maxBytes, show s.length ≤ 140737488355328 by omega, show (hexB s).length + 1 ≤ 9223372036854775807 by omega]
end Go.Proofs.Ytbljgbojkifoiaa
end
section
set_option linter.unusedVariables false
set_option linter.unusedSimpArgs false
namespace Go.Proofs.Ytbljgbojkifoiaa
open Go Go.L

set_option maxHeartbeats 4000000 in
theorem r11a (cs : List LVal) (hcs : cs.map LVal.stay = cs) (l : LinkS) (hl : l.ok) (ho : l.opts.length ≤ 500) (k : List UInt8) (hk : k.length ≤ 1000000) (v0 v2 v6 v7 v8 v10 : LVal) (n : Int) :
    codeW D.T D.r11_0 { vars := [v0, .ptr 0 0, v2, .str k, .int .i64 n, .ptr 1 0, v6, v7, v8, .bool true, v10], st := [.cells 31 cs, .cells 25 l.cells], rs := [] } =
      some (.normal, { vars := [v0.stay, .ptr 0 0, v2.stay, .str (k ++ linkB l), .int .i64 n, .ptr 1 0, v6.stay, v7.stay, v8.stay, .bool true, v10.stay], st := [.cells 31 cs, .cells 25 l.cells], rs := [] }) := by
  obtain ⟨h1, h2, h3, h4⟩ := hl
  have n1 := numB_len h1; have n2 := numB_len h2; have n3 := numB_len h3; have n4 := numB_len h4; have n5 := truthB_len l.sent; have n6 := truthB_len l.answered; have n7 := textB_len l.opts
  have c1 := rnum_eq _ h1; have c2 := rnum_eq _ h2; have c3 := rnum_eq _ h3; have c4 := rnum_eq _ h4; have c5 := rtruth_eq l.sent; have c6 := rtruth_eq l.answered; have c7 := rtext_eq l.opts (by omega)
  unfold D.r11_0
  simp only [LinkS.cells]
  apply regD
  simp only [RS.settle, List.map_cons, List.map_nil, stay_ptr, stay_str, stay_int, stay_bool, settle_cells, hcs, List.replicate]
  repeat
    apply runD_cons
    · first
        | (simp [runFun, LMode.isPure, LVal.pfs, LVal.pf, Go.L.initVars, codeW_seq, codeW_region, codeW_regionD, codeW_cond, codeW_ret, codeW_skip, codeW_exit, codeW_block, codeW_fence, thenW, outW, fenceOut, kill, LVal.withins, LVal.within, runOps, runOpsD, Go.L.step, stepD, semD, sem, RS.peek, RS.put, RS.give, RS.take, RS.takes, RS.takeElems, RS.takeParts, RS.peeks, RS.peekO, RS.setVar, RS.noPk, RS.settle, RS.alloc, callOut, LVal.arg, LVal.isAgg, LVal.cells, LVal.unpk, LVal.copy, LVal.down, LVal.plain, LVal.settled, binL, binInt, binStr, unL, resL, resOne, res1, resAll, LVal.isTup, outL, LOp.quiet, LOp.acts, LOp.peeks, LOper.fix, calmOk, loadCalm, awayOk, dstFree, LVal.free, LVal.calm, LVal.calm1, LOp.opds, optL, RS.acquire, appendL, elemsL, bound, inRange, intL, loadL, storeL, setElems, setParts, fitsElem, lenL, isNilL, partL, chunks, c1, c2, c3, c4, c5, c6, c7]; done)
        | (simp [runFun, LMode.isPure, LVal.pfs, LVal.pf, Go.L.initVars, codeW_seq, codeW_region, codeW_regionD, codeW_cond, codeW_ret, codeW_skip, codeW_exit, codeW_block, codeW_fence, thenW, outW, fenceOut, kill, LVal.withins, LVal.within, runOps, runOpsD, Go.L.step, stepD, semD, sem, RS.peek, RS.put, RS.give, RS.take, RS.takes, RS.takeElems, RS.takeParts, RS.peeks, RS.peekO, RS.setVar, RS.noPk, RS.settle, RS.alloc, callOut, LVal.arg, LVal.isAgg, LVal.cells, LVal.unpk, LVal.copy, LVal.down, LVal.plain, LVal.settled, binL, binInt, binStr, unL, resL, resOne, res1, resAll, LVal.isTup, outL, LOp.quiet, LOp.acts, LOp.peeks, LOper.fix, calmOk, loadCalm, awayOk, dstFree, LVal.free, LVal.calm, LVal.calm1, LOp.opds, optL, RS.acquire, appendL, elemsL, bound, inRange, intL, loadL, storeL, setElems, setParts, fitsElem, lenL, isNilL, partL, chunks, c1, c2, c3, c4, c5, c6, c7]; rfl)
        | (simp [runFun, LMode.isPure, LVal.pfs, LVal.pf, Go.L.initVars, codeW_seq, codeW_region, codeW_regionD, codeW_cond, codeW_ret, codeW_skip, codeW_exit, codeW_block, codeW_fence, thenW, outW, fenceOut, kill, LVal.withins, LVal.within, runOps, runOpsD, Go.L.step, stepD, semD, sem, RS.peek, RS.put, RS.give, RS.take, RS.takes, RS.takeElems, RS.takeParts, RS.peeks, RS.peekO, RS.setVar, RS.noPk, RS.settle, RS.alloc, callOut, LVal.arg, LVal.isAgg, LVal.cells, LVal.unpk, LVal.copy, LVal.down, LVal.plain, LVal.settled, binL, binInt, binStr, unL, resL, resOne, res1, resAll, LVal.isTup, outL, LOp.quiet, LOp.acts, LOp.peeks, LOper.fix, calmOk, loadCalm, awayOk, dstFree, LVal.free, LVal.calm, LVal.calm1, LOp.opds, optL, RS.acquire, appendL, elemsL, bound, inRange, intL, loadL, storeL, setElems, setParts, fitsElem, lenL, isNilL, partL, chunks, c1, c2, c3, c4, c5, c6, c7]; exact ⟨by omega, rfl⟩)
  simp only [linkB, List.append_assoc]
  exact runD_nil
end Go.Proofs.Ytbljgbojkifoiaa
end
section
set_option linter.unusedVariables false
set_option linter.unusedSimpArgs false
namespace Go.Proofs.Ytbljgbojkifoiaa
open Go Go.L

set_option maxHeartbeats 8000000 in
theorem r11b (s : StateS) (hl : s.login.ok) (ho : s.login.value.length ≤ 500) (qo : s.o = .sh ∨ s.o = .full) (hd : s.due.length ≤ 20) (k : List UInt8) (hk : k.length ≤ 1000000) (v0 v2 v4 v5 v7 v8 v9 v10 : LVal) :
    codeW D.T D.r11_2 { vars := [v0, .ptr 0 0, v2, .str k, v4, v5, .ptr 1 0, v7, v8, v9, v10], st := [.cells 31 s.cells, .cells 28 s.login.cells], rs := [] } =
      some (.normal, { vars := [v0.stay, .ptr 0 0, v2.stay, .str (k ++ (loginB s.login ++ numB s.due.length)), v4.stay, v5.stay, .ptr 1 0, v7.stay, v8.stay, v9.stay, v10.stay], st := [.cells 31 s.cells, .cells 28 s.login.cells], rs := [] }) := by
  obtain ⟨h1, h2, h3, h4⟩ := hl
  have hdl : i64 (s.due.length : Int) := ⟨by omega, by omega⟩
  have n1 := numB_len h1; have n2 := numB_len h2; have n3 := numB_len h3; have n4 := numB_len h4; have n5 := truthB_len s.login.oursOk; have n6 := truthB_len s.login.theirsOk; have n8 := truthB_len s.login.open_; have n9 := truthB_len s.login.asked; have n7 := textB_len s.login.value; have n10 := numB_len hdl
  have c1 := rnum_eq _ h1; have c2 := rnum_eq _ h2; have c3 := rnum_eq _ h3; have c4 := rnum_eq _ h4; have c5 := rtruth_eq s.login.oursOk; have c6 := rtruth_eq s.login.theirsOk; have c8 := rtruth_eq s.login.open_; have c9 := rtruth_eq s.login.asked; have c7 := rtext_eq s.login.value (by omega); have c10 := rnum_eq _ hdl
  have e5 : (duesL s.due).length = s.due.length := duesL_len s.due
  unfold D.r11_2
  simp only [LoginS.cells, StateS.cells, LinkS.cells, List.cons_append, List.nil_append]
  rcases qo with qo | qo <;> rw [qo]
  · apply regD
    simp only [RS.settle, List.map_cons, List.map_nil, stay_ptr, stay_str, stay_int, stay_bool, stay_sh, stay_full, settle_cells, List.replicate]
    repeat
      apply runD_cons
      · first
          | (simp [runFun, LMode.isPure, LVal.pfs, LVal.pf, Go.L.initVars, codeW_seq, codeW_region, codeW_regionD, codeW_cond, codeW_ret, codeW_skip, codeW_exit, codeW_block, codeW_fence, thenW, outW, fenceOut, kill, LVal.withins, LVal.within, runOps, runOpsD, Go.L.step, stepD, semD, sem, RS.peek, RS.put, RS.give, RS.take, RS.takes, RS.takeElems, RS.takeParts, RS.peeks, RS.peekO, RS.setVar, RS.noPk, RS.settle, RS.alloc, callOut, LVal.arg, LVal.isAgg, LVal.cells, LVal.unpk, LVal.copy, LVal.down, LVal.plain, LVal.settled, binL, binInt, binStr, unL, resL, resOne, res1, resAll, LVal.isTup, outL, LOp.quiet, LOp.acts, LOp.peeks, LOper.fix, calmOk, loadCalm, awayOk, dstFree, LVal.free, LVal.calm, LVal.calm1, LOp.opds, optL, RS.acquire, appendL, elemsL, bound, inRange, intL, loadL, storeL, setElems, setParts, fitsElem, lenL, isNilL, partL, chunks, c1, c2, c3, c4, c5, c6, c7, c8, c9, c10, e5]; done)
          | (simp [runFun, LMode.isPure, LVal.pfs, LVal.pf, Go.L.initVars, codeW_seq, codeW_region, codeW_regionD, codeW_cond, codeW_ret, codeW_skip, codeW_exit, codeW_block, codeW_fence, thenW, outW, fenceOut, kill, LVal.withins, LVal.within, runOps, runOpsD, Go.L.step, stepD, semD, sem, RS.peek, RS.put, RS.give, RS.take, RS.takes, RS.takeElems, RS.takeParts, RS.peeks, RS.peekO, RS.setVar, RS.noPk, RS.settle, RS.alloc, callOut, LVal.arg, LVal.isAgg, LVal.cells, LVal.unpk, LVal.copy, LVal.down, LVal.plain, LVal.settled, binL, binInt, binStr, unL, resL, resOne, res1, resAll, LVal.isTup, outL, LOp.quiet, LOp.acts, LOp.peeks, LOper.fix, calmOk, loadCalm, awayOk, dstFree, LVal.free, LVal.calm, LVal.calm1, LOp.opds, optL, RS.acquire, appendL, elemsL, bound, inRange, intL, loadL, storeL, setElems, setParts, fitsElem, lenL, isNilL, partL, chunks, c1, c2, c3, c4, c5, c6, c7, c8, c9, c10, e5]; rfl)
          | (simp [runFun, LMode.isPure, LVal.pfs, LVal.pf, Go.L.initVars, codeW_seq, codeW_region, codeW_regionD, codeW_cond, codeW_ret, codeW_skip, codeW_exit, codeW_block, codeW_fence, thenW, outW, fenceOut, kill, LVal.withins, LVal.within, runOps, runOpsD, Go.L.step, stepD, semD, sem, RS.peek, RS.put, RS.give, RS.take, RS.takes, RS.takeElems, RS.takeParts, RS.peeks, RS.peekO, RS.setVar, RS.noPk, RS.settle, RS.alloc, callOut, LVal.arg, LVal.isAgg, LVal.cells, LVal.unpk, LVal.copy, LVal.down, LVal.plain, LVal.settled, binL, binInt, binStr, unL, resL, resOne, res1, resAll, LVal.isTup, outL, LOp.quiet, LOp.acts, LOp.peeks, LOper.fix, calmOk, loadCalm, awayOk, dstFree, LVal.free, LVal.calm, LVal.calm1, LOp.opds, optL, RS.acquire, appendL, elemsL, bound, inRange, intL, loadL, storeL, setElems, setParts, fitsElem, lenL, isNilL, partL, chunks, c1, c2, c3, c4, c5, c6, c7, c8, c9, c10, e5]; exact ⟨by omega, rfl⟩)
    simp only [loginB, List.append_assoc]
    exact runD_nil
  · apply regD
    simp only [RS.settle, List.map_cons, List.map_nil, stay_ptr, stay_str, stay_int, stay_bool, stay_sh, stay_full, settle_cells, List.replicate]
    repeat
      apply runD_cons
      · first
          | (simp [runFun, LMode.isPure, LVal.pfs, LVal.pf, Go.L.initVars, codeW_seq, codeW_region, codeW_regionD, codeW_cond, codeW_ret, codeW_skip, codeW_exit, codeW_block, codeW_fence, thenW, outW, fenceOut, kill, LVal.withins, LVal.within, runOps, runOpsD, Go.L.step, stepD, semD, sem, RS.peek, RS.put, RS.give, RS.take, RS.takes, RS.takeElems, RS.takeParts, RS.peeks, RS.peekO, RS.setVar, RS.noPk, RS.settle, RS.alloc, callOut, LVal.arg, LVal.isAgg, LVal.cells, LVal.unpk, LVal.copy, LVal.down, LVal.plain, LVal.settled, binL, binInt, binStr, unL, resL, resOne, res1, resAll, LVal.isTup, outL, LOp.quiet, LOp.acts, LOp.peeks, LOper.fix, calmOk, loadCalm, awayOk, dstFree, LVal.free, LVal.calm, LVal.calm1, LOp.opds, optL, RS.acquire, appendL, elemsL, bound, inRange, intL, loadL, storeL, setElems, setParts, fitsElem, lenL, isNilL, partL, chunks, c1, c2, c3, c4, c5, c6, c7, c8, c9, c10, e5]; done)
          | (simp [runFun, LMode.isPure, LVal.pfs, LVal.pf, Go.L.initVars, codeW_seq, codeW_region, codeW_regionD, codeW_cond, codeW_ret, codeW_skip, codeW_exit, codeW_block, codeW_fence, thenW, outW, fenceOut, kill, LVal.withins, LVal.within, runOps, runOpsD, Go.L.step, stepD, semD, sem, RS.peek, RS.put, RS.give, RS.take, RS.takes, RS.takeElems, RS.takeParts, RS.peeks, RS.peekO, RS.setVar, RS.noPk, RS.settle, RS.alloc, callOut, LVal.arg, LVal.isAgg, LVal.cells, LVal.unpk, LVal.copy, LVal.down, LVal.plain, LVal.settled, binL, binInt, binStr, unL, resL, resOne, res1, resAll, LVal.isTup, outL, LOp.quiet, LOp.acts, LOp.peeks, LOper.fix, calmOk, loadCalm, awayOk, dstFree, LVal.free, LVal.calm, LVal.calm1, LOp.opds, optL, RS.acquire, appendL, elemsL, bound, inRange, intL, loadL, storeL, setElems, setParts, fitsElem, lenL, isNilL, partL, chunks, c1, c2, c3, c4, c5, c6, c7, c8, c9, c10, e5]; rfl)
          | (simp [runFun, LMode.isPure, LVal.pfs, LVal.pf, Go.L.initVars, codeW_seq, codeW_region, codeW_regionD, codeW_cond, codeW_ret, codeW_skip, codeW_exit, codeW_block, codeW_fence, thenW, outW, fenceOut, kill, LVal.withins, LVal.within, runOps, runOpsD, Go.L.step, stepD, semD, sem, RS.peek, RS.put, RS.give, RS.take, RS.takes, RS.takeElems, RS.takeParts, RS.peeks, RS.peekO, RS.setVar, RS.noPk, RS.settle, RS.alloc, callOut, LVal.arg, LVal.isAgg, LVal.cells, LVal.unpk, LVal.copy, LVal.down, LVal.plain, LVal.settled, binL, binInt, binStr, unL, resL, resOne, res1, resAll, LVal.isTup, outL, LOp.quiet, LOp.acts, LOp.peeks, LOper.fix, calmOk, loadCalm, awayOk, dstFree, LVal.free, LVal.calm, LVal.calm1, LOp.opds, optL, RS.acquire, appendL, elemsL, bound, inRange, intL, loadL, storeL, setElems, setParts, fitsElem, lenL, isNilL, partL, chunks, c1, c2, c3, c4, c5, c6, c7, c8, c9, c10, e5]; exact ⟨by omega, rfl⟩)
    simp only [loginB, List.append_assoc]
    exact runD_nil
end Go.Proofs.Ytbljgbojkifoiaa
end
section
set_option linter.unusedVariables false
set_option linter.unusedSimpArgs false
namespace Go.Proofs.Ytbljgbojkifoiaa
open Go Go.L

set_option maxHeartbeats 4000000 in
theorem r11c (cs lg : List LVal) (hcs : cs.map LVal.stay = cs) (hlg : lg.map LVal.stay = lg) (l : DueS) (hl : l.ok) (ho : l.data.length ≤ 500) (k : List UInt8) (hk : k.length ≤ 1000000) (v0 v2 v4 v5 v6 v9 : LVal) (n : Int) :
    codeW D.T D.r11_3 { vars := [v0, .ptr 0 0, v2, .str k, v4, v5, v6, .int .i64 n, .ptr 2 0, v9, .bool true], st := [.cells 31 cs, .cells 28 lg, .cells 43 l.cells], rs := [] } =
      some (.normal, { vars := [v0.stay, .ptr 0 0, v2.stay, .str (k ++ dueB l), v4.stay, v5.stay, v6.stay, .int .i64 n, .ptr 2 0, v9.stay, .bool true], st := [.cells 31 cs, .cells 28 lg, .cells 43 l.cells], rs := [] }) := by
  obtain ⟨h1, h2, h3⟩ := hl
  have n1 := numB_len h1; have n2 := numB_len h2; have n3 := numB_len h3; have n7 := textB_len l.data
  have c1 := rnum_eq _ h1; have c2 := rnum_eq _ h2; have c3 := rnum_eq _ h3; have c7 := rtext_eq l.data (by omega)
  unfold D.r11_3
  simp only [DueS.cells]
  apply regD
  simp only [RS.settle, List.map_cons, List.map_nil, stay_ptr, stay_str, stay_int, stay_bool, settle_cells, hcs, hlg, List.replicate]
  repeat
    apply runD_cons
    · first
        | (simp [runFun, LMode.isPure, LVal.pfs, LVal.pf, Go.L.initVars, codeW_seq, codeW_region, codeW_regionD, codeW_cond, codeW_ret, codeW_skip, codeW_exit, codeW_block, codeW_fence, thenW, outW, fenceOut, kill, LVal.withins, LVal.within, runOps, runOpsD, Go.L.step, stepD, semD, sem, RS.peek, RS.put, RS.give, RS.take, RS.takes, RS.takeElems, RS.takeParts, RS.peeks, RS.peekO, RS.setVar, RS.noPk, RS.settle, RS.alloc, callOut, LVal.arg, LVal.isAgg, LVal.cells, LVal.unpk, LVal.copy, LVal.down, LVal.plain, LVal.settled, binL, binInt, binStr, unL, resL, resOne, res1, resAll, LVal.isTup, outL, LOp.quiet, LOp.acts, LOp.peeks, LOper.fix, calmOk, loadCalm, awayOk, dstFree, LVal.free, LVal.calm, LVal.calm1, LOp.opds, optL, RS.acquire, appendL, elemsL, bound, inRange, intL, loadL, storeL, setElems, setParts, fitsElem, lenL, isNilL, partL, chunks, c1, c2, c3, c7]; done)
        | (simp [runFun, LMode.isPure, LVal.pfs, LVal.pf, Go.L.initVars, codeW_seq, codeW_region, codeW_regionD, codeW_cond, codeW_ret, codeW_skip, codeW_exit, codeW_block, codeW_fence, thenW, outW, fenceOut, kill, LVal.withins, LVal.within, runOps, runOpsD, Go.L.step, stepD, semD, sem, RS.peek, RS.put, RS.give, RS.take, RS.takes, RS.takeElems, RS.takeParts, RS.peeks, RS.peekO, RS.setVar, RS.noPk, RS.settle, RS.alloc, callOut, LVal.arg, LVal.isAgg, LVal.cells, LVal.unpk, LVal.copy, LVal.down, LVal.plain, LVal.settled, binL, binInt, binStr, unL, resL, resOne, res1, resAll, LVal.isTup, outL, LOp.quiet, LOp.acts, LOp.peeks, LOper.fix, calmOk, loadCalm, awayOk, dstFree, LVal.free, LVal.calm, LVal.calm1, LOp.opds, optL, RS.acquire, appendL, elemsL, bound, inRange, intL, loadL, storeL, setElems, setParts, fitsElem, lenL, isNilL, partL, chunks, c1, c2, c3, c7]; rfl)
        | (simp [runFun, LMode.isPure, LVal.pfs, LVal.pf, Go.L.initVars, codeW_seq, codeW_region, codeW_regionD, codeW_cond, codeW_ret, codeW_skip, codeW_exit, codeW_block, codeW_fence, thenW, outW, fenceOut, kill, LVal.withins, LVal.within, runOps, runOpsD, Go.L.step, stepD, semD, sem, RS.peek, RS.put, RS.give, RS.take, RS.takes, RS.takeElems, RS.takeParts, RS.peeks, RS.peekO, RS.setVar, RS.noPk, RS.settle, RS.alloc, callOut, LVal.arg, LVal.isAgg, LVal.cells, LVal.unpk, LVal.copy, LVal.down, LVal.plain, LVal.settled, binL, binInt, binStr, unL, resL, resOne, res1, resAll, LVal.isTup, outL, LOp.quiet, LOp.acts, LOp.peeks, LOper.fix, calmOk, loadCalm, awayOk, dstFree, LVal.free, LVal.calm, LVal.calm1, LOp.opds, optL, RS.acquire, appendL, elemsL, bound, inRange, intL, loadL, storeL, setElems, setParts, fitsElem, lenL, isNilL, partL, chunks, c1, c2, c3, c7]; exact ⟨by omega, rfl⟩)
  simp only [dueB, List.append_assoc]
  exact runD_nil

set_option maxHeartbeats 4000000 in
theorem due11 (s : StateS) (qo : s.o = .sh ∨ s.o = .full) (qm : s.due ≠ [] → s.m = 4) (hok : ∀ d ∈ s.due, d.ok) (hsh : ∀ d ∈ s.due, d.data.length ≤ 500) (hlen : s.due.length ≤ 20) : ∀ (j i : Nat) (z : Int) (k : List UInt8) (v0 v2 v4 v5 v6 v8 v9 v10 : LVal), v0.isOwn = false → v2.isOwn = false → v8.isOwn = false → v10.isOwn = false → z = i → i + j = s.due.length → k.length + 1100 * j ≤ 500000 →
    ∃ (w : Nat → LVal), codeW D.T (.loop D.b11_4) { vars := [v0, .ptr 0 0, v2, .str k, v4, v5, v6, .int .i64 z, v8, v9, v10], st := [.cells 31 s.cells, .cells 28 s.login.cells], rs := [] } =
      some (.exit 2, { vars := [w 0, .ptr 0 0, w 2, .str (k ++ duesB (s.due.drop i)), w 4, w 5, w 6, .int .i64 s.due.length, w 8, w 9, .bool false], st := [.cells 31 s.cells, .cells 28 s.login.cells], rs := [] })
  | 0, i, z, k, v0, v2, v4, v5, v6, v8, v9, v10, o0, o2, o8, o10, hz, hij, hb => by
    subst hz
    have hi : i = s.due.length := by omega
    subst hi
    refine ⟨fun j => [v0, .undef, v2, .undef, v4, v5, v6, .undef, v8, v9].getD j .undef, ?_⟩
    have e5 : (duesL s.due).length = s.due.length := duesL_len s.due
    rw [codeW_loop]
    simp only [StateS.cells, LinkS.cells, LoginS.cells, List.cons_append, List.nil_append]
    rcases qo with qo | qo <;> simp [qo, D.b11_4, runFun, LMode.isPure, LVal.pfs, LVal.pf, Go.L.initVars, codeW_seq, codeW_region, codeW_regionD, codeW_cond, codeW_ret, codeW_skip, codeW_exit, codeW_block, codeW_fence, thenW, outW, fenceOut, kill, LVal.withins, LVal.within, runOps, runOpsD, Go.L.step, stepD, semD, sem, RS.peek, RS.put, RS.give, RS.take, RS.takes, RS.takeElems, RS.takeParts, RS.peeks, RS.peekO, RS.setVar, RS.noPk, RS.settle, RS.alloc, callOut, LVal.arg, LVal.isAgg, LVal.cells, LVal.unpk, LVal.copy, LVal.down, LVal.plain, LVal.settled, binL, binInt, binStr, unL, resL, resOne, res1, resAll, LVal.isTup, outL, LOp.quiet, LOp.acts, LOp.peeks, LOper.fix, calmOk, loadCalm, awayOk, dstFree, LVal.free, LVal.calm, LVal.calm1, LOp.opds, optL, RS.acquire, appendL, elemsL, bound, inRange, intL, loadL, storeL, setElems, setParts, fitsElem, lenL, isNilL, partL, chunks, o10, e5, duesB]
  | j + 1, i, z, k, v0, v2, v4, v5, v6, v8, v9, v10, o0, o2, o8, o10, hz, hij, hb => by
    subst hz
    have hi : i < s.due.length := by omega
    obtain ⟨d, hd⟩ : ∃ d, s.due[i]? = some d := ⟨_, List.getElem?_eq_getElem hi⟩
    have hdm : d ∈ s.due := List.mem_of_getElem? hd
    have hdrop : s.due.drop i = d :: s.due.drop (i + 1) := by
      rw [List.drop_eq_getElem_cons hi]
      rw [List.getElem?_eq_getElem hi] at hd; injection hd with hd; rw [hd]
    have hdl : (dueB d).length ≤ 1100 := by
      obtain ⟨q1, q2, q3⟩ := hok d hdm
      have n1 := numB_len q1; have n2 := numB_len q2; have n3 := numB_len q3; have n7 := textB_len d.data
      have := hsh d hdm
      simp only [dueB, List.length_append]; omega
    obtain ⟨w, c1⟩ := due11 s qo qm hok hsh hlen j (i + 1) ((i : Int) + 1) (k ++ dueB d) .undef .undef .undef .undef .undef .undef .undef .undef rfl rfl rfl rfl (by omega) (by omega) (by simp only [List.length_append]; omega)
    refine ⟨w, ?_⟩
    have e1 : (i : Int) < (s.due.length : Int) := by omega
    have e0 : 0 ≤ (i : Int) ∧ (i : Int) < (s.due.length : Int) := by omega
    have e3 : IntKind.i64.wrap ((i : Int) + 1) = (i : Int) + 1 := wi64 (by omega) (by omega)
    have e5 : (duesL s.due).length = s.due.length := duesL_len s.due
    have e6 : (duesL s.due)[i]? = some (.agg d.cells) := by rw [duesL_get, hd]; rfl
    have e7 : ∀ n, LVal.withins n (duesL s.due) = true := fun n => duesL_within n s.due
    have hsc : s.cells.map LVal.stay = s.cells := by simp only [StateS.cells]; rcases qo with ho | ho <;> rw [ho] <;> rfl
    have hm4 : s.m = 4 := qm (fun e => by rw [e] at hi; simp at hi)
    have hr := r11c s.cells s.login.cells hsc rfl d (hok d hdm) (hsh d hdm) k (by omega) v0 v2 v4 v5 v6 v9 i
    rw [codeW_loop, hdrop]
    generalize hK : thenW (codeW D.T (.loop D.b11_4)) = K
    simp only [duesB]
    rw [← List.append_assoc]
    simp only [StateS.cells, LinkS.cells, LoginS.cells, DueS.cells, List.cons_append, List.nil_append] at hr c1 e6 ⊢
    rcases qo with qo | qo
    · simp only [qo, hm4] at hr c1 ⊢
      simp [D.b11_4, runFun, LMode.isPure, LVal.pfs, LVal.pf, Go.L.initVars, codeW_seq, codeW_region, codeW_regionD, codeW_cond, codeW_ret, codeW_skip, codeW_exit, codeW_block, codeW_fence, thenW, outW, fenceOut, kill, LVal.withins, LVal.within, runOps, runOpsD, Go.L.step, stepD, semD, sem, RS.peek, RS.put, RS.give, RS.take, RS.takes, RS.takeElems, RS.takeParts, RS.peeks, RS.peekO, RS.setVar, RS.noPk, RS.settle, RS.alloc, callOut, LVal.arg, LVal.isAgg, LVal.cells, LVal.unpk, LVal.copy, LVal.down, LVal.plain, LVal.settled, binL, binInt, binStr, unL, resL, resOne, res1, resAll, LVal.isTup, outL, LOp.quiet, LOp.acts, LOp.peeks, LOper.fix, calmOk, loadCalm, awayOk, dstFree, LVal.free, LVal.calm, LVal.calm1, LOp.opds, optL, RS.acquire, appendL, elemsL, bound, inRange, intL, loadL, storeL, setElems, setParts, fitsElem, lenL, isNilL, partL, chunks, o8, o10, e0, e1, e3, e5, e6, e7, hr]
      subst hK
      simpa using c1
    · simp only [qo, hm4] at hr c1 ⊢
      simp [D.b11_4, runFun, LMode.isPure, LVal.pfs, LVal.pf, Go.L.initVars, codeW_seq, codeW_region, codeW_regionD, codeW_cond, codeW_ret, codeW_skip, codeW_exit, codeW_block, codeW_fence, thenW, outW, fenceOut, kill, LVal.withins, LVal.within, runOps, runOpsD, Go.L.step, stepD, semD, sem, RS.peek, RS.put, RS.give, RS.take, RS.takes, RS.takeElems, RS.takeParts, RS.peeks, RS.peekO, RS.setVar, RS.noPk, RS.settle, RS.alloc, callOut, LVal.arg, LVal.isAgg, LVal.cells, LVal.unpk, LVal.copy, LVal.down, LVal.plain, LVal.settled, binL, binInt, binStr, unL, resL, resOne, res1, resAll, LVal.isTup, outL, LOp.quiet, LOp.acts, LOp.peeks, LOper.fix, calmOk, loadCalm, awayOk, dstFree, LVal.free, LVal.calm, LVal.calm1, LOp.opds, optL, RS.acquire, appendL, elemsL, bound, inRange, intL, loadL, storeL, setElems, setParts, fitsElem, lenL, isNilL, partL, chunks, o8, o10, e0, e1, e3, e5, e6, e7, hr]
      subst hK
      simpa using c1
end Go.Proofs.Ytbljgbojkifoiaa
end
section
set_option linter.unusedVariables false
set_option linter.unusedSimpArgs false
namespace Go.Proofs.Ytbljgbojkifoiaa
open Go Go.L

set_option maxHeartbeats 4000000 in
theorem link11 (cs : List LVal) (hlen : cs.length = 31) (hcs : cs.map LVal.stay = cs) (hdn : cs.map LVal.down = cs) (hw : ∀ n, LVal.withins n cs = true) (i : Nat) (hi : i < 3) (l : LinkS) (hp : (cs.drop (i * 7)).take 7 = l.cells) (hl : l.ok) (ho : l.opts.length ≤ 500) (k : List UInt8) (hk : k.length ≤ 1000000)
    (v0 v2 v5 v6 v7 v8 v9 v10 : LVal) (o5 : v5.isOwn = false) (o9 : v9.isOwn = false) :
    codeW D.T D.b11_1 { vars := [v0, .ptr 0 0, v2, .str k, .int .i64 i, v5, v6, v7, v8, v9, v10], st := [.cells 31 cs], rs := [] } =
      some (.normal, { vars := [.undef, .ptr 0 0, .undef, .str (k ++ linkB l), .int .i64 (i + 1), .undef, .undef, .undef, .undef, .undef, .undef], st := [.cells 31 cs], rs := [] }) := by
  have hr := r11a cs hcs l hl ho k hk v0 v2 v6 v7 v8 v10 i
  simp only [LinkS.cells] at hp hr
  have e1 : (i : Int) < 3 := by omega
  have e2 : i * 7 + 7 ≤ 31 := by omega
  have e3 : IntKind.i64.wrap ((i : Int) + 1) = (i : Int) + 1 := wi64 (by omega) (by omega)
  simp [D.b11_1, runFun, LMode.isPure, LVal.pfs, LVal.pf, Go.L.initVars, codeW_seq, codeW_region, codeW_regionD, codeW_cond, codeW_ret, codeW_skip, codeW_exit, codeW_block, codeW_fence, thenW, outW, fenceOut, kill, LVal.withins, LVal.within, runOps, runOpsD, Go.L.step, stepD, semD, sem, RS.peek, RS.put, RS.give, RS.take, RS.takes, RS.takeElems, RS.takeParts, RS.peeks, RS.peekO, RS.setVar, RS.noPk, RS.settle, RS.alloc, callOut, LVal.arg, LVal.isAgg, LVal.cells, LVal.unpk, LVal.copy, LVal.down, LVal.plain, LVal.settled, binL, binInt, binStr, unL, resL, resOne, res1, resAll, LVal.isTup, outL, LOp.quiet, LOp.acts, LOp.peeks, LOper.fix, calmOk, loadCalm, awayOk, dstFree, LVal.free, LVal.calm, LVal.calm1, LOp.opds, optL, RS.acquire, appendL, elemsL, bound, inRange, intL, loadL, storeL, setElems, setParts, fitsElem, lenL, isNilL, partL, chunks, o5, o9, e1, e2, e3, hlen, hdn, hp, hw, hr]

theorem fn11 : D.T.fns 11 = some (.fn D.l11) := rfl
set_option maxHeartbeats 4000000 in
theorem rkey_eq (s : StateS) (hok : s.ok) (hf : s.few) : callW D.T 11 [.agg s.cells] [] = some (.str (keyB s), none) := by
  obtain ⟨q0, q1, q2, q3, q4, q5, qo, qm⟩ := hok
  have hsc : s.cells.map LVal.stay = s.cells := by simp only [StateS.cells]; rcases qo with ho | ho <;> rw [ho] <;> rfl
  have hsd : s.cells.map LVal.down = s.cells := by simp only [StateS.cells]; rcases qo with ho | ho <;> rw [ho] <;> rfl
  obtain ⟨f1, f2, f3, f4, f5, f6⟩ := hf
  have lb0 : (linkB s.l0).length ≤ 1200 := by
    obtain ⟨q1, q2, q3, q4⟩ := q0
    have n1 := numB_len q1; have n2 := numB_len q2; have n3 := numB_len q3; have n4 := numB_len q4; have n5 := truthB_len s.l0.sent; have n6 := truthB_len s.l0.answered; have n7 := textB_len s.l0.opts
    simp only [linkB, List.length_append]; omega
  have lb1 : (linkB s.l1).length ≤ 1200 := by
    obtain ⟨q1, q2, q3, q4⟩ := q1
    have n1 := numB_len q1; have n2 := numB_len q2; have n3 := numB_len q3; have n4 := numB_len q4; have n5 := truthB_len s.l1.sent; have n6 := truthB_len s.l1.answered; have n7 := textB_len s.l1.opts
    simp only [linkB, List.length_append]; omega
  have lb2 : (linkB s.l2).length ≤ 1200 := by
    obtain ⟨q1, q2, q3, q4⟩ := q2
    have n1 := numB_len q1; have n2 := numB_len q2; have n3 := numB_len q3; have n4 := numB_len q4; have n5 := truthB_len s.l2.sent; have n6 := truthB_len s.l2.answered; have n7 := textB_len s.l2.opts
    simp only [linkB, List.length_append]; omega
  have lgb : (loginB s.login).length ≤ 1300 := by
    obtain ⟨h1, h2, h3, h4⟩ := q3
    have n1 := numB_len h1; have n2 := numB_len h2; have n3 := numB_len h3; have n4 := numB_len h4; have n5 := truthB_len s.login.oursOk; have n6 := truthB_len s.login.theirsOk; have n8 := truthB_len s.login.open_; have n9 := truthB_len s.login.asked; have n7 := textB_len s.login.value
    simp only [loginB, List.length_append]; omega
  have hdl : i64 (s.due.length : Int) := ⟨by omega, by omega⟩
  have ndl := numB_len hdl
  have k1 := link11 s.cells rfl hsc hsd (fun n => rfl) 0 (by omega) s.l0 rfl q0 f3 [] (by simp) (.agg s.cells) (.str []) .undef .undef .undef .undef .undef .undef rfl rfl
  have k2 := link11 s.cells rfl hsc hsd (fun n => rfl) 1 (by omega) s.l1 rfl q1 f4 _ (show ([] ++ linkB s.l0).length ≤ 1000000 by simp; omega) .undef .undef .undef .undef .undef .undef .undef .undef rfl rfl
  have k3 := link11 s.cells rfl hsc hsd (fun n => rfl) 2 (by omega) s.l2 rfl q2 f5 _ (show ([] ++ linkB s.l0 ++ linkB s.l1).length ≤ 1000000 by simp only [List.length_append, List.length_nil]; omega) .undef .undef .undef .undef .undef .undef .undef .undef rfl rfl
  have hexit : codeW D.T D.b11_1 { vars := [.undef, .ptr 0 0, .undef, .str ([] ++ linkB s.l0 ++ linkB s.l1 ++ linkB s.l2), .int .i64 3, .undef, .undef, .undef, .undef, .undef, .undef], st := [.cells 31 s.cells], rs := [] } =
      some (.exit 0, { vars := [.undef, .ptr 0 0, .undef, .str ([] ++ linkB s.l0 ++ linkB s.l1 ++ linkB s.l2), .int .i64 3, .undef, .undef, .undef, .undef, .bool false, .undef], st := [.cells 31 s.cells], rs := [] }) := by
    simp [D.b11_1, runFun, LMode.isPure, LVal.pfs, LVal.pf, Go.L.initVars, codeW_seq, codeW_region, codeW_regionD, codeW_cond, codeW_ret, codeW_skip, codeW_exit, codeW_block, codeW_fence, thenW, outW, fenceOut, kill, LVal.withins, LVal.within, runOps, runOpsD, Go.L.step, stepD, semD, sem, RS.peek, RS.put, RS.give, RS.take, RS.takes, RS.takeElems, RS.takeParts, RS.peeks, RS.peekO, RS.setVar, RS.noPk, RS.settle, RS.alloc, callOut, LVal.arg, LVal.isAgg, LVal.cells, LVal.unpk, LVal.copy, LVal.down, LVal.plain, LVal.settled, binL, binInt, binStr, unL, resL, resOne, res1, resAll, LVal.isTup, outL, LOp.quiet, LOp.acts, LOp.peeks, LOper.fix, calmOk, loadCalm, awayOk, dstFree, LVal.free, LVal.calm, LVal.calm1, LOp.opds, optL, RS.acquire, appendL, elemsL, bound, inRange, intL, loadL, storeL, setElems, setParts, fitsElem, lenL, isNilL, partL, chunks]
  have hloop : codeW D.T (.loop D.b11_1) { vars := [.agg s.cells, .ptr 0 0, .str [], .str [], .int .i64 0, .undef, .undef, .undef, .undef, .undef, .undef], st := [.cells 31 s.cells], rs := [] } =
      some (.exit 0, { vars := [.undef, .ptr 0 0, .undef, .str ([] ++ linkB s.l0 ++ linkB s.l1 ++ linkB s.l2), .int .i64 3, .undef, .undef, .undef, .undef, .bool false, .undef], st := [.cells 31 s.cells], rs := [] }) := by
    have k1' : codeW D.T D.b11_1 { vars := [.agg s.cells, .ptr 0 0, .str [], .str [], .int .i64 0, .undef, .undef, .undef, .undef, .undef, .undef], st := [.cells 31 s.cells], rs := [] } = _ := k1
    rw [codeW_loop, k1']
    simp only [Option.bind_some, thenW_normal]
    rw [codeW_loop]
    rw [show ((1 : Nat) : Int) = ((0 : Nat) : Int) + 1 by rfl] at k2
    rw [k2]
    simp only [Option.bind_some, thenW_normal]
    rw [codeW_loop]
    rw [show ((2 : Nat) : Int) = ((0 : Nat) : Int) + 1 + 1 by rfl] at k3
    rw [k3]
    simp only [Option.bind_some, thenW_normal]
    rw [codeW_loop]
    rw [show (((0 : Nat) : Int) + 1 + 1 + 1) = 3 by rfl, hexit]
    rfl
  generalize hK0 : ([] ++ linkB s.l0 ++ linkB s.l1 ++ linkB s.l2) = k0 at hloop
  have hk0 : k0.length ≤ 4000 := by rw [← hK0]; simp only [List.length_append, List.length_nil]; omega
  have hb := r11b s q3 f2 qo f1 k0 (by omega) .undef .undef .undef .undef .undef .undef .undef .undef
  obtain ⟨w, hd⟩ := due11 s qo qm q4 f6 f1 s.due.length 0 0 (k0 ++ (loginB s.login ++ numB s.due.length)) .undef .undef .undef .undef (.ptr 1 0) .undef .undef .undef rfl rfl rfl rfl rfl (by omega) (by simp only [List.length_append]; omega)
  have hkey : k0 ++ (loginB s.login ++ numB (s.due.length : Int)) ++ duesB (s.due.drop 0) = keyB s := by rw [← hK0]; simp [keyB]
  rw [hkey] at hd
  have e5 : (duesL s.due).length = s.due.length := duesL_len s.due
  have e7 : ∀ n, LVal.withins n (duesL s.due) = true := fun n => duesL_within n s.due
  rw [callW_fn fn11]
  simp only [StateS.cells, LinkS.cells, LoginS.cells, List.cons_append, List.nil_append, stay_undef] at hloop hb hd ⊢
  rcases qo with ho | ho <;> simp only [ho] at hloop hb hd ⊢ <;>
  simp [D.l11, D.c11, runFun, LMode.isPure, LVal.pfs, LVal.pf, Go.L.initVars, codeW_seq, codeW_region, codeW_regionD, codeW_cond, codeW_ret, codeW_skip, codeW_exit, codeW_block, codeW_fence, thenW, outW, fenceOut, kill, LVal.withins, LVal.within, runOps, runOpsD, Go.L.step, stepD, semD, sem, RS.peek, RS.put, RS.give, RS.take, RS.takes, RS.takeElems, RS.takeParts, RS.peeks, RS.peekO, RS.setVar, RS.noPk, RS.settle, RS.alloc, callOut, LVal.arg, LVal.isAgg, LVal.cells, LVal.unpk, LVal.copy, LVal.down, LVal.plain, LVal.settled, binL, binInt, binStr, unL, resL, resOne, res1, resAll, LVal.isTup, outL, LOp.quiet, LOp.acts, LOp.peeks, LOper.fix, calmOk, loadCalm, awayOk, dstFree, LVal.free, LVal.calm, LVal.calm1, LOp.opds, optL, RS.acquire, appendL, elemsL, bound, inRange, intL, loadL, storeL, setElems, setParts, fitsElem, lenL, isNilL, partL, chunks, hloop, hb, hd, e5, e7]
end Go.Proofs.Ytbljgbojkifoiaa
end
