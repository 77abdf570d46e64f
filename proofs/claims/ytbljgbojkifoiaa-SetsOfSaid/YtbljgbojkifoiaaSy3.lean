/- The key's Builder. -/
import Derived.Test.YtbljgbojkifoiaaSy2
set_option linter.unusedVariables false
set_option linter.unusedSimpArgs false
namespace Go.Proofs.Ytbljgbojkifoiaa
open Go Go.L

theorem fn44 : D.T.fns 44 = some (.hook D.hCopy) := rfl
theorem fn34 : D.T.fns 34 = some (.fn D.l34) := rfl
theorem fn35 : D.T.fns 35 = some (.fn D.l35) := rfl
theorem fn20 : D.T.fns 20 = some (.fn D.l20) := rfl
theorem fn21 : D.T.fns 21 = some (.fn D.l21) := rfl
theorem fn22 : D.T.fns 22 = some (.fn D.l22) := rfl

/-- What a builder holds. -/
def Buf (p a : LVal) (bs : List UInt8) : Prop :=
  (p = .nilptr ∨ p = .ptr 1 0) ∧ ((bs = [] ∧ a = .vs true .sh 0 []) ∨ ∃ x, a = .vs false (.own 5 x) 1 (bytesL bs))

theorem copy1 (o0 : LObj) (p a : LVal) (r : List LObj) (hp : p = .nilptr ∨ p = .ptr 1 0) : callW D.T 44 [.ptr 1 0] (o0 :: .cells 49 [p, a] :: r) = some (.tup [], some (o0 :: .cells 49 [.ptr 1 0, a] :: r)) := by
  rw [callW_hook fn44]
  rcases hp with rfl | rfl <;> simp [D.hCopy, D.isB]

set_option maxHeartbeats 1000000 in
theorem wbyte (o0 : LObj) (p a : LVal) (r : List LObj) (bs : List UInt8) (c : UInt8) (hb : Buf p a bs) (hl : bs.length ≤ 100000000) :
    ∃ a', callW D.T 34 [.ptr 1 0, .int .u8 c.toNat] (o0 :: .cells 49 [p, a] :: r) = some (.niliface, some (o0 :: .cells 49 [.ptr 1 0, a'] :: r)) ∧ Buf (.ptr 1 0) a' (bs ++ [c]) := by
  obtain ⟨hp, ⟨rfl, rfl⟩ | ⟨x, rfl⟩⟩ := hb
  · refine ⟨.vs false (.own 5 true) 1 [.int .u8 c.toNat], ?_, .inr rfl, .inr ⟨true, rfl⟩⟩
    rw [callW_fn fn34]
    simp [D.l34, D.c34, runFun, LMode.isPure, LVal.pfs, LVal.pf, Go.L.initVars, codeW_seq, codeW_region, codeW_regionD, codeW_cond, codeW_ret, codeW_skip, codeW_exit, codeW_block, codeW_fence, thenW, outW, fenceOut, kill, LVal.withins, LVal.within, runOps, runOpsD, Go.L.step, stepD, semD, sem, RS.peek, RS.put, RS.give, RS.take, RS.takes, RS.takeElems, RS.takeParts, RS.peeks, RS.peekO, RS.setVar, RS.noPk, RS.settle, RS.alloc, callOut, LVal.arg, LVal.isAgg, LVal.cells, LVal.unpk, LVal.copy, LVal.down, LVal.plain, LVal.settled, binL, binInt, binStr, unL, resL, resOne, res1, resAll, LVal.isTup, outL, LOp.quiet, LOp.acts, LOp.peeks, LOper.fix, calmOk, loadCalm, awayOk, dstFree, LVal.free, LVal.calm, LVal.calm1, LOp.opds, optL, RS.acquire, appendL, elemsL, bound, inRange, intL, loadL, storeL, setElems, setParts, fitsElem, lenL, isNilL, partL, chunks, copy1 _ _ _ _ hp, maxBytes]
  · have e11 : (bytesL bs).length = bs.length := len_bytesL bs
    refine ⟨.vs false (.own 5 false) 1 (bytesL (bs ++ [c])), ?_, .inr rfl, .inr ⟨false, rfl⟩⟩
    rw [callW_fn fn34]
    simp [D.l34, D.c34, runFun, LMode.isPure, LVal.pfs, LVal.pf, Go.L.initVars, codeW_seq, codeW_region, codeW_regionD, codeW_cond, codeW_ret, codeW_skip, codeW_exit, codeW_block, codeW_fence, thenW, outW, fenceOut, kill, LVal.withins, LVal.within, runOps, runOpsD, Go.L.step, stepD, semD, sem, RS.peek, RS.put, RS.give, RS.take, RS.takes, RS.takeElems, RS.takeParts, RS.peeks, RS.peekO, RS.setVar, RS.noPk, RS.settle, RS.alloc, callOut, LVal.arg, LVal.isAgg, LVal.cells, LVal.unpk, LVal.copy, LVal.down, LVal.plain, LVal.settled, binL, binInt, binStr, unL, resL, resOne, res1, resAll, LVal.isTup, outL, LOp.quiet, LOp.acts, LOp.peeks, LOper.fix, calmOk, loadCalm, awayOk, dstFree, LVal.free, LVal.calm, LVal.calm1, LOp.opds, optL, RS.acquire, appendL, elemsL, bound, inRange, intL, loadL, storeL, setElems, setParts, fitsElem, lenL, isNilL, partL, chunks, copy1 _ _ _ _ hp, maxBytes, e11, show bs.length + 1 ≤ 140737488355328 by omega]
    simp [bytesL, byteL]

set_option maxHeartbeats 1000000 in
theorem wstr (o0 : LObj) (p a : LVal) (r : List LObj) (bs s : List UInt8) (hb : Buf p a bs) (hl : bs.length ≤ 100000000) (hs : s.length ≤ 100000000) :
    ∃ a', callW D.T 35 [.ptr 1 0, .str s] (o0 :: .cells 49 [p, a] :: r) = some (.tup [.int .i64 s.length, .niliface], some (o0 :: .cells 49 [.ptr 1 0, a'] :: r)) ∧ Buf (.ptr 1 0) a' (bs ++ s) := by
  have e12 : (bytesL s).length = s.length := len_bytesL s
  have e13 : bytesL s = [] ↔ s = [] := by simp [bytesL]
  obtain ⟨hp, ⟨rfl, rfl⟩ | ⟨x, rfl⟩⟩ := hb
  · by_cases h0 : s = []
    · subst h0
      refine ⟨.vs true .sh 0 [], ?_, .inr rfl, .inl ⟨rfl, rfl⟩⟩
      rw [callW_fn fn35]
      simp [D.l35, D.c35, runFun, LMode.isPure, LVal.pfs, LVal.pf, Go.L.initVars, codeW_seq, codeW_region, codeW_regionD, codeW_cond, codeW_ret, codeW_skip, codeW_exit, codeW_block, codeW_fence, thenW, outW, fenceOut, kill, LVal.withins, LVal.within, runOps, runOpsD, Go.L.step, stepD, semD, sem, RS.peek, RS.put, RS.give, RS.take, RS.takes, RS.takeElems, RS.takeParts, RS.peeks, RS.peekO, RS.setVar, RS.noPk, RS.settle, RS.alloc, callOut, LVal.arg, LVal.isAgg, LVal.cells, LVal.unpk, LVal.copy, LVal.down, LVal.plain, LVal.settled, binL, binInt, binStr, unL, resL, resOne, res1, resAll, LVal.isTup, outL, LOp.quiet, LOp.acts, LOp.peeks, LOper.fix, calmOk, loadCalm, awayOk, dstFree, LVal.free, LVal.calm, LVal.calm1, LOp.opds, optL, RS.acquire, appendL, elemsL, bound, inRange, intL, loadL, storeL, setElems, setParts, fitsElem, lenL, isNilL, partL, chunks, copy1 _ _ _ _ hp, maxBytes, bytesL]
    · refine ⟨.vs false (.own 5 true) 1 (bytesL s), ?_, .inr rfl, .inr ⟨true, rfl⟩⟩
      rw [callW_fn fn35]
      simp [D.l35, D.c35, runFun, LMode.isPure, LVal.pfs, LVal.pf, Go.L.initVars, codeW_seq, codeW_region, codeW_regionD, codeW_cond, codeW_ret, codeW_skip, codeW_exit, codeW_block, codeW_fence, thenW, outW, fenceOut, kill, LVal.withins, LVal.within, runOps, runOpsD, Go.L.step, stepD, semD, sem, RS.peek, RS.put, RS.give, RS.take, RS.takes, RS.takeElems, RS.takeParts, RS.peeks, RS.peekO, RS.setVar, RS.noPk, RS.settle, RS.alloc, callOut, LVal.arg, LVal.isAgg, LVal.cells, LVal.unpk, LVal.copy, LVal.down, LVal.plain, LVal.settled, binL, binInt, binStr, unL, resL, resOne, res1, resAll, LVal.isTup, outL, LOp.quiet, LOp.acts, LOp.peeks, LOper.fix, calmOk, loadCalm, awayOk, dstFree, LVal.free, LVal.calm, LVal.calm1, LOp.opds, optL, RS.acquire, appendL, elemsL, bound, inRange, intL, loadL, storeL, setElems, setParts, fitsElem, lenL, isNilL, partL, chunks, copy1 _ _ _ _ hp, maxBytes, e12, e13, h0, show s.length ≤ 140737488355328 by omega]
  · have e11 : (bytesL bs).length = bs.length := len_bytesL bs
    refine ⟨.vs false (.own 5 false) 1 (bytesL (bs ++ s)), ?_, .inr rfl, .inr ⟨false, rfl⟩⟩
    rw [callW_fn fn35]
    by_cases h0 : s = []
    · subst h0
      simp [D.l35, D.c35, runFun, LMode.isPure, LVal.pfs, LVal.pf, Go.L.initVars, codeW_seq, codeW_region, codeW_regionD, codeW_cond, codeW_ret, codeW_skip, codeW_exit, codeW_block, codeW_fence, thenW, outW, fenceOut, kill, LVal.withins, LVal.within, runOps, runOpsD, Go.L.step, stepD, semD, sem, RS.peek, RS.put, RS.give, RS.take, RS.takes, RS.takeElems, RS.takeParts, RS.peeks, RS.peekO, RS.setVar, RS.noPk, RS.settle, RS.alloc, callOut, LVal.arg, LVal.isAgg, LVal.cells, LVal.unpk, LVal.copy, LVal.down, LVal.plain, LVal.settled, binL, binInt, binStr, unL, resL, resOne, res1, resAll, LVal.isTup, outL, LOp.quiet, LOp.acts, LOp.peeks, LOper.fix, calmOk, loadCalm, awayOk, dstFree, LVal.free, LVal.calm, LVal.calm1, LOp.opds, optL, RS.acquire, appendL, elemsL, bound, inRange, intL, loadL, storeL, setElems, setParts, fitsElem, lenL, isNilL, partL, chunks, copy1 _ _ _ _ hp, maxBytes, bytesL]
    · simp [D.l35, D.c35, runFun, LMode.isPure, LVal.pfs, LVal.pf, Go.L.initVars, codeW_seq, codeW_region, codeW_regionD, codeW_cond, codeW_ret, codeW_skip, codeW_exit, codeW_block, codeW_fence, thenW, outW, fenceOut, kill, LVal.withins, LVal.within, runOps, runOpsD, Go.L.step, stepD, semD, sem, RS.peek, RS.put, RS.give, RS.take, RS.takes, RS.takeElems, RS.takeParts, RS.peeks, RS.peekO, RS.setVar, RS.noPk, RS.settle, RS.alloc, callOut, LVal.arg, LVal.isAgg, LVal.cells, LVal.unpk, LVal.copy, LVal.down, LVal.plain, LVal.settled, binL, binInt, binStr, unL, resL, resOne, res1, resAll, LVal.isTup, outL, LOp.quiet, LOp.acts, LOp.peeks, LOper.fix, calmOk, loadCalm, awayOk, dstFree, LVal.free, LVal.calm, LVal.calm1, LOp.opds, optL, RS.acquire, appendL, elemsL, bound, inRange, intL, loadL, storeL, setElems, setParts, fitsElem, lenL, isNilL, partL, chunks, copy1 _ _ _ _ hp, maxBytes, e11, e12, e13, h0, show bs.length + s.length ≤ 140737488355328 by omega]
      simp [bytesL, byteL]

/-- A number, and its comma. -/
def numB (n : Int) : List UInt8 := if n < 0 then 45 :: (dec n.natAbs ++ [44]) else dec n.toNat ++ [44]
def truthB (b : Bool) : List UInt8 := if b then [49, 44] else [48, 44]
def textB (s : List UInt8) : List UInt8 := hexB s ++ [44]

/-- The objects beside the builder. -/
def Beside (o0 : LObj) (r : List LObj) : Prop := o0.within (r.length + 1 + 1) = true ∧ (∀ x ∈ r, LObj.within (r.length + 1 + 1) x = true) ∧ o0.settle = o0 ∧ r.map LObj.settle = r

theorem dec_len : ∀ (k n : Nat), n < 10 ^ (k + 1) → (dec n).length ≤ k + 1
  | 0, n, h => by
    rw [dec, dif_pos (by simpa using h)]; simp
  | k + 1, n, h => by
    rw [dec]
    split
    · simp
    · have := dec_len k (n / 10) (by rw [Nat.pow_succ] at h; omega)
      simp; omega

theorem Buf.stay {p a : LVal} {bs : List UInt8} (h : Buf p a bs) : Buf p a.stay bs := by
  obtain ⟨hp, ⟨h1, rfl⟩ | ⟨x, rfl⟩⟩ := h
  · exact ⟨hp, .inl ⟨h1, rfl⟩⟩
  · exact ⟨hp, .inr ⟨false, rfl⟩⟩
theorem Buf.pstay {p a : LVal} {bs : List UInt8} (h : Buf p a bs) : p.stay = p := by
  rcases h.1 with rfl | rfl <;> rfl

theorem buf_within {p a : LVal} {bs : List UInt8} {n : Nat} (h : Buf p a bs) (hn : 1 < n) : p.within n = true ∧ a.within n = true := by
  obtain ⟨hp, ha⟩ := h
  constructor
  · rcases hp with rfl | rfl
    · rfl
    · simpa [LVal.within] using hn
  · rcases ha with ⟨_, rfl⟩ | ⟨x, rfl⟩ <;> rfl

set_option maxHeartbeats 1000000 in
theorem num_eq (o0 : LObj) (p a : LVal) (r : List LObj) (bs : List UInt8) (n : Int) (h1 : -9223372036854775808 ≤ n) (h2 : n < 9223372036854775808) (hB : Beside o0 r) (hb : Buf p a bs) (hl : bs.length ≤ 10000000) :
    ∃ a', callW D.T 20 [.ptr 1 0, .int .i64 n] (o0 :: .cells 49 [p, a] :: r) = some (.tup [], some (o0 :: .cells 49 [.ptr 1 0, a'] :: r)) ∧ Buf (.ptr 1 0) a' (bs ++ numB n) := by
  obtain ⟨B1, B2, B3, B4⟩ := hB
  have hd20 : ∀ m, m < 18446744073709551616 → (dec m).length ≤ 20 := fun m hm => dec_len 19 m (by omega)
  by_cases hn : n < 0
  · have q1 : IntKind.u64.wrap n = n + 18446744073709551616 := by rw [IntKind.wrap_u64]; omega
    have q2 : IntKind.u64.wrap (0 - (n + 18446744073709551616)) = (n.natAbs : Int) := by rw [IntKind.wrap_u64]; omega
    have hm : n.natAbs < 18446744073709551616 := by omega
    have q3 := dec_eq n.natAbs hm
    obtain ⟨a1, k1, b1⟩ := wbyte o0 p a r bs 45 hb (by omega)
    obtain ⟨a2, k2, b2⟩ := wstr o0 (.ptr 1 0) a1.stay r (bs ++ [45]) (dec n.natAbs) b1.stay (by simp; omega) (by have := hd20 _ hm; omega)
    obtain ⟨a3, k3, b3⟩ := wbyte o0 (.ptr 1 0) a2 r _ 44 b2 (by have := hd20 _ hm; simp; omega)
    have k1 : callW D.T 34 [.ptr 1 0, .int .u8 45] (o0 :: .cells 49 [p, a] :: r) = _ := k1
    have k3 : callW D.T 34 [.ptr 1 0, .int .u8 44] (o0 :: .cells 49 [.ptr 1 0, a2] :: r) = _ := k3
    have hw := (buf_within b3 (n := r.length + 1 + 1) (by omega)).2
    refine ⟨a3, ?_, by simpa [numB, hn] using b3⟩
    rw [callW_fn fn20]
    simp only [Int.zero_sub] at q2
    simp [D.l20, D.c20, runFun, LMode.isPure, LVal.pfs, LVal.pf, Go.L.initVars, codeW_seq, codeW_region, codeW_regionD, codeW_cond, codeW_ret, codeW_skip, codeW_exit, codeW_block, codeW_fence, thenW, outW, fenceOut, kill, LVal.withins, LVal.within, runOps, runOpsD, Go.L.step, stepD, semD, sem, RS.peek, RS.put, RS.give, RS.take, RS.takes, RS.takeElems, RS.takeParts, RS.peeks, RS.peekO, RS.setVar, RS.noPk, RS.settle, RS.alloc, callOut, LVal.arg, LVal.isAgg, LVal.cells, LVal.unpk, LVal.copy, LVal.down, LVal.plain, LVal.settled, binL, binInt, binStr, unL, resL, resOne, res1, resAll, LVal.isTup, outL, LOp.quiet, LOp.acts, LOp.peeks, LOper.fix, calmOk, loadCalm, awayOk, dstFree, LVal.free, LVal.calm, LVal.calm1, LOp.opds, optL, RS.acquire, appendL, elemsL, bound, inRange, intL, loadL, storeL, setElems, setParts, fitsElem, lenL, isNilL, partL, chunks, hn, q1, q2, q3, k1, k2, k3, B1, B2, B3, B4, hw]
    exact B2
  · have q1 : IntKind.u64.wrap n = (n.toNat : Int) := by rw [IntKind.wrap_u64]; omega
    have hm : n.toNat < 18446744073709551616 := by omega
    have q3 := dec_eq n.toNat hm
    obtain ⟨a2, k2, b2⟩ := wstr o0 p a.stay r bs (dec n.toNat) hb.stay (by omega) (by have := hd20 _ hm; omega)
    obtain ⟨a3, k3, b3⟩ := wbyte o0 (.ptr 1 0) a2 r _ 44 b2 (by have := hd20 _ hm; simp; omega)
    have k3 : callW D.T 34 [.ptr 1 0, .int .u8 44] (o0 :: .cells 49 [.ptr 1 0, a2] :: r) = _ := k3
    have hw := (buf_within b3 (n := r.length + 1 + 1) (by omega)).2
    have hw2 : p.within (r.length + 1 + 1) = true := (buf_within hb (by omega)).1
    refine ⟨a3, ?_, by simpa [numB, hn] using b3⟩
    rw [callW_fn fn20]
    generalize hz : (n.toNat : Int) = z at q1 q3
    simp [D.l20, D.c20, runFun, LMode.isPure, LVal.pfs, LVal.pf, Go.L.initVars, codeW_seq, codeW_region, codeW_regionD, codeW_cond, codeW_ret, codeW_skip, codeW_exit, codeW_block, codeW_fence, thenW, outW, fenceOut, kill, LVal.withins, LVal.within, runOps, runOpsD, Go.L.step, stepD, semD, sem, RS.peek, RS.put, RS.give, RS.take, RS.takes, RS.takeElems, RS.takeParts, RS.peeks, RS.peekO, RS.setVar, RS.noPk, RS.settle, RS.alloc, callOut, LVal.arg, LVal.isAgg, LVal.cells, LVal.unpk, LVal.copy, LVal.down, LVal.plain, LVal.settled, binL, binInt, binStr, unL, resL, resOne, res1, resAll, LVal.isTup, outL, LOp.quiet, LOp.acts, LOp.peeks, LOper.fix, calmOk, loadCalm, awayOk, dstFree, LVal.free, LVal.calm, LVal.calm1, LOp.opds, optL, RS.acquire, appendL, elemsL, bound, inRange, intL, loadL, storeL, setElems, setParts, fitsElem, lenL, isNilL, partL, chunks, hn, q1, q3, k2, k3, B1, B2, B3, B4, hb.pstay, hw]
    exact B2

set_option maxHeartbeats 1000000 in
theorem truth_eq (o0 : LObj) (p a : LVal) (r : List LObj) (bs : List UInt8) (b : Bool) (hB : Beside o0 r) (hb : Buf p a bs) (hl : bs.length ≤ 10000000) :
    ∃ a', callW D.T 21 [.ptr 1 0, .bool b] (o0 :: .cells 49 [p, a] :: r) = some (.tup [], some (o0 :: .cells 49 [.ptr 1 0, a'] :: r)) ∧ Buf (.ptr 1 0) a' (bs ++ truthB b) := by
  cases b with
  | true =>
    obtain ⟨a1, k1, b1⟩ := num_eq o0 p a r bs 1 (by omega) (by omega) hB hb hl
    have hw := (buf_within b1 (n := r.length + 1 + 1) (by omega)).2
    have e : numB 1 = [49, 44] := by rw [numB, if_neg (by omega), show (1 : Int).toNat = 1 from rfl, dec, dif_pos (by omega)]; rfl
    refine ⟨a1, ?_, by simpa [truthB, e] using b1⟩
    rw [callW_fn fn21]
    simp [D.l21, D.c21, runFun, LMode.isPure, LVal.pfs, LVal.pf, Go.L.initVars, codeW_seq, codeW_region, codeW_regionD, codeW_cond, codeW_ret, codeW_skip, codeW_exit, codeW_block, codeW_fence, thenW, outW, fenceOut, kill, LVal.withins, LVal.within, runOps, runOpsD, Go.L.step, stepD, semD, sem, RS.peek, RS.put, RS.give, RS.take, RS.takes, RS.takeElems, RS.takeParts, RS.peeks, RS.peekO, RS.setVar, RS.noPk, RS.settle, RS.alloc, callOut, LVal.arg, LVal.isAgg, LVal.cells, LVal.unpk, LVal.copy, LVal.down, LVal.plain, LVal.settled, binL, binInt, binStr, unL, resL, resOne, res1, resAll, LVal.isTup, outL, LOp.quiet, LOp.acts, LOp.peeks, LOper.fix, calmOk, loadCalm, awayOk, dstFree, LVal.free, LVal.calm, LVal.calm1, LOp.opds, optL, RS.acquire, appendL, elemsL, bound, inRange, intL, loadL, storeL, setElems, setParts, fitsElem, lenL, isNilL, partL, chunks, k1, hB.1, hB.2.1, hB.2.2.1, hB.2.2.2, hw]
    exact hB.2.1
  | false =>
    obtain ⟨a1, k1, b1⟩ := num_eq o0 p a r bs 0 (by omega) (by omega) hB hb hl
    have hw := (buf_within b1 (n := r.length + 1 + 1) (by omega)).2
    have e : numB 0 = [48, 44] := by rw [numB, if_neg (by omega), show (0 : Int).toNat = 0 from rfl, dec, dif_pos (by omega)]; rfl
    refine ⟨a1, ?_, by simpa [truthB, e] using b1⟩
    rw [callW_fn fn21]
    simp [D.l21, D.c21, runFun, LMode.isPure, LVal.pfs, LVal.pf, Go.L.initVars, codeW_seq, codeW_region, codeW_regionD, codeW_cond, codeW_ret, codeW_skip, codeW_exit, codeW_block, codeW_fence, thenW, outW, fenceOut, kill, LVal.withins, LVal.within, runOps, runOpsD, Go.L.step, stepD, semD, sem, RS.peek, RS.put, RS.give, RS.take, RS.takes, RS.takeElems, RS.takeParts, RS.peeks, RS.peekO, RS.setVar, RS.noPk, RS.settle, RS.alloc, callOut, LVal.arg, LVal.isAgg, LVal.cells, LVal.unpk, LVal.copy, LVal.down, LVal.plain, LVal.settled, binL, binInt, binStr, unL, resL, resOne, res1, resAll, LVal.isTup, outL, LOp.quiet, LOp.acts, LOp.peeks, LOper.fix, calmOk, loadCalm, awayOk, dstFree, LVal.free, LVal.calm, LVal.calm1, LOp.opds, optL, RS.acquire, appendL, elemsL, bound, inRange, intL, loadL, storeL, setElems, setParts, fitsElem, lenL, isNilL, partL, chunks, k1, hB.1, hB.2.1, hB.2.2.1, hB.2.2.2, hw]
    exact hB.2.1

set_option maxHeartbeats 1000000 in
theorem text_eq (o0 : LObj) (p a : LVal) (r : List LObj) (bs s : List UInt8) (hs : s.length ≤ 10000) (hB : Beside o0 r) (hb : Buf p a bs) (hl : bs.length ≤ 10000000) :
    ∃ a', callW D.T 22 [.ptr 1 0, .str s] (o0 :: .cells 49 [p, a] :: r) = some (.tup [], some (o0 :: .cells 49 [.ptr 1 0, a'] :: r)) ∧ Buf (.ptr 1 0) a' (bs ++ textB s) := by
  have hx := hexB_len s
  have q := bytes_eq false s hs
  obtain ⟨a2, k2, b2⟩ := wstr o0 p a.stay r bs (hexB s) hb.stay (by omega) (by omega)
  obtain ⟨a3, k3, b3⟩ := wbyte o0 (.ptr 1 0) a2 r _ 44 b2 (by simp; omega)
  have k3 : callW D.T 34 [.ptr 1 0, .int .u8 44] (o0 :: .cells 49 [.ptr 1 0, a2] :: r) = _ := k3
  have hw := (buf_within b3 (n := r.length + 1 + 1) (by omega)).2
  refine ⟨a3, ?_, by simpa [textB] using b3⟩
  rw [callW_fn fn22]
  simp [D.l22, D.c22, runFun, LMode.isPure, LVal.pfs, LVal.pf, Go.L.initVars, codeW_seq, codeW_region, codeW_regionD, codeW_cond, codeW_ret, codeW_skip, codeW_exit, codeW_block, codeW_fence, thenW, outW, fenceOut, kill, LVal.withins, LVal.within, runOps, runOpsD, Go.L.step, stepD, semD, sem, RS.peek, RS.put, RS.give, RS.take, RS.takes, RS.takeElems, RS.takeParts, RS.peeks, RS.peekO, RS.setVar, RS.noPk, RS.settle, RS.alloc, callOut, LVal.arg, LVal.isAgg, LVal.cells, LVal.unpk, LVal.copy, LVal.down, LVal.plain, LVal.settled, binL, binInt, binStr, unL, resL, resOne, res1, resAll, LVal.isTup, outL, LOp.quiet, LOp.acts, LOp.peeks, LOper.fix, calmOk, loadCalm, awayOk, dstFree, LVal.free, LVal.calm, LVal.calm1, LOp.opds, optL, RS.acquire, appendL, elemsL, bound, inRange, intL, loadL, storeL, setElems, setParts, fitsElem, lenL, isNilL, partL, chunks, q, k2, k3, hB.1, hB.2.1, hB.2.2.1, hB.2.2.2, hb.pstay, hw, maxBytes, show s.length ≤ 140737488355328 by omega]
  exact hB.2.1
end Go.Proofs.Ytbljgbojkifoiaa
