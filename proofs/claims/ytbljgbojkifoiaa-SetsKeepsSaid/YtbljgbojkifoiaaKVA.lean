/- Texts 0 1 2 3 4 5. -/
import Derived.Test.YtbljgbojkifoiaaKTbl
import Derived.Laws.Bits64
import Derived.Laws.BitsAllLaws
section
set_option linter.unusedVariables false
set_option linter.unusedSimpArgs false
namespace Go.L
open Go
@[simp] theorem own_undef : LVal.isOwn .undef = false := rfl
@[simp] theorem own_bool (b) : LVal.isOwn (.bool b) = false := rfl
@[simp] theorem own_int (k n) : LVal.isOwn (.int k n) = false := rfl
@[simp] theorem own_str (s) : LVal.isOwn (.str s) = false := rfl
@[simp] theorem own_ptr (i o) : LVal.isOwn (.ptr i o) = false := rfl
@[simp] theorem own_ref (v) : LVal.isOwn (.ref v) = false := rfl
@[simp] theorem own_nilptr : LVal.isOwn .nilptr = false := rfl
@[simp] theorem own_sh (b n xs) : LVal.isOwn (.vs b .sh n xs) = false := rfl
@[simp] theorem own_full (b n xs) : LVal.isOwn (.vs b .full n xs) = false := rfl
@[simp] theorem own_own (b e x n xs) : LVal.isOwn (.vs b (.own e x) n xs) = true := rfl
@[simp] theorem own_pk (b l n xs) : LVal.isOwn (.vs b (.pk l) n xs) = false := rfl
@[simp] theorem own_ms (a b c d e) : LVal.isOwn (.ms a b c d e) = false := rfl
@[simp] theorem own_map (i) : LVal.isOwn (.map i) = false := rfl
@[simp] theorem own_nilmap : LVal.isOwn .nilmap = false := rfl
@[simp] theorem own_func (f c) : LVal.isOwn (.func f c) = false := rfl
@[simp] theorem own_nilfunc : LVal.isOwn .nilfunc = false := rfl
@[simp] theorem own_iface (t v) : LVal.isOwn (.iface t v) = false := rfl
@[simp] theorem own_niliface : LVal.isOwn .niliface = false := rfl
@[simp] theorem own_agg (c) : LVal.isOwn (.agg c) = false := rfl
@[simp] theorem own_tup (c) : LVal.isOwn (.tup c) = false := rfl

@[simp] theorem lobj_dead (n) : LObj.within n .dead = true := rfl
@[simp] theorem lobj_cells (n t c) : LObj.within n (.cells t c) = LVal.withins n c := rfl
@[simp] theorem lobj_map (n es) : LObj.within n (.map es) = (LVal.withins n (es.map (·.1)) && LVal.withins n (es.map (·.2))) := rfl

@[simp] theorem stay_undef  : LVal.stay .undef = .undef := rfl
@[simp] theorem stay_bool (b) : LVal.stay (.bool b) = (.bool b) := rfl
@[simp] theorem stay_int (k n) : LVal.stay (.int k n) = (.int k n) := rfl
@[simp] theorem stay_str (s) : LVal.stay (.str s) = (.str s) := rfl
@[simp] theorem stay_ptr (i o) : LVal.stay (.ptr i o) = (.ptr i o) := rfl
@[simp] theorem stay_ref (v) : LVal.stay (.ref v) = (.ref v) := rfl
@[simp] theorem stay_nilptr  : LVal.stay .nilptr = .nilptr := rfl
@[simp] theorem stay_ms (a b c d e) : LVal.stay (.ms a b c d e) = (.ms a b c d e) := rfl
@[simp] theorem stay_map (i) : LVal.stay (.map i) = (.map i) := rfl
@[simp] theorem stay_nilmap  : LVal.stay .nilmap = .nilmap := rfl
@[simp] theorem stay_func (f c) : LVal.stay (.func f c) = (.func f c) := rfl
@[simp] theorem stay_nilfunc  : LVal.stay .nilfunc = .nilfunc := rfl
@[simp] theorem stay_iface (t v) : LVal.stay (.iface t v) = (.iface t v) := rfl
@[simp] theorem stay_niliface  : LVal.stay .niliface = .niliface := rfl
@[simp] theorem stay_agg (c) : LVal.stay (.agg c) = (.agg c) := rfl
@[simp] theorem stay_tup (c) : LVal.stay (.tup c) = (.tup c) := rfl
@[simp] theorem stay_sh (b n xs) : LVal.stay (.vs b .sh n xs) = .vs b .sh n xs := rfl
@[simp] theorem stay_full (b n xs) : LVal.stay (.vs b .full n xs) = .vs b .full n xs := rfl
@[simp] theorem stay_own (b e x n xs) : LVal.stay (.vs b (.own e x) n xs) = .vs b (.own e false) n xs := rfl
@[simp] theorem stay_pk (b l n xs) : LVal.stay (.vs b (.pk l) n xs) = .vs b (.pk l) n xs := rfl
@[simp] theorem settle_dead : LObj.settle .dead = .dead := rfl
@[simp] theorem settle_cells (t c) : LObj.settle (.cells t c) = .cells t (c.map LVal.stay) := rfl
@[simp] theorem settle_map (es) : LObj.settle (.map es) = .map es := rfl

theorem w64 {n : Int} (h0 : 0 ≤ n) (h : n < 18446744073709551616) : IntKind.u64.wrap n = n := by rw [IntKind.wrap_u64]; omega
theorem w8 {n : Int} (h0 : 0 ≤ n) (h : n < 256) : IntKind.u8.wrap n = n := by rw [IntKind.wrap_u8']; omega
theorem wi64 {n : Int} (h0 : -9223372036854775808 ≤ n) (h : n < 9223372036854775808) : IntKind.i64.wrap n = n := by
  simp only [IntKind.wrap, IntKind.bits, IntKind.signed]
  simp
  omega
theorem tmodN (n : Nat) (m : Int) : (n : Int).tmod m = (n : Int) % m := Int.tmod_eq_emod_of_nonneg (by omega)
theorem tdivN (n : Nat) (m : Int) : (n : Int).tdiv m = (n : Int) / m := Int.tdiv_eq_ediv_of_nonneg (by omega)
theorem bytesOf_bytesL : ∀ (l : List UInt8), bytesOfL (bytesL l) = some l
  | [] => rfl
  | b :: l => by
    have := bytesOf_bytesL l
    simp only [bytesL, List.map_cons, bytesOfL, byteL, byteOfL] at this ⊢
    rw [this]
    simp
theorem withins_bytesL (n : Nat) : ∀ (l : List UInt8), LVal.withins n (bytesL l) = true
  | [] => rfl
  | b :: l => withins_bytesL n l
theorem pfs_bytesL : ∀ (l : List UInt8), LVal.pfs (bytesL l) = true
  | [] => rfl
  | b :: l => pfs_bytesL l
theorem len_bytesL (l : List UInt8) : (bytesL l).length = l.length := by simp [bytesL]
theorem get_bytesL (l : List UInt8) (i : Nat) : (bytesL l)[i]? = (l[i]?).map byteL := by simp [bytesL]

section
variable {C : CallL} {im : TypeId → String → Option FuncId} {impl : TypeId → TypeId → Bool} {T : Tbl}
theorem runD_cons {o : LOper} {r : List LOper} {s s1 s2 : RS} (h1 : stepD C im impl s o = some s1) (h2 : runOpsD C im impl r s1 = some s2) : runOpsD C im impl (o :: r) s = some s2 := by
  simp only [runOpsD, h1, Option.bind_some, h2]
theorem runD_nil {s : RS} : runOpsD C im impl [] s = some s := rfl
theorem run_cons {o : LOper} {r : List LOper} {s s1 s2 : RS} (h1 : Go.L.step C im impl s o = some s1) (h2 : runOps C im impl r s1 = some s2) : runOps C im impl (o :: r) s = some s2 := by
  simp only [runOps, h1, Option.bind_some, h2]
theorem run_nil {s : RS} : runOps C im impl [] s = some s := rfl
theorem regD {n : Nat} {ops : List LOper} {s : RS} {v : List LVal} {st : List LObj} {rs : List LVal} (h : runOpsD (callW T) T.im T.impl ops { s.settle with rs := List.replicate n .undef } = some ⟨v, st, rs⟩) : codeW T (.region n ops true) s = some (.normal, ⟨v, st, []⟩) := by
  rw [codeW_regionD, h]; rfl
theorem regN {n : Nat} {ops : List LOper} {s : RS} {v : List LVal} {st : List LObj} {rs : List LVal} (h : runOps (callW T) T.im T.impl ops { s with rs := List.replicate n .undef } = some ⟨v, st, rs⟩) : codeW T (.region n ops false) s = some (.normal, ⟨v, st, []⟩) := by
  rw [codeW_region, h]; rfl
end
end Go.L
end
section
set_option linter.unusedVariables false
set_option linter.unusedSimpArgs false
namespace Go.Proofs.Ytbljgbojkifoiaa
open Go Go.L

/-- A digit. -/
def dig (n : Nat) : UInt8 := if n < 10 then UInt8.ofNat (48 + n) else UInt8.ofNat (87 + n)
/-- A number's digits by ten. -/
def dec (n : Nat) : List UInt8 := if h : n < 10 then [dig n] else dec (n / 10) ++ [dig (n % 10)]
termination_by n
decreasing_by omega

theorem fn46 : D.T.fns 46 = some (.fn D.l46) := rfl
theorem letter_eq (n : Nat) (h : n < 16) : callW D.T 46 [.int .u64 n] [] = some (.int .u8 (dig n).toNat, none) := by
  rw [callW_fn fn46]
  by_cases h10 : n < 10
  · have e1 : IntKind.u64.wrap (48 + (n : Int)) = 48 + n := w64 (by omega) (by omega)
    have e2 : IntKind.u8.wrap (48 + (n : Int)) = 48 + n := w8 (by omega) (by omega)
    have e3 : ((dig n).toNat : Int) = 48 + n := by simp [dig, h10]; omega
    have e4 : (n : Int) < 10 := by omega
    simp [D.l46, D.c46, runFun, LMode.isPure, LVal.pfs, LVal.pf, Go.L.initVars, codeW_seq, codeW_region, codeW_regionD, codeW_cond, codeW_ret, codeW_skip, codeW_exit, codeW_block, codeW_fence, thenW, outW, fenceOut, kill, LVal.withins, LVal.within, runOps, runOpsD, Go.L.step, stepD, semD, sem, RS.peek, RS.put, RS.give, RS.take, RS.takes, RS.takeElems, RS.takeParts, RS.peeks, RS.peekO, RS.setVar, RS.noPk, RS.settle, RS.alloc, callOut, LVal.arg, LVal.isAgg, LVal.cells, LVal.unpk, LVal.copy, LVal.down, LVal.plain, LVal.settled, binL, binInt, binStr, unL, resL, resOne, res1, resAll, LVal.isTup, outL, LOp.quiet, LOp.acts, LOp.peeks, LOper.fix, calmOk, loadCalm, awayOk, dstFree, LVal.free, LVal.calm, LVal.calm1, LOp.opds, optL, RS.acquire, appendL, elemsL, bound, inRange, intL, loadL, storeL, setElems, setParts, fitsElem, lenL, isNilL, partL, chunks, e1, e2, e3, e4]
  · have e1 : IntKind.u64.wrap (97 + (n : Int)) = 97 + n := w64 (by omega) (by omega)
    have e1' : IntKind.u64.wrap (97 + (n : Int) - 10) = 97 + n - 10 := w64 (by omega) (by omega)
    have e2 : IntKind.u8.wrap (97 + (n : Int) - 10) = 97 + n - 10 := w8 (by omega) (by omega)
    have e3 : ((dig n).toNat : Int) = 97 + n - 10 := by simp [dig, h10]; omega
    have e4 : ¬ (n : Int) < 10 := by omega
    simp [D.l46, D.c46, runFun, LMode.isPure, LVal.pfs, LVal.pf, Go.L.initVars, codeW_seq, codeW_region, codeW_regionD, codeW_cond, codeW_ret, codeW_skip, codeW_exit, codeW_block, codeW_fence, thenW, outW, fenceOut, kill, LVal.withins, LVal.within, runOps, runOpsD, Go.L.step, stepD, semD, sem, RS.peek, RS.put, RS.give, RS.take, RS.takes, RS.takeElems, RS.takeParts, RS.peeks, RS.peekO, RS.setVar, RS.noPk, RS.settle, RS.alloc, callOut, LVal.arg, LVal.isAgg, LVal.cells, LVal.unpk, LVal.copy, LVal.down, LVal.plain, LVal.settled, binL, binInt, binStr, unL, resL, resOne, res1, resAll, LVal.isTup, outL, LOp.quiet, LOp.acts, LOp.peeks, LOper.fix, calmOk, loadCalm, awayOk, dstFree, LVal.free, LVal.calm, LVal.calm1, LOp.opds, optL, RS.acquire, appendL, elemsL, bound, inRange, intL, loadL, storeL, setElems, setParts, fitsElem, lenL, isNilL, partL, chunks, e1, e1', e2, e3, e4]

/-- Bytes that are put together, as the loop holds them. -/
def Acc (a : LVal) (bs : List UInt8) : Prop :=
  (bs = [] ∧ a = .vs true .sh 0 []) ∨ (bs ≠ [] ∧ (a = .vs false .full 1 (bytesL bs) ∨ a = .vs false (.own 5 true) 1 (bytesL bs)))

set_option maxHeartbeats 2000000 in
theorem loop45 : ∀ (k n : Nat) (z : Int) (a : LVal) (bs : List UInt8) (v2 v4 : LVal), v2.isOwn = false → v4.isOwn = false → z = n → n < 10 ^ k → n < 18446744073709551616 → Acc a bs → bs.length + k ≤ 100 →
    ∃ vs, codeW D.T (.loop D.b45_0) { vars := [.int .u64 z, .int .u64 10, v2, a, v4], st := [], rs := [] } = some (.ret, { vars := vs, st := [], rs := [] }) ∧ vs[2]? = some (.str (dec n ++ bs))
  | k, n, z, a, bs, v2, v4, o2, o4, hz, hn, h64, ha, hl => by
    subst hz
    rw [codeW_loop]
    have e1 : (n : Int).tmod 10 = (n : Int) % 10 := Int.tmod_eq_emod_of_nonneg (by omega)
    have e2 : (n : Int).tdiv 10 = (n : Int) / 10 := Int.tdiv_eq_ediv_of_nonneg (by omega)
    have e3 : callW D.T 46 [.int .u64 ((n : Int) % 10)] [] = some (.int .u8 (dig (n % 10)).toNat, none) := by simpa using letter_eq (n % 10) (by omega)
    have e4 : IntKind.u64.wrap ((n : Int) / 10) = (n : Int) / 10 := w64 (by omega) (by omega)
    have e40 : IntKind.u64.wrap 0 = 0 := by rfl
    have e5 : bytesOfL (.int .u8 ((dig (n % 10)).toNat : Int) :: bytesL bs) = some (dig (n % 10) :: bs) := bytesOf_bytesL (dig (n % 10) :: bs)
    have e6 : LVal.withins 0 (bytesL bs) = true := withins_bytesL 0 bs
    have e7 : (bytesL bs).length = bs.length := by simp [bytesL]
    generalize hK : thenW (codeW D.T (.loop D.b45_0)) = K
    have hacc : ∀ (a : LVal) (bs : List UInt8), Acc a bs → a = .vs true .sh 0 [] ∧ bs = [] ∨ ∃ o, a = .vs false o 1 (bytesL bs) ∧ (o = .full ∨ o = .own 5 true) ∧ bytesL bs ≠ [] := by
      rintro a bs (⟨rfl, rfl⟩ | ⟨hne, rfl | rfl⟩)
      · exact .inl ⟨rfl, rfl⟩
      · exact .inr ⟨_, rfl, .inl rfl, fun h => hne (by simpa [bytesL] using h)⟩
      · exact .inr ⟨_, rfl, .inr rfl, fun h => hne (by simpa [bytesL] using h)⟩
    by_cases h10 : n < 10
    · have q : (n : Int) / 10 = 0 := by omega
      have hd : dec n = [dig (n % 10)] := by rw [dec, dif_pos h10, Nat.mod_eq_of_lt h10]
      rcases hacc a bs ha with ⟨rfl, rfl⟩ | ⟨o, rfl, rfl | rfl, hne'⟩
      · have e5' : bytesOfL [.int .u8 ((dig (n % 10)).toNat : Int)] = some [dig (n % 10)] := e5
        simp [D.b45_0, runFun, LMode.isPure, LVal.pfs, LVal.pf, Go.L.initVars, codeW_seq, codeW_region, codeW_regionD, codeW_cond, codeW_ret, codeW_skip, codeW_exit, codeW_block, codeW_fence, thenW, outW, fenceOut, kill, LVal.withins, LVal.within, runOps, runOpsD, Go.L.step, stepD, semD, sem, RS.peek, RS.put, RS.give, RS.take, RS.takes, RS.takeElems, RS.takeParts, RS.peeks, RS.peekO, RS.setVar, RS.noPk, RS.settle, RS.alloc, callOut, LVal.arg, LVal.isAgg, LVal.cells, LVal.unpk, LVal.copy, LVal.down, LVal.plain, LVal.settled, binL, binInt, binStr, unL, resL, resOne, res1, resAll, LVal.isTup, outL, LOp.quiet, LOp.acts, LOp.peeks, LOper.fix, calmOk, loadCalm, awayOk, dstFree, LVal.free, LVal.calm, LVal.calm1, LOp.opds, optL, RS.acquire, appendL, elemsL, bound, inRange, intL, loadL, storeL, setElems, setParts, fitsElem, lenL, isNilL, partL, chunks, o2, o4, e1, e2, e3, e4, e40, e5', e6, q]
        subst hK
        simp [hd]
      · simp [D.b45_0, runFun, LMode.isPure, LVal.pfs, LVal.pf, Go.L.initVars, codeW_seq, codeW_region, codeW_regionD, codeW_cond, codeW_ret, codeW_skip, codeW_exit, codeW_block, codeW_fence, thenW, outW, fenceOut, kill, LVal.withins, LVal.within, runOps, runOpsD, Go.L.step, stepD, semD, sem, RS.peek, RS.put, RS.give, RS.take, RS.takes, RS.takeElems, RS.takeParts, RS.peeks, RS.peekO, RS.setVar, RS.noPk, RS.settle, RS.alloc, callOut, LVal.arg, LVal.isAgg, LVal.cells, LVal.unpk, LVal.copy, LVal.down, LVal.plain, LVal.settled, binL, binInt, binStr, unL, resL, resOne, res1, resAll, LVal.isTup, outL, LOp.quiet, LOp.acts, LOp.peeks, LOper.fix, calmOk, loadCalm, awayOk, dstFree, LVal.free, LVal.calm, LVal.calm1, LOp.opds, optL, RS.acquire, appendL, elemsL, bound, inRange, intL, loadL, storeL, setElems, setParts, fitsElem, lenL, isNilL, partL, chunks, o2, o4, e1, e2, e3, e4, e40, e5, e6, e7, q, hne', maxBytes, show bs.length + 1 ≤ 140737488355328 by omega, show 1 + bs.length ≤ 140737488355328 by omega]
        subst hK
        simp [hd]
      · simp [D.b45_0, runFun, LMode.isPure, LVal.pfs, LVal.pf, Go.L.initVars, codeW_seq, codeW_region, codeW_regionD, codeW_cond, codeW_ret, codeW_skip, codeW_exit, codeW_block, codeW_fence, thenW, outW, fenceOut, kill, LVal.withins, LVal.within, runOps, runOpsD, Go.L.step, stepD, semD, sem, RS.peek, RS.put, RS.give, RS.take, RS.takes, RS.takeElems, RS.takeParts, RS.peeks, RS.peekO, RS.setVar, RS.noPk, RS.settle, RS.alloc, callOut, LVal.arg, LVal.isAgg, LVal.cells, LVal.unpk, LVal.copy, LVal.down, LVal.plain, LVal.settled, binL, binInt, binStr, unL, resL, resOne, res1, resAll, LVal.isTup, outL, LOp.quiet, LOp.acts, LOp.peeks, LOper.fix, calmOk, loadCalm, awayOk, dstFree, LVal.free, LVal.calm, LVal.calm1, LOp.opds, optL, RS.acquire, appendL, elemsL, bound, inRange, intL, loadL, storeL, setElems, setParts, fitsElem, lenL, isNilL, partL, chunks, o2, o4, e1, e2, e3, e4, e40, e5, e6, e7, q, hne', maxBytes, show bs.length + 1 ≤ 140737488355328 by omega, show 1 + bs.length ≤ 140737488355328 by omega]
        subst hK
        simp [hd]
    · have q : ¬ (n : Int) / 10 = 0 := by omega
      have hd : dec n ++ bs = dec (n / 10) ++ (dig (n % 10) :: bs) := by rw [dec, dif_neg h10]; simp
      obtain ⟨k, rfl⟩ : ∃ j, k = j + 1 := ⟨k - 1, by cases k with | zero => simp at hn; omega | succ => omega⟩
      have hn' : n / 10 < 10 ^ k := by rw [Nat.pow_succ] at hn; omega
      rcases hacc a bs ha with ⟨rfl, rfl⟩ | ⟨o, rfl, rfl | rfl, hne'⟩
      · simp [D.b45_0, runFun, LMode.isPure, LVal.pfs, LVal.pf, Go.L.initVars, codeW_seq, codeW_region, codeW_regionD, codeW_cond, codeW_ret, codeW_skip, codeW_exit, codeW_block, codeW_fence, thenW, outW, fenceOut, kill, LVal.withins, LVal.within, runOps, runOpsD, Go.L.step, stepD, semD, sem, RS.peek, RS.put, RS.give, RS.take, RS.takes, RS.takeElems, RS.takeParts, RS.peeks, RS.peekO, RS.setVar, RS.noPk, RS.settle, RS.alloc, callOut, LVal.arg, LVal.isAgg, LVal.cells, LVal.unpk, LVal.copy, LVal.down, LVal.plain, LVal.settled, binL, binInt, binStr, unL, resL, resOne, res1, resAll, LVal.isTup, outL, LOp.quiet, LOp.acts, LOp.peeks, LOper.fix, calmOk, loadCalm, awayOk, dstFree, LVal.free, LVal.calm, LVal.calm1, LOp.opds, optL, RS.acquire, appendL, elemsL, bound, inRange, intL, loadL, storeL, setElems, setParts, fitsElem, lenL, isNilL, partL, chunks, o2, o4, e1, e2, e3, e4, e6, q]
        subst hK
        simp only [thenW_normal]
        rw [List.append_nil] at hd
        rw [hd]
        exact loop45 k (n / 10) _ _ _ _ _ rfl rfl (by omega) hn' (by omega) (.inr ⟨by simp, .inl rfl⟩) (by simp at hl ⊢; omega)
      · simp [D.b45_0, runFun, LMode.isPure, LVal.pfs, LVal.pf, Go.L.initVars, codeW_seq, codeW_region, codeW_regionD, codeW_cond, codeW_ret, codeW_skip, codeW_exit, codeW_block, codeW_fence, thenW, outW, fenceOut, kill, LVal.withins, LVal.within, runOps, runOpsD, Go.L.step, stepD, semD, sem, RS.peek, RS.put, RS.give, RS.take, RS.takes, RS.takeElems, RS.takeParts, RS.peeks, RS.peekO, RS.setVar, RS.noPk, RS.settle, RS.alloc, callOut, LVal.arg, LVal.isAgg, LVal.cells, LVal.unpk, LVal.copy, LVal.down, LVal.plain, LVal.settled, binL, binInt, binStr, unL, resL, resOne, res1, resAll, LVal.isTup, outL, LOp.quiet, LOp.acts, LOp.peeks, LOper.fix, calmOk, loadCalm, awayOk, dstFree, LVal.free, LVal.calm, LVal.calm1, LOp.opds, optL, RS.acquire, appendL, elemsL, bound, inRange, intL, loadL, storeL, setElems, setParts, fitsElem, lenL, isNilL, partL, chunks, o2, o4, e1, e2, e3, e4, e6, e7, q, hne', maxBytes, show bs.length + 1 ≤ 140737488355328 by omega, show 1 + bs.length ≤ 140737488355328 by omega]
        subst hK
        simp only [thenW_normal, hd]
        exact loop45 k (n / 10) _ _ _ _ _ rfl rfl (by omega) hn' (by omega) (.inr ⟨by simp, .inr rfl⟩) (by simp at hl ⊢; omega)
      · simp [D.b45_0, runFun, LMode.isPure, LVal.pfs, LVal.pf, Go.L.initVars, codeW_seq, codeW_region, codeW_regionD, codeW_cond, codeW_ret, codeW_skip, codeW_exit, codeW_block, codeW_fence, thenW, outW, fenceOut, kill, LVal.withins, LVal.within, runOps, runOpsD, Go.L.step, stepD, semD, sem, RS.peek, RS.put, RS.give, RS.take, RS.takes, RS.takeElems, RS.takeParts, RS.peeks, RS.peekO, RS.setVar, RS.noPk, RS.settle, RS.alloc, callOut, LVal.arg, LVal.isAgg, LVal.cells, LVal.unpk, LVal.copy, LVal.down, LVal.plain, LVal.settled, binL, binInt, binStr, unL, resL, resOne, res1, resAll, LVal.isTup, outL, LOp.quiet, LOp.acts, LOp.peeks, LOper.fix, calmOk, loadCalm, awayOk, dstFree, LVal.free, LVal.calm, LVal.calm1, LOp.opds, optL, RS.acquire, appendL, elemsL, bound, inRange, intL, loadL, storeL, setElems, setParts, fitsElem, lenL, isNilL, partL, chunks, o2, o4, e1, e2, e3, e4, e6, e7, q, hne', maxBytes, show bs.length + 1 ≤ 140737488355328 by omega, show 1 + bs.length ≤ 140737488355328 by omega]
        subst hK
        simp only [thenW_normal, hd]
        exact loop45 k (n / 10) _ _ _ _ _ rfl rfl (by omega) hn' (by omega) (.inr ⟨by simp, .inr rfl⟩) (by simp at hl ⊢; omega)

theorem fn45 : D.T.fns 45 = some (.fn D.l45) := rfl
theorem fn36 : D.T.fns 36 = some (.fn D.l36) := rfl
theorem put_eq (n : Nat) (h : n < 18446744073709551616) : callW D.T 45 [.int .u64 n, .int .u64 10] [] = some (.str (dec n), none) := by
  obtain ⟨vs, h1, h2⟩ := loop45 20 n n (.vs true .sh 0 []) [] (.str []) .undef rfl rfl rfl (by omega) h (.inl ⟨rfl, rfl⟩) (by simp)
  rw [callW_fn fn45]
  simp [D.l45, D.c45, runFun, LMode.isPure, LVal.pfs, LVal.pf, Go.L.initVars, codeW_seq, codeW_region, codeW_regionD, codeW_cond, codeW_ret, codeW_skip, codeW_exit, codeW_block, codeW_fence, thenW, outW, fenceOut, kill, LVal.withins, LVal.within, runOps, runOpsD, Go.L.step, stepD, semD, sem, RS.peek, RS.put, RS.give, RS.take, RS.takes, RS.takeElems, RS.takeParts, RS.peeks, RS.peekO, RS.setVar, RS.noPk, RS.settle, RS.alloc, callOut, LVal.arg, LVal.isAgg, LVal.cells, LVal.unpk, LVal.copy, LVal.down, LVal.plain, LVal.settled, binL, binInt, binStr, unL, resL, resOne, res1, resAll, LVal.isTup, outL, LOp.quiet, LOp.acts, LOp.peeks, LOper.fix, calmOk, loadCalm, awayOk, dstFree, LVal.free, LVal.calm, LVal.calm1, LOp.opds, optL, RS.acquire, appendL, elemsL, bound, inRange, intL, loadL, storeL, setElems, setParts, fitsElem, lenL, isNilL, partL, chunks, h1, h2]
theorem dec_eq (n : Nat) (h : n < 18446744073709551616) : callW D.T 36 [.int .u64 n] [] = some (.str (dec n), none) := by
  rw [callW_fn fn36]
  simp [D.l36, D.c36, runFun, LMode.isPure, LVal.pfs, LVal.pf, Go.L.initVars, codeW_seq, codeW_region, codeW_regionD, codeW_cond, codeW_ret, codeW_skip, codeW_exit, codeW_block, codeW_fence, thenW, outW, fenceOut, kill, LVal.withins, LVal.within, runOps, runOpsD, Go.L.step, stepD, semD, sem, RS.peek, RS.put, RS.give, RS.take, RS.takes, RS.takeElems, RS.takeParts, RS.peeks, RS.peekO, RS.setVar, RS.noPk, RS.settle, RS.alloc, callOut, LVal.arg, LVal.isAgg, LVal.cells, LVal.unpk, LVal.copy, LVal.down, LVal.plain, LVal.settled, binL, binInt, binStr, unL, resL, resOne, res1, resAll, LVal.isTup, outL, LOp.quiet, LOp.acts, LOp.peeks, LOper.fix, calmOk, loadCalm, awayOk, dstFree, LVal.free, LVal.calm, LVal.calm1, LOp.opds, optL, RS.acquire, appendL, elemsL, bound, inRange, intL, loadL, storeL, setElems, setParts, fitsElem, lenL, isNilL, partL, chunks, put_eq n h]
end Go.Proofs.Ytbljgbojkifoiaa
end
section
set_option linter.unusedVariables false
set_option linter.unusedSimpArgs false
namespace Go.Proofs.Ytbljgbojkifoiaa
open Go Go.L

/-- Bytes in digits. -/
def hexB : List UInt8 → List UInt8
  | [] => []
  | b :: r => dig (b.toNat / 16) :: dig (b.toNat % 16) :: hexB r
theorem hexB_append : ∀ (a b : List UInt8), hexB (a ++ b) = hexB a ++ hexB b
  | [], b => rfl
  | x :: a, b => by simp [hexB, hexB_append a b]
theorem hexB_len : ∀ (a : List UInt8), (hexB a).length = 2 * a.length
  | [] => rfl
  | x :: a => by simp [hexB, hexB_len a]; omega

def Acc3 (a : LVal) (bs : List UInt8) : Prop := (bs = [] ∧ a = .vs false .full 1 []) ∨ a = .vs false (.own 5 true) 1 (bytesL bs)

set_option maxHeartbeats 2000000 in
theorem loop37 (b : Bool) (l : List UInt8) (hl : l.length ≤ 10000) : ∀ (j i : Nat) (z : Int) (a : LVal) (bs : List UInt8) (v0 v1 v3 v7 : LVal), v0.isOwn = false → v1.isOwn = false → v3.isOwn = false → v7.isOwn = false → z = i → i + j = l.length → Acc3 a bs → bs.length ≤ 2 * i →
    ∃ a' w0 w1 w3, codeW D.T (.loop D.b37_0) { vars := [v0, v1, a, v3, .vs b .sh 1 (bytesL l), .int .i64 l.length, .int .i64 z, v7], st := [], rs := [] } =
      some (.exit 0, { vars := [w0, w1, a', w3, .vs b .sh 1 (bytesL l), .int .i64 l.length, .int .i64 l.length, .bool false], st := [], rs := [] }) ∧ Acc3 a' (bs ++ hexB (l.drop i))
  | 0, i, z, a, bs, v0, v1, v3, v7, o0, o1, o3, o7, hz, hij, ha, hb => by
    subst hz
    have hi : i = l.length := by omega
    subst hi
    rw [codeW_loop]
    refine ⟨a, v0, v1, v3, ?_, by simpa [hexB] using ha⟩
    rcases ha with ⟨rfl, rfl⟩ | rfl <;> simp [D.b37_0, runFun, LMode.isPure, LVal.pfs, LVal.pf, Go.L.initVars, codeW_seq, codeW_region, codeW_regionD, codeW_cond, codeW_ret, codeW_skip, codeW_exit, codeW_block, codeW_fence, thenW, outW, fenceOut, kill, LVal.withins, LVal.within, runOps, runOpsD, Go.L.step, stepD, semD, sem, RS.peek, RS.put, RS.give, RS.take, RS.takes, RS.takeElems, RS.takeParts, RS.peeks, RS.peekO, RS.setVar, RS.noPk, RS.settle, RS.alloc, callOut, LVal.arg, LVal.isAgg, LVal.cells, LVal.unpk, LVal.copy, LVal.down, LVal.plain, LVal.settled, binL, binInt, binStr, unL, resL, resOne, res1, resAll, LVal.isTup, outL, LOp.quiet, LOp.acts, LOp.peeks, LOper.fix, calmOk, loadCalm, awayOk, dstFree, LVal.free, LVal.calm, LVal.calm1, LOp.opds, optL, RS.acquire, appendL, elemsL, bound, inRange, intL, loadL, storeL, setElems, setParts, fitsElem, lenL, isNilL, partL, chunks, o0, o1, o3, o7]
  | j + 1, i, z, a, bs, v0, v1, v3, v7, o0, o1, o3, o7, hz, hij, ha, hb => by
    subst hz
    have hi : i < l.length := by omega
    obtain ⟨x, hx⟩ : ∃ x, l[i]? = some x := ⟨_, List.getElem?_eq_getElem hi⟩
    have hd : l.drop i = x :: l.drop (i + 1) := by
      rw [List.drop_eq_getElem_cons hi]
      rw [List.getElem?_eq_getElem hi] at hx; injection hx with hx; rw [hx]
    have hgx : (bytesL l)[i]? = some (byteL x) := by rw [get_bytesL, hx]; rfl
    have hx256 : x.toNat < 256 := by have := x.toNat_lt; omega
    have hlen : (bytesL l).length = l.length := len_bytesL l
    have hlt : (i : Int) < (l.length : Int) := by omega
    have hcond : 0 ≤ (i : Int) ∧ (i : Int) < (l.length : Int) := by omega
    have e1 : (x.toNat : Int).tdiv 16 = (x.toNat : Int) / 16 := tdivN _ _
    have e2 : (x.toNat : Int).tmod 16 = (x.toNat : Int) % 16 := tmodN _ _
    have e3 : IntKind.u8.wrap ((x.toNat : Int) / 16) = (x.toNat : Int) / 16 := w8 (by omega) (by omega)
    have e4 : IntKind.u64.wrap ((x.toNat : Int) / 16) = (x.toNat : Int) / 16 := w64 (by omega) (by omega)
    have e5 : IntKind.u64.wrap ((x.toNat : Int) % 16) = (x.toNat : Int) % 16 := w64 (by omega) (by omega)
    have e6 : callW D.T 46 [.int .u64 ((x.toNat : Int) / 16)] [] = some (.int .u8 (dig (x.toNat / 16)).toNat, none) := by simpa using letter_eq (x.toNat / 16) (by omega)
    have e7 : callW D.T 46 [.int .u64 ((x.toNat : Int) % 16)] [] = some (.int .u8 (dig (x.toNat % 16)).toNat, none) := by simpa using letter_eq (x.toNat % 16) (by omega)
    have e8 : IntKind.i64.wrap ((i : Int) + 1) = (i : Int) + 1 := wi64 (by omega) (by omega)
    have e9 : LVal.withins 0 (bytesL l) = true := withins_bytesL 0 l
    have e10 : LVal.withins 0 (bytesL bs) = true := withins_bytesL 0 bs
    have e11 : (bytesL bs).length = bs.length := len_bytesL bs
    rw [codeW_loop]
    generalize hK : thenW (codeW D.T (.loop D.b37_0)) = K
    rcases ha with ⟨rfl, rfl⟩ | rfl
    · obtain ⟨a', w0, w1, w3, h1, h2⟩ := loop37 b l hl j (i + 1) ((i : Int) + 1) _ [dig (x.toNat / 16), dig (x.toNat % 16)] .undef .undef .undef .undef rfl rfl rfl rfl (by omega) (by omega) (.inr rfl) (by simp; omega)
      refine ⟨a', w0, w1, w3, ?_, by rw [hd]; simpa [hexB] using h2⟩
      simp [D.b37_0, runFun, LMode.isPure, LVal.pfs, LVal.pf, Go.L.initVars, codeW_seq, codeW_region, codeW_regionD, codeW_cond, codeW_ret, codeW_skip, codeW_exit, codeW_block, codeW_fence, thenW, outW, fenceOut, kill, LVal.withins, LVal.within, runOps, runOpsD, Go.L.step, stepD, semD, sem, RS.peek, RS.put, RS.give, RS.take, RS.takes, RS.takeElems, RS.takeParts, RS.peeks, RS.peekO, RS.setVar, RS.noPk, RS.settle, RS.alloc, callOut, LVal.arg, LVal.isAgg, LVal.cells, LVal.unpk, LVal.copy, LVal.down, LVal.plain, LVal.settled, binL, binInt, binStr, unL, resL, resOne, res1, resAll, LVal.isTup, outL, LOp.quiet, LOp.acts, LOp.peeks, LOper.fix, calmOk, loadCalm, awayOk, dstFree, LVal.free, LVal.calm, LVal.calm1, LOp.opds, optL, RS.acquire, appendL, elemsL, bound, inRange, intL, loadL, storeL, setElems, setParts, fitsElem, lenL, isNilL, partL, chunks, o0, o1, o3, o7, hlt, hcond, hlen, hgx, byteL, e1, e2, e3, e4, e5, e6, e7, e8, e9, maxBytes]
      subst hK
      exact h1
    · obtain ⟨a', w0, w1, w3, h1, h2⟩ := loop37 b l hl j (i + 1) ((i : Int) + 1) (.vs false (.own 5 true) 1 (bytesL (bs ++ [dig (x.toNat / 16), dig (x.toNat % 16)]))) (bs ++ [dig (x.toNat / 16), dig (x.toNat % 16)]) .undef .undef .undef .undef rfl rfl rfl rfl (by omega) (by omega) (.inr rfl) (by simp; omega)
      refine ⟨a', w0, w1, w3, ?_, by rw [hd]; simpa [hexB] using h2⟩
      simp [D.b37_0, runFun, LMode.isPure, LVal.pfs, LVal.pf, Go.L.initVars, codeW_seq, codeW_region, codeW_regionD, codeW_cond, codeW_ret, codeW_skip, codeW_exit, codeW_block, codeW_fence, thenW, outW, fenceOut, kill, LVal.withins, LVal.within, runOps, runOpsD, Go.L.step, stepD, semD, sem, RS.peek, RS.put, RS.give, RS.take, RS.takes, RS.takeElems, RS.takeParts, RS.peeks, RS.peekO, RS.setVar, RS.noPk, RS.settle, RS.alloc, callOut, LVal.arg, LVal.isAgg, LVal.cells, LVal.unpk, LVal.copy, LVal.down, LVal.plain, LVal.settled, binL, binInt, binStr, unL, resL, resOne, res1, resAll, LVal.isTup, outL, LOp.quiet, LOp.acts, LOp.peeks, LOper.fix, calmOk, loadCalm, awayOk, dstFree, LVal.free, LVal.calm, LVal.calm1, LOp.opds, optL, RS.acquire, appendL, elemsL, bound, inRange, intL, loadL, storeL, setElems, setParts, fitsElem, lenL, isNilL, partL, chunks, o0, o1, o3, o7, hlt, hcond, hlen, hgx, byteL, e1, e2, e3, e4, e5, e6, e7, e8, e9, e10, e11, maxBytes, show bs.length + 2 ≤ 140737488355328 by omega]
      subst hK
      simpa [bytesL, byteL] using h1

theorem fn37 : D.T.fns 37 = some (.fn D.l37) := rfl
set_option maxHeartbeats 2000000 in
theorem bytes_eq (b : Bool) (l : List UInt8) (hl : l.length ≤ 10000) : callW D.T 37 [.vs b .sh 1 (bytesL l)] [] = some (.str (hexB l), none) := by
  rw [callW_fn fn37]
  have ez : IntKind.i64.wrap 0 = 0 := by rfl
  by_cases h0 : l = []
  · subst h0
    simp [D.l37, D.c37, runFun, LMode.isPure, LVal.pfs, LVal.pf, Go.L.initVars, codeW_seq, codeW_region, codeW_regionD, codeW_cond, codeW_ret, codeW_skip, codeW_exit, codeW_block, codeW_fence, thenW, outW, fenceOut, kill, LVal.withins, LVal.within, runOps, runOpsD, Go.L.step, stepD, semD, sem, RS.peek, RS.put, RS.give, RS.take, RS.takes, RS.takeElems, RS.takeParts, RS.peeks, RS.peekO, RS.setVar, RS.noPk, RS.settle, RS.alloc, callOut, LVal.arg, LVal.isAgg, LVal.cells, LVal.unpk, LVal.copy, LVal.down, LVal.plain, LVal.settled, binL, binInt, binStr, unL, resL, resOne, res1, resAll, LVal.isTup, outL, LOp.quiet, LOp.acts, LOp.peeks, LOper.fix, calmOk, loadCalm, awayOk, dstFree, LVal.free, LVal.calm, LVal.calm1, LOp.opds, optL, RS.acquire, appendL, elemsL, bound, inRange, intL, loadL, storeL, setElems, setParts, fitsElem, lenL, isNilL, partL, chunks, codeW_loop, D.b37_0, hexB, bytesL, bytesOfL, maxBytes, ez]
  · have e0 : IntKind.i64.wrap (2 * (l.length : Int)) = 2 * (l.length : Int) := wi64 (by omega) (by omega)
    have hlen : (bytesL l).length = l.length := len_bytesL l
    have hpos : 0 < l.length := List.length_pos_iff.2 h0
    have hw : LVal.withins 0 (bytesL (hexB l)) = true := withins_bytesL 0 _
    have hb := bytesOf_bytesL (hexB l)
    have hne : ¬ (0 : Int) = 2 * (l.length : Int) := by omega
    have hle : 2 * (l.length : Int) ≤ 140737488355328 := by omega
    have hge : 0 ≤ 2 * (l.length : Int) := by omega
    obtain ⟨a', w0, w1, w3, h1, h2⟩ := loop37 b l hl l.length 0 0 (.vs false (.own 5 true) 1 []) [] (.vs b .sh 1 (bytesL l)) (.str []) .undef .undef rfl rfl rfl rfl rfl (by omega) (.inr rfl) (by simp)
    simp only [List.nil_append, List.drop_zero] at h2
    rcases h2 with ⟨hh, rfl⟩ | rfl
    · exfalso
      have := hexB_len l
      rw [hh] at this
      simp at this
      omega
    · simp [D.l37, D.c37, runFun, LMode.isPure, LVal.pfs, LVal.pf, Go.L.initVars, codeW_seq, codeW_region, codeW_regionD, codeW_cond, codeW_ret, codeW_skip, codeW_exit, codeW_block, codeW_fence, thenW, outW, fenceOut, kill, LVal.withins, LVal.within, runOps, runOpsD, Go.L.step, stepD, semD, sem, RS.peek, RS.put, RS.give, RS.take, RS.takes, RS.takeElems, RS.takeParts, RS.peeks, RS.peekO, RS.setVar, RS.noPk, RS.settle, RS.alloc, callOut, LVal.arg, LVal.isAgg, LVal.cells, LVal.unpk, LVal.copy, LVal.down, LVal.plain, LVal.settled, binL, binInt, binStr, unL, resL, resOne, res1, resAll, LVal.isTup, outL, LOp.quiet, LOp.acts, LOp.peeks, LOper.fix, calmOk, loadCalm, awayOk, dstFree, LVal.free, LVal.calm, LVal.calm1, LOp.opds, optL, RS.acquire, appendL, elemsL, bound, inRange, intL, loadL, storeL, setElems, setParts, fitsElem, lenL, isNilL, partL, chunks, e0, hlen, h1, hw, hb, hne, hle, hge, maxBytes]
end Go.Proofs.Ytbljgbojkifoiaa
end
section
set_option linter.unusedVariables false
set_option linter.unusedSimpArgs false
namespace Go.Proofs.Ytbljgbojkifoiaa
open Go Go.L

theorem fn44 : D.T.fns 44 = some (.hook D.hCopy) := rfl
theorem fn34 : D.T.fns 34 = some (.fn D.l34) := rfl
theorem fn35 : D.T.fns 35 = some (.fn D.l35) := rfl
theorem fn20 : D.T.fns 20 = some (.fn D.l20) := rfl
theorem fn21 : D.T.fns 21 = some (.fn D.l21) := rfl
theorem fn22 : D.T.fns 22 = some (.fn D.l22) := rfl

/-- What a builder holds. -/
def Buf (p a : LVal) (bs : List UInt8) : Prop :=
  (p = .nilptr ∨ p = .ptr 1 0) ∧ ((bs = [] ∧ a = .vs true .sh 0 []) ∨ ∃ x, a = .vs false (.own 5 x) 1 (bytesL bs))

theorem copy1 (o0 : LObj) (p a : LVal) (r : List LObj) (hp : p = .nilptr ∨ p = .ptr 1 0) : callW D.T 44 [.ptr 1 0] (o0 :: .cells 49 [p, a] :: r) = some (.tup [], some (o0 :: .cells 49 [.ptr 1 0, a] :: r)) := by
  rw [callW_hook fn44]
  rcases hp with rfl | rfl <;> simp [D.hCopy, D.isB]

set_option maxHeartbeats 1000000 in
theorem wbyte (o0 : LObj) (p a : LVal) (r : List LObj) (bs : List UInt8) (c : UInt8) (hb : Buf p a bs) (hl : bs.length ≤ 100000000) :
    ∃ a', callW D.T 34 [.ptr 1 0, .int .u8 c.toNat] (o0 :: .cells 49 [p, a] :: r) = some (.niliface, some (o0 :: .cells 49 [.ptr 1 0, a'] :: r)) ∧ Buf (.ptr 1 0) a' (bs ++ [c]) := by
  obtain ⟨hp, ⟨rfl, rfl⟩ | ⟨x, rfl⟩⟩ := hb
  · refine ⟨.vs false (.own 5 true) 1 [.int .u8 c.toNat], ?_, .inr rfl, .inr ⟨true, rfl⟩⟩
    rw [callW_fn fn34]
    simp [D.l34, D.c34, runFun, LMode.isPure, LVal.pfs, LVal.pf, Go.L.initVars, codeW_seq, codeW_region, codeW_regionD, codeW_cond, codeW_ret, codeW_skip, codeW_exit, codeW_block, codeW_fence, thenW, outW, fenceOut, kill, LVal.withins, LVal.within, runOps, runOpsD, Go.L.step, stepD, semD, sem, RS.peek, RS.put, RS.give, RS.take, RS.takes, RS.takeElems, RS.takeParts, RS.peeks, RS.peekO, RS.setVar, RS.noPk, RS.settle, RS.alloc, callOut, LVal.arg, LVal.isAgg, LVal.cells, LVal.unpk, LVal.copy, LVal.down, LVal.plain, LVal.settled, binL, binInt, binStr, unL, resL, resOne, res1, resAll, LVal.isTup, outL, LOp.quiet, LOp.acts, LOp.peeks, LOper.fix, calmOk, loadCalm, awayOk, dstFree, LVal.free, LVal.calm, LVal.calm1, LOp.opds, optL, RS.acquire, appendL, elemsL, bound, inRange, intL, loadL, storeL, setElems, setParts, fitsElem, lenL, isNilL, partL, chunks, copy1 _ _ _ _ hp, maxBytes]
  · have e11 : (bytesL bs).length = bs.length := len_bytesL bs
    refine ⟨.vs false (.own 5 false) 1 (bytesL (bs ++ [c])), ?_, .inr rfl, .inr ⟨false, rfl⟩⟩
    rw [callW_fn fn34]
    simp [D.l34, D.c34, runFun, LMode.isPure, LVal.pfs, LVal.pf, Go.L.initVars, codeW_seq, codeW_region, codeW_regionD, codeW_cond, codeW_ret, codeW_skip, codeW_exit, codeW_block, codeW_fence, thenW, outW, fenceOut, kill, LVal.withins, LVal.within, runOps, runOpsD, Go.L.step, stepD, semD, sem, RS.peek, RS.put, RS.give, RS.take, RS.takes, RS.takeElems, RS.takeParts, RS.peeks, RS.peekO, RS.setVar, RS.noPk, RS.settle, RS.alloc, callOut, LVal.arg, LVal.isAgg, LVal.cells, LVal.unpk, LVal.copy, LVal.down, LVal.plain, LVal.settled, binL, binInt, binStr, unL, resL, resOne, res1, resAll, LVal.isTup, outL, LOp.quiet, LOp.acts, LOp.peeks, LOper.fix, calmOk, loadCalm, awayOk, dstFree, LVal.free, LVal.calm, LVal.calm1, LOp.opds, optL, RS.acquire, appendL, elemsL, bound, inRange, intL, loadL, storeL, setElems, setParts, fitsElem, lenL, isNilL, partL, chunks, copy1 _ _ _ _ hp, maxBytes, e11, show bs.length + 1 ≤ 140737488355328 by omega]
    simp [bytesL, byteL]

set_option maxHeartbeats 1000000 in
theorem wstr (o0 : LObj) (p a : LVal) (r : List LObj) (bs s : List UInt8) (hb : Buf p a bs) (hl : bs.length ≤ 100000000) (hs : s.length ≤ 100000000) :
    ∃ a', callW D.T 35 [.ptr 1 0, .str s] (o0 :: .cells 49 [p, a] :: r) = some (.tup [.int .i64 s.length, .niliface], some (o0 :: .cells 49 [.ptr 1 0, a'] :: r)) ∧ Buf (.ptr 1 0) a' (bs ++ s) := by
  have e12 : (bytesL s).length = s.length := len_bytesL s
  have e13 : bytesL s = [] ↔ s = [] := by simp [bytesL]
  obtain ⟨hp, ⟨rfl, rfl⟩ | ⟨x, rfl⟩⟩ := hb
  · by_cases h0 : s = []
    · subst h0
      refine ⟨.vs true .sh 0 [], ?_, .inr rfl, .inl ⟨rfl, rfl⟩⟩
      rw [callW_fn fn35]
      simp [D.l35, D.c35, runFun, LMode.isPure, LVal.pfs, LVal.pf, Go.L.initVars, codeW_seq, codeW_region, codeW_regionD, codeW_cond, codeW_ret, codeW_skip, codeW_exit, codeW_block, codeW_fence, thenW, outW, fenceOut, kill, LVal.withins, LVal.within, runOps, runOpsD, Go.L.step, stepD, semD, sem, RS.peek, RS.put, RS.give, RS.take, RS.takes, RS.takeElems, RS.takeParts, RS.peeks, RS.peekO, RS.setVar, RS.noPk, RS.settle, RS.alloc, callOut, LVal.arg, LVal.isAgg, LVal.cells, LVal.unpk, LVal.copy, LVal.down, LVal.plain, LVal.settled, binL, binInt, binStr, unL, resL, resOne, res1, resAll, LVal.isTup, outL, LOp.quiet, LOp.acts, LOp.peeks, LOper.fix, calmOk, loadCalm, awayOk, dstFree, LVal.free, LVal.calm, LVal.calm1, LOp.opds, optL, RS.acquire, appendL, elemsL, bound, inRange, intL, loadL, storeL, setElems, setParts, fitsElem, lenL, isNilL, partL, chunks, copy1 _ _ _ _ hp, maxBytes, bytesL]
    · refine ⟨.vs false (.own 5 true) 1 (bytesL s), ?_, .inr rfl, .inr ⟨true, rfl⟩⟩
      rw [callW_fn fn35]
      simp [D.l35, D.c35, runFun, LMode.isPure, LVal.pfs, LVal.pf, Go.L.initVars, codeW_seq, codeW_region, codeW_regionD, codeW_cond, codeW_ret, codeW_skip, codeW_exit, codeW_block, codeW_fence, thenW, outW, fenceOut, kill, LVal.withins, LVal.within, runOps, runOpsD, Go.L.step, stepD, semD, sem, RS.peek, RS.put, RS.give, RS.take, RS.takes, RS.takeElems, RS.takeParts, RS.peeks, RS.peekO, RS.setVar, RS.noPk, RS.settle, RS.alloc, callOut, LVal.arg, LVal.isAgg, LVal.cells, LVal.unpk, LVal.copy, LVal.down, LVal.plain, LVal.settled, binL, binInt, binStr, unL, resL, resOne, res1, resAll, LVal.isTup, outL, LOp.quiet, LOp.acts, LOp.peeks, LOper.fix, calmOk, loadCalm, awayOk, dstFree, LVal.free, LVal.calm, LVal.calm1, LOp.opds, optL, RS.acquire, appendL, elemsL, bound, inRange, intL, loadL, storeL, setElems, setParts, fitsElem, lenL, isNilL, partL, chunks, copy1 _ _ _ _ hp, maxBytes, e12, e13, h0, show s.length ≤ 140737488355328 by omega]
  · have e11 : (bytesL bs).length = bs.length := len_bytesL bs
    refine ⟨.vs false (.own 5 false) 1 (bytesL (bs ++ s)), ?_, .inr rfl, .inr ⟨false, rfl⟩⟩
    rw [callW_fn fn35]
    by_cases h0 : s = []
    · subst h0
      simp [D.l35, D.c35, runFun, LMode.isPure, LVal.pfs, LVal.pf, Go.L.initVars, codeW_seq, codeW_region, codeW_regionD, codeW_cond, codeW_ret, codeW_skip, codeW_exit, codeW_block, codeW_fence, thenW, outW, fenceOut, kill, LVal.withins, LVal.within, runOps, runOpsD, Go.L.step, stepD, semD, sem, RS.peek, RS.put, RS.give, RS.take, RS.takes, RS.takeElems, RS.takeParts, RS.peeks, RS.peekO, RS.setVar, RS.noPk, RS.settle, RS.alloc, callOut, LVal.arg, LVal.isAgg, LVal.cells, LVal.unpk, LVal.copy, LVal.down, LVal.plain, LVal.settled, binL, binInt, binStr, unL, resL, resOne, res1, resAll, LVal.isTup, outL, LOp.quiet, LOp.acts, LOp.peeks, LOper.fix, calmOk, loadCalm, awayOk, dstFree, LVal.free, LVal.calm, LVal.calm1, LOp.opds, optL, RS.acquire, appendL, elemsL, bound, inRange, intL, loadL, storeL, setElems, setParts, fitsElem, lenL, isNilL, partL, chunks, copy1 _ _ _ _ hp, maxBytes, bytesL]
    · simp [D.l35, D.c35, runFun, LMode.isPure, LVal.pfs, LVal.pf, Go.L.initVars, codeW_seq, codeW_region, codeW_regionD, codeW_cond, codeW_ret, codeW_skip, codeW_exit, codeW_block, codeW_fence, thenW, outW, fenceOut, kill, LVal.withins, LVal.within, runOps, runOpsD, Go.L.step, stepD, semD, sem, RS.peek, RS.put, RS.give, RS.take, RS.takes, RS.takeElems, RS.takeParts, RS.peeks, RS.peekO, RS.setVar, RS.noPk, RS.settle, RS.alloc, callOut, LVal.arg, LVal.isAgg, LVal.cells, LVal.unpk, LVal.copy, LVal.down, LVal.plain, LVal.settled, binL, binInt, binStr, unL, resL, resOne, res1, resAll, LVal.isTup, outL, LOp.quiet, LOp.acts, LOp.peeks, LOper.fix, calmOk, loadCalm, awayOk, dstFree, LVal.free, LVal.calm, LVal.calm1, LOp.opds, optL, RS.acquire, appendL, elemsL, bound, inRange, intL, loadL, storeL, setElems, setParts, fitsElem, lenL, isNilL, partL, chunks, copy1 _ _ _ _ hp, maxBytes, e11, e12, e13, h0, show bs.length + s.length ≤ 140737488355328 by omega]
      simp [bytesL, byteL]

/-- A number, and its comma. -/
def numB (n : Int) : List UInt8 := if n < 0 then 45 :: (dec n.natAbs ++ [44]) else dec n.toNat ++ [44]
def truthB (b : Bool) : List UInt8 := if b then [49, 44] else [48, 44]
def textB (s : List UInt8) : List UInt8 := hexB s ++ [44]

/-- The objects beside the builder. -/
def Beside (o0 : LObj) (r : List LObj) : Prop := o0.within (r.length + 1 + 1) = true ∧ (∀ x ∈ r, LObj.within (r.length + 1 + 1) x = true) ∧ o0.settle = o0 ∧ r.map LObj.settle = r

theorem dec_len : ∀ (k n : Nat), n < 10 ^ (k + 1) → (dec n).length ≤ k + 1
  | 0, n, h => by
    rw [dec, dif_pos (by simpa using h)]; simp
  | k + 1, n, h => by
    rw [dec]
    split
    · simp
    · have := dec_len k (n / 10) (by rw [Nat.pow_succ] at h; omega)
      simp; omega

theorem Buf.stay {p a : LVal} {bs : List UInt8} (h : Buf p a bs) : Buf p a.stay bs := by
  obtain ⟨hp, ⟨h1, rfl⟩ | ⟨x, rfl⟩⟩ := h
  · exact ⟨hp, .inl ⟨h1, rfl⟩⟩
  · exact ⟨hp, .inr ⟨false, rfl⟩⟩
theorem Buf.pstay {p a : LVal} {bs : List UInt8} (h : Buf p a bs) : p.stay = p := by
  rcases h.1 with rfl | rfl <;> rfl

theorem buf_within {p a : LVal} {bs : List UInt8} {n : Nat} (h : Buf p a bs) (hn : 1 < n) : p.within n = true ∧ a.within n = true := by
  obtain ⟨hp, ha⟩ := h
  constructor
  · rcases hp with rfl | rfl
    · rfl
    · simpa [LVal.within] using hn
  · rcases ha with ⟨_, rfl⟩ | ⟨x, rfl⟩ <;> rfl

set_option maxHeartbeats 1000000 in
theorem num_eq (o0 : LObj) (p a : LVal) (r : List LObj) (bs : List UInt8) (n : Int) (h1 : -9223372036854775808 ≤ n) (h2 : n < 9223372036854775808) (hB : Beside o0 r) (hb : Buf p a bs) (hl : bs.length ≤ 10000000) :
    ∃ a', callW D.T 20 [.ptr 1 0, .int .i64 n] (o0 :: .cells 49 [p, a] :: r) = some (.tup [], some (o0 :: .cells 49 [.ptr 1 0, a'] :: r)) ∧ Buf (.ptr 1 0) a' (bs ++ numB n) := by
  obtain ⟨B1, B2, B3, B4⟩ := hB
  have hd20 : ∀ m, m < 18446744073709551616 → (dec m).length ≤ 20 := fun m hm => dec_len 19 m (by omega)
  by_cases hn : n < 0
  · have q1 : IntKind.u64.wrap n = n + 18446744073709551616 := by rw [IntKind.wrap_u64]; omega
    have q2 : IntKind.u64.wrap (0 - (n + 18446744073709551616)) = (n.natAbs : Int) := by rw [IntKind.wrap_u64]; omega
    have hm : n.natAbs < 18446744073709551616 := by omega
    have q3 := dec_eq n.natAbs hm
    obtain ⟨a1, k1, b1⟩ := wbyte o0 p a r bs 45 hb (by omega)
    obtain ⟨a2, k2, b2⟩ := wstr o0 (.ptr 1 0) a1.stay r (bs ++ [45]) (dec n.natAbs) b1.stay (by simp; omega) (by have := hd20 _ hm; omega)
    obtain ⟨a3, k3, b3⟩ := wbyte o0 (.ptr 1 0) a2 r _ 44 b2 (by have := hd20 _ hm; simp; omega)
    have k1 : callW D.T 34 [.ptr 1 0, .int .u8 45] (o0 :: .cells 49 [p, a] :: r) = _ := k1
    have k3 : callW D.T 34 [.ptr 1 0, .int .u8 44] (o0 :: .cells 49 [.ptr 1 0, a2] :: r) = _ := k3
    have hw := (buf_within b3 (n := r.length + 1 + 1) (by omega)).2
    refine ⟨a3, ?_, by simpa [numB, hn] using b3⟩
    rw [callW_fn fn20]
    simp only [Int.zero_sub] at q2
    simp [D.l20, D.c20, runFun, LMode.isPure, LVal.pfs, LVal.pf, Go.L.initVars, codeW_seq, codeW_region, codeW_regionD, codeW_cond, codeW_ret, codeW_skip, codeW_exit, codeW_block, codeW_fence, thenW, outW, fenceOut, kill, LVal.withins, LVal.within, runOps, runOpsD, Go.L.step, stepD, semD, sem, RS.peek, RS.put, RS.give, RS.take, RS.takes, RS.takeElems, RS.takeParts, RS.peeks, RS.peekO, RS.setVar, RS.noPk, RS.settle, RS.alloc, callOut, LVal.arg, LVal.isAgg, LVal.cells, LVal.unpk, LVal.copy, LVal.down, LVal.plain, LVal.settled, binL, binInt, binStr, unL, resL, resOne, res1, resAll, LVal.isTup, outL, LOp.quiet, LOp.acts, LOp.peeks, LOper.fix, calmOk, loadCalm, awayOk, dstFree, LVal.free, LVal.calm, LVal.calm1, LOp.opds, optL, RS.acquire, appendL, elemsL, bound, inRange, intL, loadL, storeL, setElems, setParts, fitsElem, lenL, isNilL, partL, chunks, hn, q1, q2, q3, k1, k2, k3, B1, B2, B3, B4, hw]
    exact B2
  · have q1 : IntKind.u64.wrap n = (n.toNat : Int) := by rw [IntKind.wrap_u64]; omega
    have hm : n.toNat < 18446744073709551616 := by omega
    have q3 := dec_eq n.toNat hm
    obtain ⟨a2, k2, b2⟩ := wstr o0 p a.stay r bs (dec n.toNat) hb.stay (by omega) (by have := hd20 _ hm; omega)
    obtain ⟨a3, k3, b3⟩ := wbyte o0 (.ptr 1 0) a2 r _ 44 b2 (by have := hd20 _ hm; simp; omega)
    have k3 : callW D.T 34 [.ptr 1 0, .int .u8 44] (o0 :: .cells 49 [.ptr 1 0, a2] :: r) = _ := k3
    have hw := (buf_within b3 (n := r.length + 1 + 1) (by omega)).2
    have hw2 : p.within (r.length + 1 + 1) = true := (buf_within hb (by omega)).1
    refine ⟨a3, ?_, by simpa [numB, hn] using b3⟩
    rw [callW_fn fn20]
    generalize hz : (n.toNat : Int) = z at q1 q3
    simp [D.l20, D.c20, runFun, LMode.isPure, LVal.pfs, LVal.pf, Go.L.initVars, codeW_seq, codeW_region, codeW_regionD, codeW_cond, codeW_ret, codeW_skip, codeW_exit, codeW_block, codeW_fence, thenW, outW, fenceOut, kill, LVal.withins, LVal.within, runOps, runOpsD, Go.L.step, stepD, semD, sem, RS.peek, RS.put, RS.give, RS.take, RS.takes, RS.takeElems, RS.takeParts, RS.peeks, RS.peekO, RS.setVar, RS.noPk, RS.settle, RS.alloc, callOut, LVal.arg, LVal.isAgg, LVal.cells, LVal.unpk, LVal.copy, LVal.down, LVal.plain, LVal.settled, binL, binInt, binStr, unL, resL, resOne, res1, resAll, LVal.isTup, outL, LOp.quiet, LOp.acts, LOp.peeks, LOper.fix, calmOk, loadCalm, awayOk, dstFree, LVal.free, LVal.calm, LVal.calm1, LOp.opds, optL, RS.acquire, appendL, elemsL, bound, inRange, intL, loadL, storeL, setElems, setParts, fitsElem, lenL, isNilL, partL, chunks, hn, q1, q3, k2, k3, B1, B2, B3, B4, hb.pstay, hw]
    exact B2

set_option maxHeartbeats 1000000 in
theorem truth_eq (o0 : LObj) (p a : LVal) (r : List LObj) (bs : List UInt8) (b : Bool) (hB : Beside o0 r) (hb : Buf p a bs) (hl : bs.length ≤ 10000000) :
    ∃ a', callW D.T 21 [.ptr 1 0, .bool b] (o0 :: .cells 49 [p, a] :: r) = some (.tup [], some (o0 :: .cells 49 [.ptr 1 0, a'] :: r)) ∧ Buf (.ptr 1 0) a' (bs ++ truthB b) := by
  cases b with
  | true =>
    obtain ⟨a1, k1, b1⟩ := num_eq o0 p a r bs 1 (by omega) (by omega) hB hb hl
    have hw := (buf_within b1 (n := r.length + 1 + 1) (by omega)).2
    have e : numB 1 = [49, 44] := by rw [numB, if_neg (by omega), show (1 : Int).toNat = 1 from rfl, dec, dif_pos (by omega)]; rfl
    refine ⟨a1, ?_, by simpa [truthB, e] using b1⟩
    rw [callW_fn fn21]
    simp [D.l21, D.c21, runFun, LMode.isPure, LVal.pfs, LVal.pf, Go.L.initVars, codeW_seq, codeW_region, codeW_regionD, codeW_cond, codeW_ret, codeW_skip, codeW_exit, codeW_block, codeW_fence, thenW, outW, fenceOut, kill, LVal.withins, LVal.within, runOps, runOpsD, Go.L.step, stepD, semD, sem, RS.peek, RS.put, RS.give, RS.take, RS.takes, RS.takeElems, RS.takeParts, RS.peeks, RS.peekO, RS.setVar, RS.noPk, RS.settle, RS.alloc, callOut, LVal.arg, LVal.isAgg, LVal.cells, LVal.unpk, LVal.copy, LVal.down, LVal.plain, LVal.settled, binL, binInt, binStr, unL, resL, resOne, res1, resAll, LVal.isTup, outL, LOp.quiet, LOp.acts, LOp.peeks, LOper.fix, calmOk, loadCalm, awayOk, dstFree, LVal.free, LVal.calm, LVal.calm1, LOp.opds, optL, RS.acquire, appendL, elemsL, bound, inRange, intL, loadL, storeL, setElems, setParts, fitsElem, lenL, isNilL, partL, chunks, k1, hB.1, hB.2.1, hB.2.2.1, hB.2.2.2, hw]
    exact hB.2.1
  | false =>
    obtain ⟨a1, k1, b1⟩ := num_eq o0 p a r bs 0 (by omega) (by omega) hB hb hl
    have hw := (buf_within b1 (n := r.length + 1 + 1) (by omega)).2
    have e : numB 0 = [48, 44] := by rw [numB, if_neg (by omega), show (0 : Int).toNat = 0 from rfl, dec, dif_pos (by omega)]; rfl
    refine ⟨a1, ?_, by simpa [truthB, e] using b1⟩
    rw [callW_fn fn21]
    simp [D.l21, D.c21, runFun, LMode.isPure, LVal.pfs, LVal.pf, Go.L.initVars, codeW_seq, codeW_region, codeW_regionD, codeW_cond, codeW_ret, codeW_skip, codeW_exit, codeW_block, codeW_fence, thenW, outW, fenceOut, kill, LVal.withins, LVal.within, runOps, runOpsD, Go.L.step, stepD, semD, sem, RS.peek, RS.put, RS.give, RS.take, RS.takes, RS.takeElems, RS.takeParts, RS.peeks, RS.peekO, RS.setVar, RS.noPk, RS.settle, RS.alloc, callOut, LVal.arg, LVal.isAgg, LVal.cells, LVal.unpk, LVal.copy, LVal.down, LVal.plain, LVal.settled, binL, binInt, binStr, unL, resL, resOne, res1, resAll, LVal.isTup, outL, LOp.quiet, LOp.acts, LOp.peeks, LOper.fix, calmOk, loadCalm, awayOk, dstFree, LVal.free, LVal.calm, LVal.calm1, LOp.opds, optL, RS.acquire, appendL, elemsL, bound, inRange, intL, loadL, storeL, setElems, setParts, fitsElem, lenL, isNilL, partL, chunks, k1, hB.1, hB.2.1, hB.2.2.1, hB.2.2.2, hw]
    exact hB.2.1

set_option maxHeartbeats 1000000 in
theorem text_eq (o0 : LObj) (p a : LVal) (r : List LObj) (bs s : List UInt8) (hs : s.length ≤ 10000) (hB : Beside o0 r) (hb : Buf p a bs) (hl : bs.length ≤ 10000000) :
    ∃ a', callW D.T 22 [.ptr 1 0, .str s] (o0 :: .cells 49 [p, a] :: r) = some (.tup [], some (o0 :: .cells 49 [.ptr 1 0, a'] :: r)) ∧ Buf (.ptr 1 0) a' (bs ++ textB s) := by
  have hx := hexB_len s
  have q := bytes_eq false s hs
  obtain ⟨a2, k2, b2⟩ := wstr o0 p a.stay r bs (hexB s) hb.stay (by omega) (by omega)
  obtain ⟨a3, k3, b3⟩ := wbyte o0 (.ptr 1 0) a2 r _ 44 b2 (by simp; omega)
  have k3 : callW D.T 34 [.ptr 1 0, .int .u8 44] (o0 :: .cells 49 [.ptr 1 0, a2] :: r) = _ := k3
  have hw := (buf_within b3 (n := r.length + 1 + 1) (by omega)).2
  refine ⟨a3, ?_, by simpa [textB] using b3⟩
  rw [callW_fn fn22]
  simp [D.l22, D.c22, runFun, LMode.isPure, LVal.pfs, LVal.pf, Go.L.initVars, codeW_seq, codeW_region, codeW_regionD, codeW_cond, codeW_ret, codeW_skip, codeW_exit, codeW_block, codeW_fence, thenW, outW, fenceOut, kill, LVal.withins, LVal.within, runOps, runOpsD, Go.L.step, stepD, semD, sem, RS.peek, RS.put, RS.give, RS.take, RS.takes, RS.takeElems, RS.takeParts, RS.peeks, RS.peekO, RS.setVar, RS.noPk, RS.settle, RS.alloc, callOut, LVal.arg, LVal.isAgg, LVal.cells, LVal.unpk, LVal.copy, LVal.down, LVal.plain, LVal.settled, binL, binInt, binStr, unL, resL, resOne, res1, resAll, LVal.isTup, outL, LOp.quiet, LOp.acts, LOp.peeks, LOper.fix, calmOk, loadCalm, awayOk, dstFree, LVal.free, LVal.calm, LVal.calm1, LOp.opds, optL, RS.acquire, appendL, elemsL, bound, inRange, intL, loadL, storeL, setElems, setParts, fitsElem, lenL, isNilL, partL, chunks, q, k2, k3, hB.1, hB.2.1, hB.2.2.1, hB.2.2.2, hb.pstay, hw, maxBytes, show s.length ≤ 140737488355328 by omega]
  exact hB.2.1
end Go.Proofs.Ytbljgbojkifoiaa
end
section
set_option linter.unusedVariables false
set_option linter.unusedSimpArgs false
namespace Go.Proofs.Ytbljgbojkifoiaa
open Go Go.L

structure LinkS where
  st : Int
  rest : Int
  naks : Int
  sent : Bool
  answered : Bool
  id : Int
  opts : List UInt8
structure LoginS where
  ours : Int
  theirs : Int
  oursOk : Bool
  theirsOk : Bool
  open_ : Bool
  id : Int
  value : List UInt8
  asked : Bool
  askedId : Int
structure DueS where
  kind : Int
  proto : Int
  id : Int
  data : List UInt8
structure StateS where
  l0 : LinkS
  l1 : LinkS
  l2 : LinkS
  login : LoginS
  nil : Bool
  o : Own
  m : Nat
  due : List DueS

def LinkS.cells (l : LinkS) : List LVal := [.int .i64 l.st, .int .i64 l.rest, .int .i64 l.naks, .bool l.sent, .bool l.answered, .int .i64 l.id, .str l.opts]
def LoginS.cells (l : LoginS) : List LVal := [.int .i64 l.ours, .int .i64 l.theirs, .bool l.oursOk, .bool l.theirsOk, .bool l.open_, .int .i64 l.id, .str l.value, .bool l.asked, .int .i64 l.askedId]
def DueS.cells (d : DueS) : List LVal := [.int .i64 d.kind, .int .i64 d.proto, .int .i64 d.id, .str d.data]
def duesL (l : List DueS) : List LVal := l.map fun d => .agg d.cells
def StateS.cells (s : StateS) : List LVal := s.l0.cells ++ (s.l1.cells ++ (s.l2.cells ++ (s.login.cells ++ [.vs s.nil s.o s.m (duesL s.due)])))

def i64 (n : Int) : Prop := -9223372036854775808 ≤ n ∧ n < 9223372036854775808
def LinkS.ok (l : LinkS) : Prop := i64 l.st ∧ i64 l.rest ∧ i64 l.naks ∧ i64 l.id
def LoginS.ok (l : LoginS) : Prop := i64 l.ours ∧ i64 l.theirs ∧ i64 l.id ∧ i64 l.askedId
def DueS.ok (d : DueS) : Prop := i64 d.kind ∧ i64 d.proto ∧ i64 d.id
def StateS.ok (s : StateS) : Prop := s.l0.ok ∧ s.l1.ok ∧ s.l2.ok ∧ s.login.ok ∧ (∀ d ∈ s.due, d.ok) ∧ (s.nil = true → s.due = []) ∧ (s.o = .sh ∨ s.o = .full) ∧ (s.due ≠ [] → s.m = 4)
/-- Few things are owed, and texts are short. -/
def StateS.few (s : StateS) : Prop := s.due.length ≤ 20 ∧ s.login.value.length ≤ 500 ∧ s.l0.opts.length ≤ 500 ∧ s.l1.opts.length ≤ 500 ∧ s.l2.opts.length ≤ 500 ∧ ∀ d ∈ s.due, d.data.length ≤ 500

def linkB (l : LinkS) : List UInt8 := numB l.st ++ (numB l.rest ++ (numB l.naks ++ (truthB l.sent ++ (truthB l.answered ++ (numB l.id ++ textB l.opts)))))
def loginB (l : LoginS) : List UInt8 := numB l.ours ++ (numB l.theirs ++ (truthB l.oursOk ++ (truthB l.theirsOk ++ (truthB l.open_ ++ (numB l.id ++ (textB l.value ++ (truthB l.asked ++ numB l.askedId)))))))
def dueB (d : DueS) : List UInt8 := numB d.kind ++ (numB d.proto ++ (numB d.id ++ textB d.data))
def duesB : List DueS → List UInt8
  | [] => []
  | d :: r => dueB d ++ duesB r
/-- An endpoint's key. -/
def keyB (s : StateS) : List UInt8 := linkB s.l0 ++ (linkB s.l1 ++ (linkB s.l2 ++ (loginB s.login ++ (numB s.due.length ++ duesB s.due))))

theorem numB_len {n : Int} (h : i64 n) : (numB n).length ≤ 22 := by
  obtain ⟨h1, h2⟩ := h
  unfold numB
  split
  · have := dec_len 19 n.natAbs (by omega); simp; omega
  · have := dec_len 19 n.toNat (by omega); simp; omega
theorem truthB_len (b : Bool) : (truthB b).length = 2 := by cases b <;> rfl
theorem textB_len (s : List UInt8) : (textB s).length = 2 * s.length + 1 := by simp [textB, hexB_len]

abbrev Step (f : Nat) (v : LVal) (o0 : LObj) (p a a' : LVal) (r : List LObj) : Prop := callW D.T f [.ptr 1 0, v] (o0 :: .cells 49 [p, a] :: r) = some (.tup [], some (o0 :: .cells 49 [.ptr 1 0, a'] :: r))

theorem link_calls (o0 : LObj) (r : List LObj) (l : LinkS) (hl : l.ok) (ho : l.opts.length ≤ 500) (hB : Beside o0 r) (p a : LVal) (bs : List UInt8) (hb : Buf p a bs) (hlen : bs.length ≤ 1000000) :
    ∃ a1 a2 a3 a4 a5 a6 a7, Step 20 (.int .i64 l.st) o0 p a a1 r ∧ Step 20 (.int .i64 l.rest) o0 (.ptr 1 0) a1 a2 r ∧ Step 20 (.int .i64 l.naks) o0 (.ptr 1 0) a2 a3 r ∧ Step 21 (.bool l.sent) o0 (.ptr 1 0) a3 a4 r ∧
      Step 21 (.bool l.answered) o0 (.ptr 1 0) a4 a5 r ∧ Step 20 (.int .i64 l.id) o0 (.ptr 1 0) a5 a6 r ∧ Step 22 (.str l.opts) o0 (.ptr 1 0) a6 a7 r ∧ Buf (.ptr 1 0) a7 (bs ++ linkB l) := by
  obtain ⟨h1, h2, h3, h4⟩ := hl
  have n1 := numB_len h1; have n2 := numB_len h2; have n3 := numB_len h3; have n4 := numB_len h4; have n5 := truthB_len l.sent; have n6 := truthB_len l.answered; have n7 := textB_len l.opts
  obtain ⟨a1, k1, b1⟩ := num_eq o0 p a r bs _ h1.1 h1.2 hB hb (by omega)
  obtain ⟨a2, k2, b2⟩ := num_eq o0 _ a1 r _ _ h2.1 h2.2 hB b1 (by simp only [List.length_append]; omega)
  obtain ⟨a3, k3, b3⟩ := num_eq o0 _ a2 r _ _ h3.1 h3.2 hB b2 (by simp only [List.length_append]; omega)
  obtain ⟨a4, k4, b4⟩ := truth_eq o0 _ a3 r _ l.sent hB b3 (by simp only [List.length_append]; omega)
  obtain ⟨a5, k5, b5⟩ := truth_eq o0 _ a4 r _ l.answered hB b4 (by simp only [List.length_append]; omega)
  obtain ⟨a6, k6, b6⟩ := num_eq o0 _ a5 r _ _ h4.1 h4.2 hB b5 (by simp only [List.length_append]; omega)
  obtain ⟨a7, k7, b7⟩ := text_eq o0 _ a6 r _ l.opts (by omega) hB b6 (by simp only [List.length_append]; omega)
  exact ⟨a1, a2, a3, a4, a5, a6, a7, k1, k2, k3, k4, k5, k6, k7, by simpa [linkB] using b7⟩

theorem login_calls (o0 : LObj) (r : List LObj) (l : LoginS) (hl : l.ok) (ho : l.value.length ≤ 500) (hB : Beside o0 r) (p a : LVal) (bs : List UInt8) (hb : Buf p a bs) (hlen : bs.length ≤ 1000000) :
    ∃ a1 a2 a3 a4 a5 a6 a7 a8 a9, Step 20 (.int .i64 l.ours) o0 p a a1 r ∧ Step 20 (.int .i64 l.theirs) o0 (.ptr 1 0) a1 a2 r ∧ Step 21 (.bool l.oursOk) o0 (.ptr 1 0) a2 a3 r ∧ Step 21 (.bool l.theirsOk) o0 (.ptr 1 0) a3 a4 r ∧
      Step 21 (.bool l.open_) o0 (.ptr 1 0) a4 a5 r ∧ Step 20 (.int .i64 l.id) o0 (.ptr 1 0) a5 a6 r ∧ Step 22 (.str l.value) o0 (.ptr 1 0) a6 a7 r ∧ Step 21 (.bool l.asked) o0 (.ptr 1 0) a7 a8 r ∧ Step 20 (.int .i64 l.askedId) o0 (.ptr 1 0) a8 a9 r ∧
      Buf (.ptr 1 0) a9 (bs ++ loginB l) := by
  obtain ⟨h1, h2, h3, h4⟩ := hl
  have n1 := numB_len h1; have n2 := numB_len h2; have n3 := numB_len h3; have n4 := numB_len h4; have n5 := truthB_len l.oursOk; have n6 := truthB_len l.theirsOk; have n8 := truthB_len l.open_; have n9 := truthB_len l.asked; have n7 := textB_len l.value
  obtain ⟨a1, k1, b1⟩ := num_eq o0 p a r bs _ h1.1 h1.2 hB hb (by omega)
  obtain ⟨a2, k2, b2⟩ := num_eq o0 _ a1 r _ _ h2.1 h2.2 hB b1 (by simp only [List.length_append]; omega)
  obtain ⟨a3, k3, b3⟩ := truth_eq o0 _ a2 r _ l.oursOk hB b2 (by simp only [List.length_append]; omega)
  obtain ⟨a4, k4, b4⟩ := truth_eq o0 _ a3 r _ l.theirsOk hB b3 (by simp only [List.length_append]; omega)
  obtain ⟨a5, k5, b5⟩ := truth_eq o0 _ a4 r _ l.open_ hB b4 (by simp only [List.length_append]; omega)
  obtain ⟨a6, k6, b6⟩ := num_eq o0 _ a5 r _ _ h3.1 h3.2 hB b5 (by simp only [List.length_append]; omega)
  obtain ⟨a7, k7, b7⟩ := text_eq o0 _ a6 r _ l.value (by omega) hB b6 (by simp only [List.length_append]; omega)
  obtain ⟨a8, k8, b8⟩ := truth_eq o0 _ a7 r _ l.asked hB b7 (by simp only [List.length_append]; omega)
  obtain ⟨a9, k9, b9⟩ := num_eq o0 _ a8 r _ _ h4.1 h4.2 hB b8 (by simp only [List.length_append]; omega)
  exact ⟨a1, a2, a3, a4, a5, a6, a7, a8, a9, k1, k2, k3, k4, k5, k6, k7, k8, k9, by simpa [loginB] using b9⟩

theorem due_calls (o0 : LObj) (r : List LObj) (l : DueS) (hl : l.ok) (ho : l.data.length ≤ 500) (hB : Beside o0 r) (p a : LVal) (bs : List UInt8) (hb : Buf p a bs) (hlen : bs.length ≤ 1000000) :
    ∃ a1 a2 a3 a4, Step 20 (.int .i64 l.kind) o0 p a a1 r ∧ Step 20 (.int .i64 l.proto) o0 (.ptr 1 0) a1 a2 r ∧ Step 20 (.int .i64 l.id) o0 (.ptr 1 0) a2 a3 r ∧ Step 22 (.str l.data) o0 (.ptr 1 0) a3 a4 r ∧
      Buf (.ptr 1 0) a4 (bs ++ dueB l) := by
  obtain ⟨h1, h2, h3⟩ := hl
  have n1 := numB_len h1; have n2 := numB_len h2; have n3 := numB_len h3; have n7 := textB_len l.data
  obtain ⟨a1, k1, b1⟩ := num_eq o0 p a r bs _ h1.1 h1.2 hB hb (by omega)
  obtain ⟨a2, k2, b2⟩ := num_eq o0 _ a1 r _ _ h2.1 h2.2 hB b1 (by simp only [List.length_append]; omega)
  obtain ⟨a3, k3, b3⟩ := num_eq o0 _ a2 r _ _ h3.1 h3.2 hB b2 (by simp only [List.length_append]; omega)
  obtain ⟨a4, k4, b4⟩ := text_eq o0 _ a3 r _ l.data (by omega) hB b3 (by simp only [List.length_append]; omega)
  exact ⟨a1, a2, a3, a4, k1, k2, k3, k4, by simpa [dueB] using b4⟩

theorem beside_cells (cs : List LVal) (o0 : LObj) (t : Nat) (h0 : ∀ n, o0.within n = true) (h1 : o0.settle = o0) (h2 : ∀ n, LVal.withins n cs = true) (h3 : cs.map LVal.stay = cs) : Beside o0 [.cells t cs] :=
  ⟨h0 _, by intro x hx; simp at hx; subst hx; simp [h2], h1, by simp [h3]⟩

set_option maxHeartbeats 2000000 in
theorem link_iter (o0 : LObj) (h0 : ∀ n, o0.within n = true) (h1 : o0.settle = o0) (i : Nat) (hi : i < 3) (lk : List LVal) (hlk : lk.length = 21) (l : LinkS) (hp : (lk.drop (i * 7)).take 7 = l.cells) (hw : ∀ n, LVal.withins n lk = true)
    (hl : l.ok) (ho : l.opts.length ≤ 500) (p a : LVal) (bs : List UInt8) (hb : Buf p a bs) (hlen : bs.length ≤ 1000000) (v0 v2 v4 v5 v6 v9 v10 v11 v12 v13 : LVal) (o4 : v4.isOwn = false) (o9 : v9.isOwn = false) (o8 : v9.isOwn = false) :
    ∃ a', codeW D.T D.b10_0 { vars := [v0, .ptr 0 0, v2, .ptr 1 0, v4, v5, v6, .agg lk, .int .i64 i, v9, v10, v11, v12, v13], st := [o0, .cells 49 [p, a]], rs := [] } =
      some (.normal, { vars := [.undef, .ptr 0 0, .undef, .ptr 1 0, .undef, .undef, .undef, .agg lk, .int .i64 (i + 1), .undef, .undef, .undef, .undef, .undef], st := [o0, .cells 49 [.ptr 1 0, a']], rs := [] }) ∧ Buf (.ptr 1 0) a' (bs ++ linkB l) := by
  obtain ⟨a1, a2, a3, a4, a5, a6, a7, k1, k2, k3, k4, k5, k6, k7, b7⟩ := link_calls o0 [.cells 25 l.cells] l hl ho (beside_cells _ _ _ h0 h1 (fun n => rfl) rfl) p a bs hb hlen
  refine ⟨a7, ?_, b7⟩
  simp only [LinkS.cells] at k1 k2 k3 k4 k5 k6 k7 hp
  have hwa := (buf_within b7 (n := 2) (by omega)).2
  have e1 : (i : Int) < 3 := by omega
  have e2 : i * 7 + 7 ≤ 21 := by omega
  have e3 : IntKind.i64.wrap ((i : Int) + 1) = (i : Int) + 1 := wi64 (by omega) (by omega)
  simp [D.b10_0, runFun, LMode.isPure, LVal.pfs, LVal.pf, Go.L.initVars, codeW_seq, codeW_region, codeW_regionD, codeW_cond, codeW_ret, codeW_skip, codeW_exit, codeW_block, codeW_fence, thenW, outW, fenceOut, kill, LVal.withins, LVal.within, runOps, runOpsD, Go.L.step, stepD, semD, sem, RS.peek, RS.put, RS.give, RS.take, RS.takes, RS.takeElems, RS.takeParts, RS.peeks, RS.peekO, RS.setVar, RS.noPk, RS.settle, RS.alloc, callOut, LVal.arg, LVal.isAgg, LVal.cells, LVal.unpk, LVal.copy, LVal.down, LVal.plain, LVal.settled, binL, binInt, binStr, unL, resL, resOne, res1, resAll, LVal.isTup, outL, LOp.quiet, LOp.acts, LOp.peeks, LOper.fix, calmOk, loadCalm, awayOk, dstFree, LVal.free, LVal.calm, LVal.calm1, LOp.opds, optL, RS.acquire, appendL, elemsL, bound, inRange, intL, loadL, storeL, setElems, setParts, fitsElem, lenL, isNilL, partL, chunks, o4, o9, e1, e2, e3, hlk, hp, h0, hw, hwa, k1, k2, k3, k4, k5, k6, k7]
end Go.Proofs.Ytbljgbojkifoiaa
end
section
set_option linter.unusedVariables false
set_option linter.unusedSimpArgs false
namespace Go.Proofs.Ytbljgbojkifoiaa
open Go Go.L

theorem duesL_len (l : List DueS) : (duesL l).length = l.length := by simp [duesL]
theorem duesL_get (l : List DueS) (i : Nat) : (duesL l)[i]? = (l[i]?).map fun d => .agg d.cells := by simp [duesL]
theorem duesL_within (n : Nat) : ∀ (l : List DueS), LVal.withins n (duesL l) = true
  | [] => rfl
  | d :: l => by
    have := duesL_within n l
    simp only [duesL, List.map_cons, LVal.withins] at this ⊢
    rw [this]; rfl
theorem duesB_len : ∀ (l : List DueS), (∀ d ∈ l, d.ok) → (∀ d ∈ l, d.data.length ≤ 500) → (duesB l).length ≤ 1100 * l.length
  | [], _, _ => by simp [duesB]
  | d :: l, h, k => by
    have := duesB_len l (fun x hx => h x (List.mem_cons_of_mem _ hx)) (fun x hx => k x (List.mem_cons_of_mem _ hx))
    obtain ⟨h1, h2, h3⟩ := h d (List.mem_cons_self ..)
    have n1 := numB_len h1; have n2 := numB_len h2; have n3 := numB_len h3; have n7 := textB_len d.data
    have := k d (List.mem_cons_self ..)
    simp only [duesB, dueB, List.length_append, List.length_cons]
    omega

set_option maxHeartbeats 2000000 in
theorem due_loop (o0 : LObj) (h0 : ∀ n, o0.within n = true) (h1 : o0.settle = o0) (lg : LoginS) (nl : Bool) (o : Own) (ho : o = .sh ∨ o = .full) (m : Nat) (l : List DueS) (hm : l ≠ [] → m = 4) (hok : ∀ d ∈ l, d.ok) (hsh : ∀ d ∈ l, d.data.length ≤ 500) (hlen : l.length ≤ 20) : ∀ (j i : Nat) (z : Int) (p a : LVal) (bs : List UInt8)
    (v0 v1 v2 v4 v5 v6 v7 v8 v9 v13 : LVal), v13.isOwn = false → v6.isOwn = false → z = i → i + j = l.length → Buf p a bs → bs.length + 1100 * j ≤ 500000 →
    ∃ (a' : LVal) (w : Nat → LVal), codeW D.T (.loop D.b10_1) { vars := [v0, v1, v2, .ptr 1 0, v4, v5, v6, v7, v8, v9, .vs nl o m (duesL l), .int .i64 l.length, .int .i64 z, v13], st := [o0, .cells 49 [p, a], .cells 28 lg.cells], rs := [] } =
      some (.exit 2, { vars := [w 0, w 1, w 2, .ptr 1 0, w 4, w 5, w 6, w 7, w 8, w 9, .vs nl o m (duesL l), .int .i64 l.length, .int .i64 l.length, .bool false], st := [o0, .cells 49 [if j = 0 then p else .ptr 1 0, a'], .cells 28 lg.cells], rs := [] }) ∧ Buf (if j = 0 then p else .ptr 1 0) a' (bs ++ duesB (l.drop i))
  | 0, i, z, p, a, bs, v0, v1, v2, v4, v5, v6, v7, v8, v9, v13, o13, o6, hz, hij, hb, hbl => by
    subst hz
    have hi : i = l.length := by omega
    subst hi
    refine ⟨a, fun k => [v0, v1, v2, .undef, v4, v5, v6, v7, v8, v9].getD k .undef, ?_, by simpa [duesB] using hb⟩
    rw [codeW_loop]
    rcases ho with rfl | rfl <;> simp [D.b10_1, runFun, LMode.isPure, LVal.pfs, LVal.pf, Go.L.initVars, codeW_seq, codeW_region, codeW_regionD, codeW_cond, codeW_ret, codeW_skip, codeW_exit, codeW_block, codeW_fence, thenW, outW, fenceOut, kill, LVal.withins, LVal.within, runOps, runOpsD, Go.L.step, stepD, semD, sem, RS.peek, RS.put, RS.give, RS.take, RS.takes, RS.takeElems, RS.takeParts, RS.peeks, RS.peekO, RS.setVar, RS.noPk, RS.settle, RS.alloc, callOut, LVal.arg, LVal.isAgg, LVal.cells, LVal.unpk, LVal.copy, LVal.down, LVal.plain, LVal.settled, binL, binInt, binStr, unL, resL, resOne, res1, resAll, LVal.isTup, outL, LOp.quiet, LOp.acts, LOp.peeks, LOper.fix, calmOk, loadCalm, awayOk, dstFree, LVal.free, LVal.calm, LVal.calm1, LOp.opds, optL, RS.acquire, appendL, elemsL, bound, inRange, intL, loadL, storeL, setElems, setParts, fitsElem, lenL, isNilL, partL, chunks, o13]
  | j + 1, i, z, p, a, bs, v0, v1, v2, v4, v5, v6, v7, v8, v9, v13, o13, o6, hz, hij, hb, hbl => by
    subst hz
    have hi : i < l.length := by omega
    obtain ⟨d, hd⟩ : ∃ d, l[i]? = some d := ⟨_, List.getElem?_eq_getElem hi⟩
    have hdm : d ∈ l := List.mem_of_getElem? hd
    have hdrop : l.drop i = d :: l.drop (i + 1) := by
      rw [List.drop_eq_getElem_cons hi]
      rw [List.getElem?_eq_getElem hi] at hd; injection hd with hd; rw [hd]
    have hB : Beside o0 [.cells 28 lg.cells, .cells 43 d.cells] := ⟨h0 _, by intro x hx; simp at hx; rcases hx with rfl | rfl <;> rfl, h1, rfl⟩
    obtain ⟨a1, a2, a3, a4, k1, k2, k3, k4, b4⟩ := due_calls o0 [.cells 28 lg.cells, .cells 43 d.cells] d (hok d hdm) (hsh d hdm) hB p a bs hb (by omega)
    have hdl : (dueB d).length ≤ 1100 := by
      obtain ⟨q1, q2, q3⟩ := hok d hdm
      have n1 := numB_len q1; have n2 := numB_len q2; have n3 := numB_len q3; have n7 := textB_len d.data
      have := hsh d hdm
      simp only [dueB, List.length_append]; omega
    obtain ⟨a', w, c1, c2⟩ := due_loop o0 h0 h1 lg nl o ho m l hm hok hsh hlen j (i + 1) ((i : Int) + 1) (.ptr 1 0) a4 (bs ++ dueB d) .undef .undef .undef .undef .undef .undef .undef .undef .undef .undef rfl rfl (by omega) (by omega) b4 (by simp only [List.length_append]; omega)
    refine ⟨a', w, ?_, by rw [hdrop]; simpa [duesB] using c2⟩
    have hwa := (buf_within b4 (n := 3) (by omega)).2
    have e1 : (i : Int) < (l.length : Int) := by omega
    have e0 : 0 ≤ (i : Int) ∧ (i : Int) < (l.length : Int) := by omega
    have e3 : IntKind.i64.wrap ((i : Int) + 1) = (i : Int) + 1 := wi64 (by omega) (by omega)
    have e5 : (duesL l).length = l.length := duesL_len l
    have e6 : (duesL l)[i]? = some (.agg d.cells) := by rw [duesL_get, hd]; rfl
    have e7 : ∀ n, LVal.withins n (duesL l) = true := fun n => duesL_within n l
    simp only [DueS.cells, LoginS.cells] at k1 k2 k3 k4 e6
    simp only [LoginS.cells, ite_self] at c1 ⊢
    rw [codeW_loop]
    generalize hK : thenW (codeW D.T (.loop D.b10_1)) = K
    have hm4 : m = 4 := hm (fun e => by rw [e] at hi; simp at hi)
    subst hm4
    rcases ho with rfl | rfl
    · simp [D.b10_1, runFun, LMode.isPure, LVal.pfs, LVal.pf, Go.L.initVars, codeW_seq, codeW_region, codeW_regionD, codeW_cond, codeW_ret, codeW_skip, codeW_exit, codeW_block, codeW_fence, thenW, outW, fenceOut, kill, LVal.withins, LVal.within, runOps, runOpsD, Go.L.step, stepD, semD, sem, RS.peek, RS.put, RS.give, RS.take, RS.takes, RS.takeElems, RS.takeParts, RS.peeks, RS.peekO, RS.setVar, RS.noPk, RS.settle, RS.alloc, callOut, LVal.arg, LVal.isAgg, LVal.cells, LVal.unpk, LVal.copy, LVal.down, LVal.plain, LVal.settled, binL, binInt, binStr, unL, resL, resOne, res1, resAll, LVal.isTup, outL, LOp.quiet, LOp.acts, LOp.peeks, LOper.fix, calmOk, loadCalm, awayOk, dstFree, LVal.free, LVal.calm, LVal.calm1, LOp.opds, optL, RS.acquire, appendL, elemsL, bound, inRange, intL, loadL, storeL, setElems, setParts, fitsElem, lenL, isNilL, partL, chunks, o13, o6, e0, e1, e3, e5, e6, e7, h0, hwa, k1, k2, k3, k4]
      subst hK
      simpa using c1
    · simp [D.b10_1, runFun, LMode.isPure, LVal.pfs, LVal.pf, Go.L.initVars, codeW_seq, codeW_region, codeW_regionD, codeW_cond, codeW_ret, codeW_skip, codeW_exit, codeW_block, codeW_fence, thenW, outW, fenceOut, kill, LVal.withins, LVal.within, runOps, runOpsD, Go.L.step, stepD, semD, sem, RS.peek, RS.put, RS.give, RS.take, RS.takes, RS.takeElems, RS.takeParts, RS.peeks, RS.peekO, RS.setVar, RS.noPk, RS.settle, RS.alloc, callOut, LVal.arg, LVal.isAgg, LVal.cells, LVal.unpk, LVal.copy, LVal.down, LVal.plain, LVal.settled, binL, binInt, binStr, unL, resL, resOne, res1, resAll, LVal.isTup, outL, LOp.quiet, LOp.acts, LOp.peeks, LOper.fix, calmOk, loadCalm, awayOk, dstFree, LVal.free, LVal.calm, LVal.calm1, LOp.opds, optL, RS.acquire, appendL, elemsL, bound, inRange, intL, loadL, storeL, setElems, setParts, fitsElem, lenL, isNilL, partL, chunks, o13, o6, e0, e1, e3, e5, e6, e7, h0, hwa, k1, k2, k3, k4]
      subst hK
      simpa using c1

theorem bytesR_bytesL : ∀ (l : List UInt8), D.bytesR (bytesL l) = some l
  | [] => rfl
  | b :: l => by
    have := bytesR_bytesL l
    have hb : b.toNat < 256 := b.toNat_lt
    simp only [bytesL, List.map_cons, D.bytesR, byteL, D.byteR] at this ⊢
    rw [if_pos (by omega), this]
    simp

theorem fn23 : D.T.fns 23 = some (.hook D.hText) := rfl
theorem fn10 : D.T.fns 10 = some (.fn D.l10) := rfl
theorem text_end (o0 : LObj) (p a : LVal) (r : List LObj) (bs : List UInt8) (hb : Buf p a bs) : callW D.T 23 [.ptr 1 0] (o0 :: .cells 49 [p, a] :: r) = some (.str bs, some (o0 :: .dead :: r)) := by
  rw [callW_hook fn23]
  obtain ⟨hp, ⟨rfl, rfl⟩ | ⟨x, rfl⟩⟩ := hb
  · simp [D.hText]
  · simp [D.hText, bytesR_bytesL]

set_option maxHeartbeats 4000000 in
theorem key_eq (s : StateS) (hok : s.ok) (hf : s.few) : callW D.T 10 [.agg s.cells] [] = some (.str (keyB s), none) := by
  obtain ⟨q0, q1, q2, q3, q4, q5, qo, qm⟩ := hok
  obtain ⟨f1, f2, f3, f4, f5, f6⟩ := hf
  have h0 : ∀ n, LObj.within n (.cells 31 s.cells) = true := fun n => rfl
  have h1 : LObj.settle (.cells 31 s.cells) = .cells 31 s.cells := by simp only [StateS.cells]; rcases qo with ho | ho <;> rw [ho] <;> rfl
  have lb0 : (linkB s.l0).length ≤ 1200 := by
    obtain ⟨q1, q2, q3, q4⟩ := q0
    have n1 := numB_len q1; have n2 := numB_len q2; have n3 := numB_len q3; have n4 := numB_len q4; have n5 := truthB_len s.l0.sent; have n6 := truthB_len s.l0.answered; have n7 := textB_len s.l0.opts
    simp only [linkB, List.length_append]; omega
  have lb1 : (linkB s.l1).length ≤ 1200 := by
    obtain ⟨q1, q2, q3, q4⟩ := q1
    have n1 := numB_len q1; have n2 := numB_len q2; have n3 := numB_len q3; have n4 := numB_len q4; have n5 := truthB_len s.l1.sent; have n6 := truthB_len s.l1.answered; have n7 := textB_len s.l1.opts
    simp only [linkB, List.length_append]; omega
  have lb2 : (linkB s.l2).length ≤ 1200 := by
    obtain ⟨q1, q2, q3, q4⟩ := q2
    have n1 := numB_len q1; have n2 := numB_len q2; have n3 := numB_len q3; have n4 := numB_len q4; have n5 := truthB_len s.l2.sent; have n6 := truthB_len s.l2.answered; have n7 := textB_len s.l2.opts
    simp only [linkB, List.length_append]; omega
  have lgb : (loginB s.login).length ≤ 1300 := by
    obtain ⟨h1, h2, h3, h4⟩ := q3
    have n1 := numB_len h1; have n2 := numB_len h2; have n3 := numB_len h3; have n4 := numB_len h4; have n5 := truthB_len s.login.oursOk; have n6 := truthB_len s.login.theirsOk; have n8 := truthB_len s.login.open_; have n9 := truthB_len s.login.asked; have n7 := textB_len s.login.value
    simp only [loginB, List.length_append]; omega
  have hlk : (s.l0.cells ++ (s.l1.cells ++ s.l2.cells)).length = 21 := rfl
  have hwl : ∀ n, LVal.withins n (s.l0.cells ++ (s.l1.cells ++ s.l2.cells)) = true := fun n => rfl
  obtain ⟨a1, k1, b1⟩ := link_iter (.cells 31 s.cells) h0 h1 0 (by omega) _ hlk s.l0 rfl hwl q0 f3 .nilptr (.vs true .sh 0 []) [] ⟨.inl rfl, .inl ⟨rfl, rfl⟩⟩ (by simp) (.agg s.cells) (.str []) .undef .undef .undef .undef .undef .undef .undef .undef rfl rfl rfl
  obtain ⟨a2, k2, b2⟩ := link_iter (.cells 31 s.cells) h0 h1 1 (by omega) _ hlk s.l1 rfl hwl q1 f4 (.ptr 1 0) a1 _ b1 (by simp; omega) .undef .undef .undef .undef .undef .undef .undef .undef .undef .undef rfl rfl rfl
  obtain ⟨a3, k3, b3⟩ := link_iter (.cells 31 s.cells) h0 h1 2 (by omega) _ hlk s.l2 rfl hwl q2 f5 (.ptr 1 0) a2 _ b2 (by simp only [List.length_append, List.length_nil]; omega) .undef .undef .undef .undef .undef .undef .undef .undef .undef .undef rfl rfl rfl
  have hexit : codeW D.T D.b10_0 { vars := [.undef, .ptr 0 0, .undef, .ptr 1 0, .undef, .undef, .undef, .agg (s.l0.cells ++ (s.l1.cells ++ s.l2.cells)), .int .i64 3, .undef, .undef, .undef, .undef, .undef], st := [.cells 31 s.cells, .cells 49 [.ptr 1 0, a3]], rs := [] } =
      some (.exit 0, { vars := [.undef, .ptr 0 0, .undef, .ptr 1 0, .undef, .undef, .undef, .agg (s.l0.cells ++ (s.l1.cells ++ s.l2.cells)), .int .i64 3, .bool false, .undef, .undef, .undef, .undef], st := [.cells 31 s.cells, .cells 49 [.ptr 1 0, a3]], rs := [] }) := by
    simp [D.b10_0, runFun, LMode.isPure, LVal.pfs, LVal.pf, Go.L.initVars, codeW_seq, codeW_region, codeW_regionD, codeW_cond, codeW_ret, codeW_skip, codeW_exit, codeW_block, codeW_fence, thenW, outW, fenceOut, kill, LVal.withins, LVal.within, runOps, runOpsD, Go.L.step, stepD, semD, sem, RS.peek, RS.put, RS.give, RS.take, RS.takes, RS.takeElems, RS.takeParts, RS.peeks, RS.peekO, RS.setVar, RS.noPk, RS.settle, RS.alloc, callOut, LVal.arg, LVal.isAgg, LVal.cells, LVal.unpk, LVal.copy, LVal.down, LVal.plain, LVal.settled, binL, binInt, binStr, unL, resL, resOne, res1, resAll, LVal.isTup, outL, LOp.quiet, LOp.acts, LOp.peeks, LOper.fix, calmOk, loadCalm, awayOk, dstFree, LVal.free, LVal.calm, LVal.calm1, LOp.opds, optL, RS.acquire, appendL, elemsL, bound, inRange, intL, loadL, storeL, setElems, setParts, fitsElem, lenL, isNilL, partL, chunks]
  have hloop : codeW D.T (.loop D.b10_0) { vars := [.agg s.cells, .ptr 0 0, .str [], .ptr 1 0, .undef, .undef, .undef, .agg (s.l0.cells ++ (s.l1.cells ++ s.l2.cells)), .int .i64 0, .undef, .undef, .undef, .undef, .undef], st := [.cells 31 s.cells, .cells 49 [.nilptr, .vs true .sh 0 []]], rs := [] } =
      some (.exit 0, { vars := [.undef, .ptr 0 0, .undef, .ptr 1 0, .undef, .undef, .undef, .agg (s.l0.cells ++ (s.l1.cells ++ s.l2.cells)), .int .i64 3, .bool false, .undef, .undef, .undef, .undef], st := [.cells 31 s.cells, .cells 49 [.ptr 1 0, a3]], rs := [] }) := by
    have k1' : codeW D.T D.b10_0 { vars := [.agg s.cells, .ptr 0 0, .str [], .ptr 1 0, .undef, .undef, .undef, .agg (s.l0.cells ++ (s.l1.cells ++ s.l2.cells)), .int .i64 0, .undef, .undef, .undef, .undef, .undef], st := [.cells 31 s.cells, .cells 49 [.nilptr, .vs true .sh 0 []]], rs := [] } = _ := k1
    rw [codeW_loop, k1']
    simp only [Option.bind_some, thenW_normal]
    rw [codeW_loop]
    have k2' := k2
    rw [show ((1 : Nat) : Int) = ((0 : Nat) : Int) + 1 by rfl] at k2'
    rw [k2']
    simp only [Option.bind_some, thenW_normal]
    rw [codeW_loop]
    have k3' := k3
    rw [show ((2 : Nat) : Int) = ((0 : Nat) : Int) + 1 + 1 by rfl] at k3'
    rw [k3']
    simp only [Option.bind_some, thenW_normal]
    rw [codeW_loop]
    have he : (((0 : Nat) : Int) + 1 + 1 + 1) = 3 := by rfl
    rw [he, hexit]
    rfl
  have hB : Beside (.cells 31 s.cells) [.cells 28 s.login.cells] := beside_cells _ _ _ h0 h1 (fun n => rfl) rfl
  obtain ⟨c1, c2, c3, c4, c5, c6, c7, c8, c9, m1, m2, m3, m4, m5, m6, m7, m8, m9, b4⟩ := login_calls (.cells 31 s.cells) [.cells 28 s.login.cells] s.login q3 f2 hB (.ptr 1 0) a3 _ b3 (by simp only [List.length_append, List.length_nil]; omega)
  have hdl : i64 (s.due.length : Int) := ⟨by omega, by omega⟩
  have ndl := numB_len hdl
  obtain ⟨d1, n1, b5⟩ := num_eq (.cells 31 s.cells) (.ptr 1 0) c9 [.cells 28 s.login.cells] _ (s.due.length : Int) hdl.1 hdl.2 hB b4 (by simp only [List.length_append, List.length_nil]; omega)
  obtain ⟨a', w, n2, b6⟩ := due_loop (.cells 31 s.cells) h0 h1 s.login s.nil s.o qo s.m s.due qm q4 f6 f1 s.due.length 0 0 (.ptr 1 0) d1 _ .undef (.ptr 0 0) .undef .undef (.ptr 2 0) .undef .undef .undef .undef .undef rfl rfl rfl (by omega) b5 (by simp only [List.length_append, List.length_nil]; omega)
  simp only [ite_self] at n2 b6
  have n3 := text_end (.cells 31 s.cells) (.ptr 1 0) a' [.cells 28 s.login.cells] _ b6
  have e5 : (duesL s.due).length = s.due.length := duesL_len s.due
  have hwa := (buf_within b6 (n := 3) (by omega)).2
  have hwa3 := (buf_within b3 (n := 2) (by omega)).2
  have e7 : ∀ n, LVal.withins n (duesL s.due) = true := fun n => duesL_within n s.due
  have hkey : [] ++ linkB s.l0 ++ linkB s.l1 ++ linkB s.l2 ++ loginB s.login ++ numB (s.due.length : Int) ++ duesB (s.due.drop 0) = keyB s := by simp [keyB]
  rw [hkey] at n3
  rw [callW_fn fn10]
  simp only [StateS.cells, LinkS.cells, LoginS.cells, List.cons_append, List.nil_append] at hloop m1 m2 m3 m4 m5 m6 m7 m8 m9 n1 n2 n3 ⊢
  rcases qo with ho | ho <;> simp only [ho] at hloop m1 m2 m3 m4 m5 m6 m7 m8 m9 n1 n2 n3 ⊢ <;>
  simp [D.l10, D.c10, runFun, LMode.isPure, LVal.pfs, LVal.pf, Go.L.initVars, codeW_seq, codeW_region, codeW_regionD, codeW_cond, codeW_ret, codeW_skip, codeW_exit, codeW_block, codeW_fence, thenW, outW, fenceOut, kill, LVal.withins, LVal.within, runOps, runOpsD, Go.L.step, stepD, semD, sem, RS.peek, RS.put, RS.give, RS.take, RS.takes, RS.takeElems, RS.takeParts, RS.peeks, RS.peekO, RS.setVar, RS.noPk, RS.settle, RS.alloc, callOut, LVal.arg, LVal.isAgg, LVal.cells, LVal.unpk, LVal.copy, LVal.down, LVal.plain, LVal.settled, binL, binInt, binStr, unL, resL, resOne, res1, resAll, LVal.isTup, outL, LOp.quiet, LOp.acts, LOp.peeks, LOper.fix, calmOk, loadCalm, awayOk, dstFree, LVal.free, LVal.calm, LVal.calm1, LOp.opds, optL, RS.acquire, appendL, elemsL, bound, inRange, intL, loadL, storeL, setElems, setParts, fitsElem, lenL, isNilL, partL, chunks, hloop, m1, m2, m3, m4, m5, m6, m7, m8, m9, n1, n2, n3, e5, e7, hwa, hwa3]
end Go.Proofs.Ytbljgbojkifoiaa
end
