/- slices.Equal, of what is owed. -/
import Derived.Test.YtpfnlpakcldobaaGreatQ1
set_option linter.unusedVariables false
set_option linter.unusedSimpArgs false
namespace Go.Proofs.YtpfnlpakcldobaaGreat
open Go Go.L

theorem fn25 : D.T.fns 25 = some (.fn D.l25) := rfl

open Classical in
set_option maxHeartbeats 4000000 in
theorem loop25 (n1 n2 : Bool) (m1 m2 : Nat) (a b : List DueS) (hab : a.length = b.length) (hl : a.length ≤ 100) (hm1 : a ≠ [] → m1 = 4) (hm2 : b ≠ [] → m2 = 4) : ∀ (j i : Nat) (z : Int) (v2 v3 v4 v7 : LVal), v2.isOwn = false → v3.isOwn = false → v4.isOwn = false → v7.isOwn = false → z = i → i + j = a.length →
    ∃ w : Nat → LVal, codeW D.T (.loop D.b25_0) { vars := [.vs n1 .sh m1 (duesL a), .vs n2 .sh m2 (duesL b), v2, v3, v4, .int .i64 a.length, .int .i64 z, v7, .undef], st := [], rs := [] } =
      some (if a.drop i = b.drop i then (.exit 0, { vars := [w 0, w 1, w 2, w 3, w 4, w 5, w 6, w 7, w 8], st := [], rs := [] }) else (.ret, { vars := [w 0, w 1, .bool false, w 3, w 4, w 5, w 6, w 7, w 8], st := [], rs := [] }))
  | 0, i, z, v2, v3, v4, v7, o2, o3, o4, o7, hz, hij => by
    subst hz
    have hi : i = a.length := by omega
    subst hi
    refine ⟨fun j => [.vs n1 .sh m1 (duesL a), .vs n2 .sh m2 (duesL b), v2, v3, v4, .int .i64 a.length, .int .i64 a.length, .bool false, .undef].getD j .undef, ?_⟩
    rw [if_pos (by rw [List.drop_length, hab, List.drop_length]), codeW_loop]
    simp [D.b25_0, runFun, LMode.isPure, LVal.pfs, LVal.pf, Go.L.initVars, codeW_seq, codeW_region, codeW_regionD, codeW_cond, codeW_ret, codeW_skip, codeW_exit, codeW_block, codeW_fence, thenW, outW, fenceOut, kill, LVal.withins, LVal.within, runOps, runOpsD, Go.L.step, stepD, semD, sem, RS.peek, RS.put, RS.give, RS.take, RS.takes, RS.takeElems, RS.takeParts, RS.peeks, RS.peekO, RS.setVar, RS.noPk, RS.settle, RS.alloc, callOut, LVal.arg, LVal.isAgg, LVal.cells, LVal.unpk, LVal.copy, LVal.down, LVal.plain, LVal.settled, binL, binInt, binStr, unL, resL, resOne, res1, resAll, LVal.isTup, outL, LOp.quiet, LOp.acts, LOp.peeks, LOper.fix, calmOk, loadCalm, awayOk, dstFree, LVal.free, LVal.calm, LVal.calm1, LOp.opds, optL, RS.acquire, appendL, elemsL, bound, inRange, intL, loadL, storeL, setElems, setParts, fitsElem, lenL, isNilL, partL, chunks, o7]
  | j + 1, i, z, v2, v3, v4, v7, o2, o3, o4, o7, hz, hij => by
    subst hz
    have hi : i < a.length := by omega
    have hi2 : i < b.length := by omega
    obtain ⟨x, hx⟩ : ∃ x, a[i]? = some x := ⟨_, List.getElem?_eq_getElem hi⟩
    obtain ⟨y, hy⟩ : ∃ y, b[i]? = some y := ⟨_, List.getElem?_eq_getElem hi2⟩
    have hda : a.drop i = x :: a.drop (i + 1) := by
      rw [List.drop_eq_getElem_cons hi]
      rw [List.getElem?_eq_getElem hi] at hx; injection hx with hx; rw [hx]
    have hdb : b.drop i = y :: b.drop (i + 1) := by
      rw [List.drop_eq_getElem_cons hi2]
      rw [List.getElem?_eq_getElem hi2] at hy; injection hy with hy; rw [hy]
    have hm1' : m1 = 4 := hm1 (fun e => by rw [e] at hi; simp at hi)
    have hm2' : m2 = 4 := hm2 (fun e => by rw [e] at hi2; simp at hi2)
    subst hm1'; subst hm2'
    have e1 : (i : Int) < (a.length : Int) := by omega
    have e0 : 0 ≤ (i : Int) ∧ (i : Int) < (a.length : Int) := by omega
    have e0' : 0 ≤ (i : Int) ∧ (i : Int) < (b.length : Int) := by omega
    have e3 : IntKind.i64.wrap ((i : Int) + 1) = (i : Int) + 1 := wi64 (by omega) (by omega)
    have e5 : (duesL a).length = a.length := duesL_len a
    have e5' : (duesL b).length = b.length := duesL_len b
    have e6 : (duesL a)[i]? = some (.agg x.cells) := by rw [duesL_get, hx]; rfl
    have e6' : (duesL b)[i]? = some (.agg y.cells) := by rw [duesL_get, hy]; rfl
    have e7 : ∀ (n : Nat) (l : List DueS), LVal.withins n (duesL l) = true := fun n l => duesL_within n l
    have e8 := eq_due x y
    simp only [DueS.cells] at e6 e6' e8
    rw [codeW_loop]
    generalize hK : thenW (codeW D.T (.loop D.b25_0)) = K
    by_cases hxy : x = y
    · obtain ⟨w, c1⟩ := loop25 n1 n2 4 4 a b hab hl hm1 hm2 j (i + 1) ((i : Int) + 1) .undef .undef .undef .undef rfl rfl rfl rfl (by omega) (by omega)
      refine ⟨w, ?_⟩
      have hc : (a.drop i = b.drop i) = (a.drop (i + 1) = b.drop (i + 1)) := by rw [hda, hdb, hxy]; simp
      simp only [hc]
      rw [decide_eq_true hxy] at e8
      simp [D.b25_0, runFun, LMode.isPure, LVal.pfs, LVal.pf, Go.L.initVars, codeW_seq, codeW_region, codeW_regionD, codeW_cond, codeW_ret, codeW_skip, codeW_exit, codeW_block, codeW_fence, thenW, outW, fenceOut, kill, LVal.withins, LVal.within, runOps, runOpsD, Go.L.step, stepD, semD, sem, RS.peek, RS.put, RS.give, RS.take, RS.takes, RS.takeElems, RS.takeParts, RS.peeks, RS.peekO, RS.setVar, RS.noPk, RS.settle, RS.alloc, callOut, LVal.arg, LVal.isAgg, LVal.cells, LVal.unpk, LVal.copy, LVal.down, LVal.plain, LVal.settled, binL, binInt, binStr, unL, resL, resOne, res1, resAll, LVal.isTup, outL, LOp.quiet, LOp.acts, LOp.peeks, LOper.fix, calmOk, loadCalm, awayOk, dstFree, LVal.free, LVal.calm, LVal.calm1, LOp.opds, optL, RS.acquire, appendL, elemsL, bound, inRange, intL, loadL, storeL, setElems, setParts, fitsElem, lenL, isNilL, partL, chunks, kindsOk, keyKind, o2, o3, o4, o7, e0, e0', e1, e3, e5, e5', e6, e6', e7, e8]
      subst hK
      simpa using c1
    · refine ⟨fun j => [.vs n1 .sh 4 (duesL a), .vs n2 .sh 4 (duesL b), .undef, .int .i64 i, v4.stay, .int .i64 a.length, .int .i64 i, .bool true, .bool true].getD j .undef, ?_⟩
      have hne : ¬ (a.drop i = b.drop i) := by rw [hda, hdb]; simp [hxy]
      rw [if_neg hne]
      rw [decide_eq_false hxy] at e8
      simp [D.b25_0, runFun, LMode.isPure, LVal.pfs, LVal.pf, Go.L.initVars, codeW_seq, codeW_region, codeW_regionD, codeW_cond, codeW_ret, codeW_skip, codeW_exit, codeW_block, codeW_fence, thenW, outW, fenceOut, kill, LVal.withins, LVal.within, runOps, runOpsD, Go.L.step, stepD, semD, sem, RS.peek, RS.put, RS.give, RS.take, RS.takes, RS.takeElems, RS.takeParts, RS.peeks, RS.peekO, RS.setVar, RS.noPk, RS.settle, RS.alloc, callOut, LVal.arg, LVal.isAgg, LVal.cells, LVal.unpk, LVal.copy, LVal.down, LVal.plain, LVal.settled, binL, binInt, binStr, unL, resL, resOne, res1, resAll, LVal.isTup, outL, LOp.quiet, LOp.acts, LOp.peeks, LOper.fix, calmOk, loadCalm, awayOk, dstFree, LVal.free, LVal.calm, LVal.calm1, LOp.opds, optL, RS.acquire, appendL, elemsL, bound, inRange, intL, loadL, storeL, setElems, setParts, fitsElem, lenL, isNilL, partL, chunks, kindsOk, keyKind, o2, o3, o4, o7, e0, e0', e1, e3, e5, e5', e6, e6', e7, e8]
      subst hK
      rfl

open Classical in
set_option maxHeartbeats 4000000 in
theorem equal_eq (n1 n2 : Bool) (m1 m2 : Nat) (a b : List DueS) (hl : a.length ≤ 100) (hl2 : b.length ≤ 100) (hm1 : a ≠ [] → m1 = 4) (hm2 : b ≠ [] → m2 = 4) :
    callW D.T 25 [.vs n1 .sh m1 (duesL a), .vs n2 .sh m2 (duesL b)] [] = some (.bool (decide (a = b)), none) := by
  have e5 : (duesL a).length = a.length := duesL_len a
  have e5' : (duesL b).length = b.length := duesL_len b
  rw [callW_fn fn25]
  by_cases hab : a.length = b.length
  · obtain ⟨w, c1⟩ := loop25 n1 n2 m1 m2 a b hab hl hm1 hm2 a.length 0 0 (.bool false) .undef (.bool false) .undef rfl rfl rfl rfl rfl (by omega)
    simp only [List.drop_zero] at c1
    rw [hab] at c1
    by_cases he : a = b
    · rw [if_pos he] at c1
      rw [decide_eq_true he]
      simp [D.l25, D.c25, runFun, LMode.isPure, LVal.pfs, LVal.pf, Go.L.initVars, codeW_seq, codeW_region, codeW_regionD, codeW_cond, codeW_ret, codeW_skip, codeW_exit, codeW_block, codeW_fence, thenW, outW, fenceOut, kill, LVal.withins, LVal.within, runOps, runOpsD, Go.L.step, stepD, semD, sem, RS.peek, RS.put, RS.give, RS.take, RS.takes, RS.takeElems, RS.takeParts, RS.peeks, RS.peekO, RS.setVar, RS.noPk, RS.settle, RS.alloc, callOut, LVal.arg, LVal.isAgg, LVal.cells, LVal.unpk, LVal.copy, LVal.down, LVal.plain, LVal.settled, binL, binInt, binStr, unL, resL, resOne, res1, resAll, LVal.isTup, outL, LOp.quiet, LOp.acts, LOp.peeks, LOper.fix, calmOk, loadCalm, awayOk, dstFree, LVal.free, LVal.calm, LVal.calm1, LOp.opds, optL, RS.acquire, appendL, elemsL, bound, inRange, intL, loadL, storeL, setElems, setParts, fitsElem, lenL, isNilL, partL, chunks, e5, e5', hab, c1]
    · rw [if_neg he] at c1
      rw [decide_eq_false he]
      simp [D.l25, D.c25, runFun, LMode.isPure, LVal.pfs, LVal.pf, Go.L.initVars, codeW_seq, codeW_region, codeW_regionD, codeW_cond, codeW_ret, codeW_skip, codeW_exit, codeW_block, codeW_fence, thenW, outW, fenceOut, kill, LVal.withins, LVal.within, runOps, runOpsD, Go.L.step, stepD, semD, sem, RS.peek, RS.put, RS.give, RS.take, RS.takes, RS.takeElems, RS.takeParts, RS.peeks, RS.peekO, RS.setVar, RS.noPk, RS.settle, RS.alloc, callOut, LVal.arg, LVal.isAgg, LVal.cells, LVal.unpk, LVal.copy, LVal.down, LVal.plain, LVal.settled, binL, binInt, binStr, unL, resL, resOne, res1, resAll, LVal.isTup, outL, LOp.quiet, LOp.acts, LOp.peeks, LOper.fix, calmOk, loadCalm, awayOk, dstFree, LVal.free, LVal.calm, LVal.calm1, LOp.opds, optL, RS.acquire, appendL, elemsL, bound, inRange, intL, loadL, storeL, setElems, setParts, fitsElem, lenL, isNilL, partL, chunks, e5, e5', hab, c1]
  · have he : ¬ a = b := fun e => hab (by rw [e])
    have : ¬ (a.length : Int) = (b.length : Int) := by omega
    rw [decide_eq_false he]
    simp [D.l25, D.c25, runFun, LMode.isPure, LVal.pfs, LVal.pf, Go.L.initVars, codeW_seq, codeW_region, codeW_regionD, codeW_cond, codeW_ret, codeW_skip, codeW_exit, codeW_block, codeW_fence, thenW, outW, fenceOut, kill, LVal.withins, LVal.within, runOps, runOpsD, Go.L.step, stepD, semD, sem, RS.peek, RS.put, RS.give, RS.take, RS.takes, RS.takeElems, RS.takeParts, RS.peeks, RS.peekO, RS.setVar, RS.noPk, RS.settle, RS.alloc, callOut, LVal.arg, LVal.isAgg, LVal.cells, LVal.unpk, LVal.copy, LVal.down, LVal.plain, LVal.settled, binL, binInt, binStr, unL, resL, resOne, res1, resAll, LVal.isTup, outL, LOp.quiet, LOp.acts, LOp.peeks, LOper.fix, calmOk, loadCalm, awayOk, dstFree, LVal.free, LVal.calm, LVal.calm1, LOp.opds, optL, RS.acquire, appendL, elemsL, bound, inRange, intL, loadL, storeL, setElems, setParts, fitsElem, lenL, isNilL, partL, chunks, e5, e5', hab, this]
end Go.Proofs.YtpfnlpakcldobaaGreat
