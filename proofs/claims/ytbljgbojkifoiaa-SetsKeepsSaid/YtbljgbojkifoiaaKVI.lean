/- Texts 23 24. -/
import Derived.Test.YtbljgbojkifoiaaKVH
section
set_option linter.unusedVariables false
set_option linter.unusedSimpArgs false
namespace Go.Proofs.Ytbljgbojkifoiaa
open Go Go.L

set_option maxHeartbeats 8000000 in
theorem end28 (o0 : Own) (ho : o0 = .sh ∨ ∃ e, o0 = .own 31 e) (l : List StateS) (s : StateS) (out v1 v3 v8 v9 v10 v11 v12 : LVal) (done : Bool) (o9 : v9.isOwn = false) :
    codeW D.T (.loop D.b28_0) (W28 o0 l s v1 v3 out done l.length v8 v9 v10 v11 v12) =
      some (.exit 0, { vars := [.vs false o0 31 (statesL l), v1, .ptr 0 0, v3, out, .str (keyB s), .bool done, .int .i64 l.length, v8, .bool false, v10, v11, v12], st := [.cells 31 s.cells], rs := [] }) := by
  have e5 : (statesL l).length = l.length := statesL_len l
  rcases ho with rfl | ⟨e, rfl⟩
  all_goals
    rw [codeW_loop]
    simp [D.b28_0, runFun, LMode.isPure, LVal.pfs, LVal.pf, Go.L.initVars, codeW_seq, codeW_region, codeW_regionD, codeW_cond, codeW_ret, codeW_skip, codeW_exit, codeW_block, codeW_fence, thenW, outW, fenceOut, kill, LVal.withins, LVal.within, runOps, runOpsD, Go.L.step, stepD, semD, sem, RS.peek, RS.put, RS.give, RS.take, RS.takes, RS.takeElems, RS.takeParts, RS.peeks, RS.peekO, RS.setVar, RS.noPk, RS.settle, RS.alloc, callOut, LVal.arg, LVal.isAgg, LVal.cells, LVal.unpk, LVal.copy, LVal.down, LVal.plain, LVal.settled, binL, binInt, binStr, unL, resL, resOne, res1, resAll, LVal.isTup, outL, LOp.quiet, LOp.acts, LOp.peeks, LOper.fix, calmOk, loadCalm, awayOk, dstFree, LVal.free, LVal.calm, LVal.calm1, LOp.opds, optL, RS.acquire, appendL, elemsL, bound, inRange, intL, loadL, storeL, setElems, setParts, fitsElem, lenL, isNilL, partL, chunks, o9, e5]

theorem loop28 (l : List StateS) (s : StateS) (hok : ∀ x ∈ l, x.ok ∧ x.few) (hs : s.ok ∧ s.few) (hl : l.length ≤ 999) : ∀ (j i : Nat) (o0 : Own) (ho : o0 = .sh ∨ ∃ e, o0 = .own 31 e) (acc : List StateS) (out v1 v3 v8 v9 v10 v11 v12 : LVal) (done : Bool),
    v3.isOwn = false → v8.isOwn = false → v9.isOwn = false → v10.isOwn = false → v11.isOwn = false → v12.isOwn = false → i + j = l.length → Lst out acc → acc.length ≤ i + (if done then 1 else 0) →
    (∀ d o, scanW s (l.drop i) done acc = some (d, o) → ∃ (out' : LVal) (w : Nat → LVal), Lst out' o ∧ o.length ≤ l.length + (if d then 1 else 0) ∧ codeW D.T (.loop D.b28_0) (W28 o0 l s v1 v3 out done i v8 v9 v10 v11 v12) =
      some (.exit 0, { vars := [w 0, w 1, .ptr 0 0, w 3, out', .str (keyB s), .bool d, w 7, w 8, w 9, w 10, w 11, w 12], st := [.cells 31 s.cells], rs := [] })) ∧
    (scanW s (l.drop i) done acc = none → ∃ (w : Nat → LVal), codeW D.T (.loop D.b28_0) (W28 o0 l s v1 v3 out done i v8 v9 v10 v11 v12) =
      some (.ret, { vars := [w 0, w 1, w 2, .vs false .sh 31 (statesL l), w 4, w 5, w 6, w 7, w 8, w 9, w 10, w 11, w 12], st := [.cells 31 s.cells], rs := [] }))
  | 0, i, o0, ho, acc, out, v1, v3, v8, v9, v10, v11, v12, done, o3, o8, o9, o10, o11, o12, hij, hacc, hlen => by
    have hi : i = l.length := by omega
    subst hi
    rw [List.drop_length]
    refine ⟨fun d o h => ?_, fun h => by simp [scanW] at h⟩
    simp only [scanW, Option.some.injEq, Prod.mk.injEq] at h
    obtain ⟨rfl, rfl⟩ := h
    exact ⟨out, fun j => ([.vs false o0 31 (statesL l), v1, .undef, v3, .undef, .undef, .undef, .int .i64 l.length, v8, .bool false, v10, v11, v12] : List LVal).getD j .undef, hacc, hlen, end28 o0 ho l s out v1 v3 v8 v9 v10 v11 v12 done o9⟩
  | j + 1, i, o0, ho, acc, out, v1, v3, v8, v9, v10, v11, v12, done, o3, o8, o9, o10, o11, o12, hij, hacc, hlen => by
    have hi : i < l.length := by omega
    obtain ⟨x, hx⟩ : ∃ x, l[i]? = some x := ⟨_, List.getElem?_eq_getElem hi⟩
    have hxm : x ∈ l := List.mem_of_getElem? hx
    have hdrop : l.drop i = x :: l.drop (i + 1) := by
      rw [List.drop_eq_getElem_cons hi]
      rw [List.getElem?_eq_getElem hi] at hx; injection hx with hx; rw [hx]
    have hl2 : acc.length ≤ 2000 := by
      revert hlen; cases done <;> simp <;> omega
    rw [hdrop]
    simp only [scanW]
    by_cases heq : keyB x = keyB s
    · refine ⟨fun d o h => by simp [heq] at h, fun _ => ?_⟩
      exact eq28 o0 ho l s x i acc out v1 v3 v8 v9 v10 v11 v12 done (hok x hxm) (by omega) hx hi heq o3 o8 o9 o10 o11 hacc
    · simp only [if_neg heq]
      by_cases hd : done = false ∧ keyB s < keyB x
      · obtain ⟨rfl, hlt⟩ := hd
        obtain ⟨out', o', ho', h1, h2⟩ := step28b o0 ho l s x i acc out v1 v3 v8 v9 v10 v11 v12 (hok x hxm) hs (by omega) hl2 hx hi heq o3 o8 o9 o10 o11 o12 hacc hlt
        simp only [hlt, and_self, if_true]
        rw [h2]
        exact loop28 l s hok hs hl j (i + 1) o' ho' _ out' .undef .undef .undef .undef .undef .undef .undef true rfl rfl rfl rfl rfl rfl (by omega) h1 (by simp at hlen ⊢; omega)
      · obtain ⟨out', o', ho', h1, h2⟩ := step28a o0 ho l s x i acc out v1 v3 v8 v9 v10 v11 v12 done (hok x hxm) hs (by omega) hl2 hx hi heq o3 o8 o9 o10 o11 o12 hacc hd
        simp only [if_neg hd]
        rw [h2]
        exact loop28 l s hok hs hl j (i + 1) o' ho' _ out' .undef .undef .undef .undef .undef .undef .undef done rfl rfl rfl rfl rfl rfl (by omega) h1 (by simp at hlen ⊢; omega)

/-- A slice of states, as it goes from call to call. -/
def Sl (v : LVal) (l : List StateS) : Prop := (l = [] ∧ v = .vs true .sh 0 []) ∨ (l ≠ [] ∧ ∃ o, v = .vs false o 31 (statesL l) ∧ (o = .sh ∨ o = .full))

set_option maxHeartbeats 8000000 in
theorem with_nil (s : StateS) (hs : s.ok ∧ s.few) : ∃ v, callW D.T 28 [.vs true .sh 0 [], .agg s.cells] [] = some (v, none) ∧ Sl v (withS [] s) := by
  have k1 := rkey_eq s hs.1 hs.2
  have ls : s.lies := ⟨hs.1.2.2.2.2.2.2.1, hs.1.2.2.2.2.2.2.2⟩
  obtain ⟨fs1, fs2, fs3⟩ := fits_state ls
  have fs4 := cells_own ls
  have fs5 := cells_down ls
  have e8 : ∀ n, LVal.withins n s.cells = true := fun n => cells_within n
  have ft : List.take 31 s.cells = s.cells := rfl
  have fs6 : ¬ ∃ x, x ∈ s.cells ∧ x.isOwn = true := by
    rintro ⟨x, h1, h2⟩
    rw [List.any_eq_false] at fs4
    exact fs4 x h1 h2
  obtain ⟨m1, m2⟩ : 256 ≤ maxBytes ∧ 1 ≤ maxBytes := ⟨mb (by omega), mb (by omega)⟩
  refine ⟨_, ?_, .inr ⟨by simp [withS, scanW], .sh, rfl, .inl rfl⟩⟩
  rw [callW_fn fn28]
  simp [D.l28, D.c28, runFun, LMode.isPure, LVal.pfs, LVal.pf, Go.L.initVars, codeW_seq, codeW_region, codeW_regionD, codeW_cond, codeW_ret, codeW_skip, codeW_exit, codeW_block, codeW_fence, thenW, outW, fenceOut, kill, LVal.withins, LVal.within, runOps, runOpsD, Go.L.step, stepD, semD, sem, RS.peek, RS.put, RS.give, RS.take, RS.takes, RS.takeElems, RS.takeParts, RS.peeks, RS.peekO, RS.setVar, RS.noPk, RS.settle, RS.alloc, callOut, LVal.arg, LVal.isAgg, LVal.cells, LVal.unpk, LVal.copy, LVal.down, LVal.settled, binL, binInt, binStr, unL, resL, resOne, res1, resAll, LVal.isTup, outL, LOp.quiet, LOp.acts, LOp.peeks, LOper.fix, calmOk, loadCalm, awayOk, dstFree, LVal.free, LVal.calm, LVal.calm1, LOp.opds, optL, RS.acquire, appendL, elemsL, bound, inRange, intL, loadL, storeL, setElems, setParts, fitsElem, lenL, isNilL, partL, chunks, k1, fs1, fs2, eq_true fs3, ft, eq_false fs6, fs5, e8, m1, m2, withS, scanW]
  rw [codeW_loop]
  simp [D.b28_0, runFun, LMode.isPure, LVal.pfs, LVal.pf, Go.L.initVars, codeW_seq, codeW_region, codeW_regionD, codeW_cond, codeW_ret, codeW_skip, codeW_exit, codeW_block, codeW_fence, thenW, outW, fenceOut, kill, LVal.withins, LVal.within, runOps, runOpsD, Go.L.step, stepD, semD, sem, RS.peek, RS.put, RS.give, RS.take, RS.takes, RS.takeElems, RS.takeParts, RS.peeks, RS.peekO, RS.setVar, RS.noPk, RS.settle, RS.alloc, callOut, LVal.arg, LVal.isAgg, LVal.cells, LVal.unpk, LVal.copy, LVal.down, LVal.settled, binL, binInt, binStr, unL, resL, resOne, res1, resAll, LVal.isTup, outL, LOp.quiet, LOp.acts, LOp.peeks, LOper.fix, calmOk, loadCalm, awayOk, dstFree, LVal.free, LVal.calm, LVal.calm1, LOp.opds, optL, RS.acquire, appendL, elemsL, bound, inRange, intL, loadL, storeL, setElems, setParts, fitsElem, lenL, isNilL, partL, chunks, k1, fs1, fs2, eq_true fs3, ft, eq_false fs6, fs5, e8, m1, m2, withS, scanW]
  rfl

set_option maxHeartbeats 8000000 in
theorem with_cons (l : List StateS) (s : StateS) (hne : l ≠ []) (hok : ∀ x ∈ l, x.ok ∧ x.few) (hs : s.ok ∧ s.few) (hl : l.length ≤ 999) (o0 : Own) (ho : o0 = .sh ∨ ∃ e, o0 = .own 31 e) :
    ∃ v, callW D.T 28 [.vs false o0 31 (statesL l), .agg s.cells] [] = some (v, none) ∧ Sl v (withS l s) := by
  have k1 := rkey_eq s hs.1 hs.2
  have ls : s.lies := ⟨hs.1.2.2.2.2.2.2.1, hs.1.2.2.2.2.2.2.2⟩
  obtain ⟨fs1, fs2, fs3⟩ := fits_state ls
  have fs4 := cells_own ls
  have fs5 := cells_down ls
  have e8 : ∀ n, LVal.withins n s.cells = true := fun n => cells_within n
  have e7 : LVal.pfs (statesL l) = true := statesL_pfs l
  have ft : List.take 31 s.cells = s.cells := rfl
  have fs6 : ¬ ∃ x, x ∈ s.cells ∧ x.isOwn = true := by
    rintro ⟨x, h1, h2⟩
    rw [List.any_eq_false] at fs4
    exact fs4 x h1 h2
  have IH := fun v1 v3 => loop28 l s hok hs hl l.length 0 o0 ho [] (.vs true .sh 0 []) v1 v3 .undef .undef .undef .undef .undef false
  have z0 : ((0 : Nat) : Int) = 0 := rfl
  match hsc : scanW s l false [] with
  | none =>
    have hw : withS l s = l := by simp [withS, hsc]
    rw [hw]
    obtain ⟨w, c1⟩ := (IH (.agg s.cells) (.vs true .sh 0 []) rfl rfl rfl rfl rfl rfl (by omega) (.inl ⟨rfl, rfl⟩) (by simp)).2 (by simpa using hsc)
    rw [z0] at c1
    refine ⟨_, ?_, .inr ⟨hne, .sh, rfl, .inl rfl⟩⟩
    rw [callW_fn fn28]
    rcases ho with rfl | ⟨e, rfl⟩
    · simp [D.l28, D.c28, runFun, LMode.isPure, LVal.pfs, LVal.pf, Go.L.initVars, codeW_seq, codeW_region, codeW_regionD, codeW_cond, codeW_ret, codeW_skip, codeW_exit, codeW_block, codeW_fence, thenW, outW, fenceOut, kill, LVal.withins, LVal.within, runOps, runOpsD, Go.L.step, stepD, semD, sem, RS.peek, RS.put, RS.give, RS.take, RS.takes, RS.takeElems, RS.takeParts, RS.peeks, RS.peekO, RS.setVar, RS.noPk, RS.settle, RS.alloc, callOut, LVal.arg, LVal.isAgg, LVal.cells, LVal.unpk, LVal.copy, LVal.down, LVal.settled, binL, binInt, binStr, unL, resL, resOne, res1, resAll, LVal.isTup, outL, LOp.quiet, LOp.acts, LOp.peeks, LOper.fix, calmOk, loadCalm, awayOk, dstFree, LVal.free, LVal.calm, LVal.calm1, LOp.opds, optL, RS.acquire, appendL, elemsL, bound, inRange, intL, loadL, storeL, setElems, setParts, fitsElem, lenL, isNilL, partL, chunks, k1, fs1, fs2, eq_true fs3, ft, eq_false fs6, fs5, e8, e7]
      rw [c1]
      simp [runFun, LMode.isPure, LVal.pfs, LVal.pf, Go.L.initVars, codeW_seq, codeW_region, codeW_regionD, codeW_cond, codeW_ret, codeW_skip, codeW_exit, codeW_block, codeW_fence, thenW, outW, fenceOut, kill, LVal.withins, LVal.within, runOps, runOpsD, Go.L.step, stepD, semD, sem, RS.peek, RS.put, RS.give, RS.take, RS.takes, RS.takeElems, RS.takeParts, RS.peeks, RS.peekO, RS.setVar, RS.noPk, RS.settle, RS.alloc, callOut, LVal.arg, LVal.isAgg, LVal.cells, LVal.unpk, LVal.copy, LVal.down, LVal.settled, binL, binInt, binStr, unL, resL, resOne, res1, resAll, LVal.isTup, outL, LOp.quiet, LOp.acts, LOp.peeks, LOper.fix, calmOk, loadCalm, awayOk, dstFree, LVal.free, LVal.calm, LVal.calm1, LOp.opds, optL, RS.acquire, appendL, elemsL, bound, inRange, intL, loadL, storeL, setElems, setParts, fitsElem, lenL, isNilL, partL, chunks, e7]
    · simp [D.l28, D.c28, runFun, LMode.isPure, LVal.pfs, LVal.pf, Go.L.initVars, codeW_seq, codeW_region, codeW_regionD, codeW_cond, codeW_ret, codeW_skip, codeW_exit, codeW_block, codeW_fence, thenW, outW, fenceOut, kill, LVal.withins, LVal.within, runOps, runOpsD, Go.L.step, stepD, semD, sem, RS.peek, RS.put, RS.give, RS.take, RS.takes, RS.takeElems, RS.takeParts, RS.peeks, RS.peekO, RS.setVar, RS.noPk, RS.settle, RS.alloc, callOut, LVal.arg, LVal.isAgg, LVal.cells, LVal.unpk, LVal.copy, LVal.down, LVal.settled, binL, binInt, binStr, unL, resL, resOne, res1, resAll, LVal.isTup, outL, LOp.quiet, LOp.acts, LOp.peeks, LOper.fix, calmOk, loadCalm, awayOk, dstFree, LVal.free, LVal.calm, LVal.calm1, LOp.opds, optL, RS.acquire, appendL, elemsL, bound, inRange, intL, loadL, storeL, setElems, setParts, fitsElem, lenL, isNilL, partL, chunks, k1, fs1, fs2, eq_true fs3, ft, eq_false fs6, fs5, e8, e7]
      rw [c1]
      simp [runFun, LMode.isPure, LVal.pfs, LVal.pf, Go.L.initVars, codeW_seq, codeW_region, codeW_regionD, codeW_cond, codeW_ret, codeW_skip, codeW_exit, codeW_block, codeW_fence, thenW, outW, fenceOut, kill, LVal.withins, LVal.within, runOps, runOpsD, Go.L.step, stepD, semD, sem, RS.peek, RS.put, RS.give, RS.take, RS.takes, RS.takeElems, RS.takeParts, RS.peeks, RS.peekO, RS.setVar, RS.noPk, RS.settle, RS.alloc, callOut, LVal.arg, LVal.isAgg, LVal.cells, LVal.unpk, LVal.copy, LVal.down, LVal.settled, binL, binInt, binStr, unL, resL, resOne, res1, resAll, LVal.isTup, outL, LOp.quiet, LOp.acts, LOp.peeks, LOper.fix, calmOk, loadCalm, awayOk, dstFree, LVal.free, LVal.calm, LVal.calm1, LOp.opds, optL, RS.acquire, appendL, elemsL, bound, inRange, intL, loadL, storeL, setElems, setParts, fitsElem, lenL, isNilL, partL, chunks, e7]
  | some (d, o) =>
    obtain ⟨out', w, hL, hlen, c1⟩ := (IH (.agg s.cells) (.vs true .sh 0 []) rfl rfl rfl rfl rfl rfl (by omega) (.inl ⟨rfl, rfl⟩) (by simp)).1 d o (by simpa using hsc)
    rw [z0] at c1
    have e9 : LVal.pfs (statesL o) = true := statesL_pfs o
    have e10 : (statesL o).length = o.length := statesL_len o
    have e14 : ∀ n, LVal.withins n (statesL o) = true := fun n => statesL_within n o
    cases d with
    | true =>
      have hw : withS l s = o := by simp [withS, hsc]
      rw [hw]
      simp at hlen
      have e11 : 0 < 1 := by omega
      rcases lst_cases hL with ⟨rfl, rfl⟩ | ⟨hne', o1, rfl, ho1⟩
      · refine ⟨_, ?_, .inl ⟨rfl, rfl⟩⟩
        rw [callW_fn fn28]
        rcases ho with rfl | ⟨e, rfl⟩
        all_goals
          simp [D.l28, D.c28, runFun, LMode.isPure, LVal.pfs, LVal.pf, Go.L.initVars, codeW_seq, codeW_region, codeW_regionD, codeW_cond, codeW_ret, codeW_skip, codeW_exit, codeW_block, codeW_fence, thenW, outW, fenceOut, kill, LVal.withins, LVal.within, runOps, runOpsD, Go.L.step, stepD, semD, sem, RS.peek, RS.put, RS.give, RS.take, RS.takes, RS.takeElems, RS.takeParts, RS.peeks, RS.peekO, RS.setVar, RS.noPk, RS.settle, RS.alloc, callOut, LVal.arg, LVal.isAgg, LVal.cells, LVal.unpk, LVal.copy, LVal.down, LVal.settled, binL, binInt, binStr, unL, resL, resOne, res1, resAll, LVal.isTup, outL, LOp.quiet, LOp.acts, LOp.peeks, LOper.fix, calmOk, loadCalm, awayOk, dstFree, LVal.free, LVal.calm, LVal.calm1, LOp.opds, optL, RS.acquire, appendL, elemsL, bound, inRange, intL, loadL, storeL, setElems, setParts, fitsElem, lenL, isNilL, partL, chunks, k1, fs1, fs2, eq_true fs3, ft, eq_false fs6, fs5, e8, e7]
          rw [c1]
          simp [runFun, LMode.isPure, LVal.pfs, LVal.pf, Go.L.initVars, codeW_seq, codeW_region, codeW_regionD, codeW_cond, codeW_ret, codeW_skip, codeW_exit, codeW_block, codeW_fence, thenW, outW, fenceOut, kill, LVal.withins, LVal.within, runOps, runOpsD, Go.L.step, stepD, semD, sem, RS.peek, RS.put, RS.give, RS.take, RS.takes, RS.takeElems, RS.takeParts, RS.peeks, RS.peekO, RS.setVar, RS.noPk, RS.settle, RS.alloc, callOut, LVal.arg, LVal.isAgg, LVal.cells, LVal.unpk, LVal.copy, LVal.down, LVal.settled, binL, binInt, binStr, unL, resL, resOne, res1, resAll, LVal.isTup, outL, LOp.quiet, LOp.acts, LOp.peeks, LOper.fix, calmOk, loadCalm, awayOk, dstFree, LVal.free, LVal.calm, LVal.calm1, LOp.opds, optL, RS.acquire, appendL, elemsL, bound, inRange, intL, loadL, storeL, setElems, setParts, fitsElem, lenL, isNilL, partL, chunks, e7, e8]
      · rcases ho1 with rfl | rfl
        · refine ⟨_, ?_, .inr ⟨hne', .full, rfl, .inr rfl⟩⟩
          rw [callW_fn fn28]
          rcases ho with rfl | ⟨e, rfl⟩
          all_goals
            simp [D.l28, D.c28, runFun, LMode.isPure, LVal.pfs, LVal.pf, Go.L.initVars, codeW_seq, codeW_region, codeW_regionD, codeW_cond, codeW_ret, codeW_skip, codeW_exit, codeW_block, codeW_fence, thenW, outW, fenceOut, kill, LVal.withins, LVal.within, runOps, runOpsD, Go.L.step, stepD, semD, sem, RS.peek, RS.put, RS.give, RS.take, RS.takes, RS.takeElems, RS.takeParts, RS.peeks, RS.peekO, RS.setVar, RS.noPk, RS.settle, RS.alloc, callOut, LVal.arg, LVal.isAgg, LVal.cells, LVal.unpk, LVal.copy, LVal.down, LVal.settled, binL, binInt, binStr, unL, resL, resOne, res1, resAll, LVal.isTup, outL, LOp.quiet, LOp.acts, LOp.peeks, LOper.fix, calmOk, loadCalm, awayOk, dstFree, LVal.free, LVal.calm, LVal.calm1, LOp.opds, optL, RS.acquire, appendL, elemsL, bound, inRange, intL, loadL, storeL, setElems, setParts, fitsElem, lenL, isNilL, partL, chunks, k1, fs1, fs2, eq_true fs3, ft, eq_false fs6, fs5, e8, e7]
            rw [c1]
            simp [runFun, LMode.isPure, LVal.pfs, LVal.pf, Go.L.initVars, codeW_seq, codeW_region, codeW_regionD, codeW_cond, codeW_ret, codeW_skip, codeW_exit, codeW_block, codeW_fence, thenW, outW, fenceOut, kill, LVal.withins, LVal.within, runOps, runOpsD, Go.L.step, stepD, semD, sem, RS.peek, RS.put, RS.give, RS.take, RS.takes, RS.takeElems, RS.takeParts, RS.peeks, RS.peekO, RS.setVar, RS.noPk, RS.settle, RS.alloc, callOut, LVal.arg, LVal.isAgg, LVal.cells, LVal.unpk, LVal.copy, LVal.down, LVal.settled, binL, binInt, binStr, unL, resL, resOne, res1, resAll, LVal.isTup, outL, LOp.quiet, LOp.acts, LOp.peeks, LOper.fix, calmOk, loadCalm, awayOk, dstFree, LVal.free, LVal.calm, LVal.calm1, LOp.opds, optL, RS.acquire, appendL, elemsL, bound, inRange, intL, loadL, storeL, setElems, setParts, fitsElem, lenL, isNilL, partL, chunks, e7, e8, e9, e10, e14]
        · refine ⟨_, ?_, .inr ⟨hne', .sh, rfl, .inl rfl⟩⟩
          rw [callW_fn fn28]
          rcases ho with rfl | ⟨e, rfl⟩
          all_goals
            simp [D.l28, D.c28, runFun, LMode.isPure, LVal.pfs, LVal.pf, Go.L.initVars, codeW_seq, codeW_region, codeW_regionD, codeW_cond, codeW_ret, codeW_skip, codeW_exit, codeW_block, codeW_fence, thenW, outW, fenceOut, kill, LVal.withins, LVal.within, runOps, runOpsD, Go.L.step, stepD, semD, sem, RS.peek, RS.put, RS.give, RS.take, RS.takes, RS.takeElems, RS.takeParts, RS.peeks, RS.peekO, RS.setVar, RS.noPk, RS.settle, RS.alloc, callOut, LVal.arg, LVal.isAgg, LVal.cells, LVal.unpk, LVal.copy, LVal.down, LVal.settled, binL, binInt, binStr, unL, resL, resOne, res1, resAll, LVal.isTup, outL, LOp.quiet, LOp.acts, LOp.peeks, LOper.fix, calmOk, loadCalm, awayOk, dstFree, LVal.free, LVal.calm, LVal.calm1, LOp.opds, optL, RS.acquire, appendL, elemsL, bound, inRange, intL, loadL, storeL, setElems, setParts, fitsElem, lenL, isNilL, partL, chunks, k1, fs1, fs2, eq_true fs3, ft, eq_false fs6, fs5, e8, e7]
            rw [c1]
            simp [runFun, LMode.isPure, LVal.pfs, LVal.pf, Go.L.initVars, codeW_seq, codeW_region, codeW_regionD, codeW_cond, codeW_ret, codeW_skip, codeW_exit, codeW_block, codeW_fence, thenW, outW, fenceOut, kill, LVal.withins, LVal.within, runOps, runOpsD, Go.L.step, stepD, semD, sem, RS.peek, RS.put, RS.give, RS.take, RS.takes, RS.takeElems, RS.takeParts, RS.peeks, RS.peekO, RS.setVar, RS.noPk, RS.settle, RS.alloc, callOut, LVal.arg, LVal.isAgg, LVal.cells, LVal.unpk, LVal.copy, LVal.down, LVal.settled, binL, binInt, binStr, unL, resL, resOne, res1, resAll, LVal.isTup, outL, LOp.quiet, LOp.acts, LOp.peeks, LOper.fix, calmOk, loadCalm, awayOk, dstFree, LVal.free, LVal.calm, LVal.calm1, LOp.opds, optL, RS.acquire, appendL, elemsL, bound, inRange, intL, loadL, storeL, setElems, setParts, fitsElem, lenL, isNilL, partL, chunks, e7, e8, e9, e10, e14]
    | false =>
      have hw : withS l s = o ++ [s] := by simp [withS, hsc]
      rw [hw]
      simp at hlen
      obtain ⟨m1, m2, m3, m4⟩ : 256 ≤ maxBytes ∧ 1 ≤ maxBytes ∧ (o.length + 1) * 256 ≤ maxBytes ∧ o.length + 1 ≤ maxBytes := ⟨mb (by omega), mb (by omega), mb (by omega), mb (by omega)⟩
      refine ⟨_, ?_, .inr ⟨by simp, .sh, rfl, .inl rfl⟩⟩
      rw [callW_fn fn28, statesL_append]
      rcases lst_cases hL with ⟨rfl, rfl⟩ | ⟨hne', o1, rfl, ho1⟩
      · rcases ho with rfl | ⟨e, rfl⟩
        all_goals
          simp [D.l28, D.c28, runFun, LMode.isPure, LVal.pfs, LVal.pf, Go.L.initVars, codeW_seq, codeW_region, codeW_regionD, codeW_cond, codeW_ret, codeW_skip, codeW_exit, codeW_block, codeW_fence, thenW, outW, fenceOut, kill, LVal.withins, LVal.within, runOps, runOpsD, Go.L.step, stepD, semD, sem, RS.peek, RS.put, RS.give, RS.take, RS.takes, RS.takeElems, RS.takeParts, RS.peeks, RS.peekO, RS.setVar, RS.noPk, RS.settle, RS.alloc, callOut, LVal.arg, LVal.isAgg, LVal.cells, LVal.unpk, LVal.copy, LVal.down, LVal.settled, binL, binInt, binStr, unL, resL, resOne, res1, resAll, LVal.isTup, outL, LOp.quiet, LOp.acts, LOp.peeks, LOper.fix, calmOk, loadCalm, awayOk, dstFree, LVal.free, LVal.calm, LVal.calm1, LOp.opds, optL, RS.acquire, appendL, elemsL, bound, inRange, intL, loadL, storeL, setElems, setParts, fitsElem, lenL, isNilL, partL, chunks, k1, fs1, fs2, eq_true fs3, ft, eq_false fs6, fs5, e8, e7]
          rw [c1]
          simp [runFun, LMode.isPure, LVal.pfs, LVal.pf, Go.L.initVars, codeW_seq, codeW_region, codeW_regionD, codeW_cond, codeW_ret, codeW_skip, codeW_exit, codeW_block, codeW_fence, thenW, outW, fenceOut, kill, LVal.withins, LVal.within, runOps, runOpsD, Go.L.step, stepD, semD, sem, RS.peek, RS.put, RS.give, RS.take, RS.takes, RS.takeElems, RS.takeParts, RS.peeks, RS.peekO, RS.setVar, RS.noPk, RS.settle, RS.alloc, callOut, LVal.arg, LVal.isAgg, LVal.cells, LVal.unpk, LVal.copy, LVal.down, LVal.settled, binL, binInt, binStr, unL, resL, resOne, res1, resAll, LVal.isTup, outL, LOp.quiet, LOp.acts, LOp.peeks, LOper.fix, calmOk, loadCalm, awayOk, dstFree, LVal.free, LVal.calm, LVal.calm1, LOp.opds, optL, RS.acquire, appendL, elemsL, bound, inRange, intL, loadL, storeL, setElems, setParts, fitsElem, lenL, isNilL, partL, chunks, e7, e8, fs1, fs2, eq_true fs3, ft, eq_false fs6, fs5, m1, m2]
          first | rfl | done
      · rcases ho with rfl | ⟨e, rfl⟩ <;> rcases ho1 with rfl | rfl
        all_goals
          simp [D.l28, D.c28, runFun, LMode.isPure, LVal.pfs, LVal.pf, Go.L.initVars, codeW_seq, codeW_region, codeW_regionD, codeW_cond, codeW_ret, codeW_skip, codeW_exit, codeW_block, codeW_fence, thenW, outW, fenceOut, kill, LVal.withins, LVal.within, runOps, runOpsD, Go.L.step, stepD, semD, sem, RS.peek, RS.put, RS.give, RS.take, RS.takes, RS.takeElems, RS.takeParts, RS.peeks, RS.peekO, RS.setVar, RS.noPk, RS.settle, RS.alloc, callOut, LVal.arg, LVal.isAgg, LVal.cells, LVal.unpk, LVal.copy, LVal.down, LVal.settled, binL, binInt, binStr, unL, resL, resOne, res1, resAll, LVal.isTup, outL, LOp.quiet, LOp.acts, LOp.peeks, LOper.fix, calmOk, loadCalm, awayOk, dstFree, LVal.free, LVal.calm, LVal.calm1, LOp.opds, optL, RS.acquire, appendL, elemsL, bound, inRange, intL, loadL, storeL, setElems, setParts, fitsElem, lenL, isNilL, partL, chunks, k1, fs1, fs2, eq_true fs3, ft, eq_false fs6, fs5, e8, e7]
          rw [c1]
          simp [runFun, LMode.isPure, LVal.pfs, LVal.pf, Go.L.initVars, codeW_seq, codeW_region, codeW_regionD, codeW_cond, codeW_ret, codeW_skip, codeW_exit, codeW_block, codeW_fence, thenW, outW, fenceOut, kill, LVal.withins, LVal.within, runOps, runOpsD, Go.L.step, stepD, semD, sem, RS.peek, RS.put, RS.give, RS.take, RS.takes, RS.takeElems, RS.takeParts, RS.peeks, RS.peekO, RS.setVar, RS.noPk, RS.settle, RS.alloc, callOut, LVal.arg, LVal.isAgg, LVal.cells, LVal.unpk, LVal.copy, LVal.down, LVal.settled, binL, binInt, binStr, unL, resL, resOne, res1, resAll, LVal.isTup, outL, LOp.quiet, LOp.acts, LOp.peeks, LOper.fix, calmOk, loadCalm, awayOk, dstFree, LVal.free, LVal.calm, LVal.calm1, LOp.opds, optL, RS.acquire, appendL, elemsL, bound, inRange, intL, loadL, storeL, setElems, setParts, fitsElem, lenL, isNilL, partL, chunks, e7, e8, e9, e10, e14, fs1, fs2, eq_true fs3, ft, eq_false fs6, fs5, m1, m2, m3, m4]
          first | rfl | done

/-- States, as a call gets them. -/
def sArg (l : List StateS) : LVal := if l = [] then .vs true .sh 0 [] else .vs false .sh 31 (statesL l)

/-- With. -/
theorem with_eq {l : List StateS} {s : StateS} (hok : ∀ x ∈ l, x.ok ∧ x.few) (hs : s.ok ∧ s.few) (hl : l.length ≤ 999) :
    ∃ v', callW D.T 28 [sArg l, .agg s.cells] [] = some (v', none) ∧ Sl v' (withS l s) := by
  by_cases h : l = []
  · subst h
    exact with_nil s hs
  · simp only [sArg, if_neg h]
    exact with_cons l s h hok hs hl .sh (.inl rfl)
end Go.Proofs.Ytbljgbojkifoiaa
end
section
set_option linter.unusedVariables false
set_option linter.unusedSimpArgs false
namespace Go.Proofs.Ytbljgbojkifoiaa
open Go Go.L

theorem fn13 : D.T.fns 13 = some (.fn D.l13) := rfl
/-- The set of a list. -/
def ofS (l : List StateS) : List StateS := l.foldl withS []

/-- States, however they lie. -/
def In (v : LVal) (l : List StateS) : Prop := ∃ b o n, v = .vs b o n (statesL l) ∧ (l = [] ∨ n = 31) ∧ (o = .sh ∨ o = .full ∨ ∃ e, o = .own 31 e)

theorem Sl.in {v : LVal} {l : List StateS} (h : Sl v l) : In v l := by
  rcases h with ⟨rfl, rfl⟩ | ⟨h1, o, rfl, ho⟩
  · exact ⟨true, .sh, 0, rfl, .inl rfl, .inl rfl⟩
  · exact ⟨false, o, 31, rfl, .inr rfl, ho.elim .inl fun h => .inr (.inl h)⟩

theorem scanW_mem {s : StateS} : ∀ (l : List StateS) (d : Bool) (acc : List StateS) (d' : Bool) (o : List StateS), scanW s l d acc = some (d', o) → ∀ x ∈ o, x ∈ acc ∨ x ∈ l ∨ x = s
  | [], d, acc, d', o, h, x, hx => by
    simp only [scanW, Option.some.injEq, Prod.mk.injEq] at h
    obtain ⟨_, rfl⟩ := h
    exact .inl hx
  | y :: l, d, acc, d', o, h, x, hx => by
    simp only [scanW] at h
    split at h
    · exact absurd h (by simp)
    · split at h
      · rcases scanW_mem l _ _ _ _ h x hx with h1 | h1 | h1
        · simp at h1
          rcases h1 with h1 | h1 | h1 <;> simp [h1]
        · simp [h1]
        · simp [h1]
      · rcases scanW_mem l _ _ _ _ h x hx with h1 | h1 | h1
        · simp at h1
          rcases h1 with h1 | h1 <;> simp [h1]
        · simp [h1]
        · simp [h1]

theorem scanW_len {s : StateS} : ∀ (l : List StateS) (d : Bool) (acc : List StateS) (d' : Bool) (o : List StateS), scanW s l d acc = some (d', o) → o.length + (if d then 1 else 0) = acc.length + l.length + (if d' then 1 else 0)
  | [], d, acc, d', o, h => by
    simp only [scanW, Option.some.injEq, Prod.mk.injEq] at h
    obtain ⟨rfl, rfl⟩ := h
    simp
  | y :: l, d, acc, d', o, h => by
    simp only [scanW] at h
    split at h
    · exact absurd h (by simp)
    · split at h
      · rename_i h1
        have := scanW_len l _ _ _ _ h
        simp [h1.1] at this ⊢
        omega
      · have := scanW_len l _ _ _ _ h
        simp at this ⊢
        omega

theorem withS_mem {l : List StateS} {s x : StateS} (h : x ∈ withS l s) : x ∈ l ∨ x = s := by
  simp only [withS] at h
  split at h
  · exact .inl h
  · rename_i d o hs
    have hm := scanW_mem l false [] d o hs
    split at h
    · rcases hm x h with h1 | h1 | h1
      · simp at h1
      · exact .inl h1
      · exact .inr h1
    · simp at h
      rcases h with h | h
      · rcases hm x h with h1 | h1 | h1
        · simp at h1
        · exact .inl h1
        · exact .inr h1
      · exact .inr h

theorem withS_len (l : List StateS) (s : StateS) : (withS l s).length ≤ l.length + 1 := by
  simp only [withS]
  split
  · omega
  · rename_i d o hs
    have := scanW_len l false [] d o hs
    cases d <;> simp at this ⊢ <;> omega

theorem foldW_mem : ∀ (l acc : List StateS) (x : StateS), x ∈ l.foldl withS acc → x ∈ acc ∨ x ∈ l
  | [], acc, x, h => .inl h
  | y :: l, acc, x, h => by
    rcases foldW_mem l (withS acc y) x h with h1 | h1
    · rcases withS_mem h1 with h2 | h2
      · exact .inl h2
      · exact .inr (by simp [h2])
    · exact .inr (by simp [h1])

theorem ofS_mem {l : List StateS} {x : StateS} (h : x ∈ ofS l) : x ∈ l := by
  rcases foldW_mem l [] x h with h1 | h1
  · simp at h1
  · exact h1

theorem foldW_len : ∀ (l acc : List StateS), (l.foldl withS acc).length ≤ acc.length + l.length
  | [], acc => by simp
  | y :: l, acc => by
    have h1 := foldW_len l (withS acc y)
    have h2 := withS_len acc y
    simp only [List.foldl_cons, List.length_cons]
    omega

theorem ofS_len (l : List StateS) : (ofS l).length ≤ l.length := by
  have := foldW_len l []
  simpa [ofS] using this

abbrev W13 (b : Bool) (o0 : Own) (n : Nat) (l : List StateS) (v1 out : LVal) (i : Int) (v4 : LVal) : RS :=
  { vars := [.vs b o0 n (statesL l), v1, out, .int .i64 i, v4], st := [], rs := [] }

set_option maxHeartbeats 8000000 in
theorem loop13 (b : Bool) (n : Nat) (l : List StateS) (hn : l = [] ∨ n = 31) (hok : ∀ x ∈ l, x.ok ∧ x.few) (hl : l.length ≤ 900) : ∀ (j i : Nat) (o0 : Own) (ho : o0 = .sh ∨ ∃ e, o0 = .own 31 e) (acc : List StateS) (out v1 v4 : LVal),
    v1.isOwn = false → v4.isOwn = false → i + j = l.length → Sl out acc → (∀ x ∈ acc, x ∈ l) → acc.length ≤ i →
    ∃ (out' : LVal) (w : Nat → LVal), Sl out' ((l.drop i).foldl withS acc) ∧ codeW D.T (.loop D.b13_0) (W13 b o0 n l v1 out i v4) =
      some (.exit 0, { vars := [w 0, w 1, out', w 3, w 4], st := [], rs := [] })
  | 0, i, o0, ho, acc, out, v1, v4, o1, o4, hij, hacc, hmem, hlen => by
    have hi : i = l.length := by omega
    subst hi
    have e5 : (statesL l).length = l.length := statesL_len l
    rw [List.drop_length]
    refine ⟨out, fun j => ([.vs b o0 n (statesL l), v1, .undef, .int .i64 l.length, .bool false] : List LVal).getD j .undef, hacc, ?_⟩
    rw [codeW_loop]
    rcases ho with rfl | ⟨e, rfl⟩
    all_goals simp [D.b13_0, runFun, LMode.isPure, LVal.pfs, LVal.pf, Go.L.initVars, codeW_seq, codeW_region, codeW_regionD, codeW_cond, codeW_ret, codeW_skip, codeW_exit, codeW_block, codeW_fence, thenW, outW, fenceOut, kill, LVal.withins, LVal.within, runOps, runOpsD, Go.L.step, stepD, semD, sem, RS.peek, RS.put, RS.give, RS.take, RS.takes, RS.takeElems, RS.takeParts, RS.peeks, RS.peekO, RS.setVar, RS.noPk, RS.settle, RS.alloc, callOut, LVal.arg, LVal.isAgg, LVal.cells, LVal.unpk, LVal.copy, LVal.down, LVal.plain, LVal.settled, binL, binInt, binStr, unL, resL, resOne, res1, resAll, LVal.isTup, outL, LOp.quiet, LOp.acts, LOp.peeks, LOper.fix, calmOk, loadCalm, awayOk, dstFree, LVal.free, LVal.calm, LVal.calm1, LOp.opds, optL, RS.acquire, appendL, elemsL, bound, inRange, intL, loadL, storeL, setElems, setParts, fitsElem, lenL, isNilL, partL, chunks, o4, e5]
  | j + 1, i, o0, ho, acc, out, v1, v4, o1, o4, hij, hacc, hmem, hlen => by
    have hi : i < l.length := by omega
    obtain ⟨x, hx⟩ : ∃ x, l[i]? = some x := ⟨_, List.getElem?_eq_getElem hi⟩
    have hxm : x ∈ l := List.mem_of_getElem? hx
    have hdrop : l.drop i = x :: l.drop (i + 1) := by
      rw [List.drop_eq_getElem_cons hi]
      rw [List.getElem?_eq_getElem hi] at hx; injection hx with hx; rw [hx]
    have hn' : n = 31 := by
      rcases hn with rfl | h
      · simp at hi
      · exact h
    subst hn'
    have e1 : (i : Int) < (l.length : Int) := by omega
    have e0 : 0 ≤ (i : Int) ∧ (i : Int) < (l.length : Int) := by omega
    have e3 : IntKind.i64.wrap ((i : Int) + 1) = (i : Int) + 1 := wi64 (by omega) (by omega)
    have e5 : (statesL l).length = l.length := statesL_len l
    have e6 : (statesL l)[i]? = some (.agg x.cells) := by rw [statesL_get, hx]; rfl
    have e7 : ∀ l : List StateS, LVal.pfs (statesL l) = true := statesL_pfs
    have lx : x.lies := ⟨(hok x hxm).1.2.2.2.2.2.2.1, (hok x hxm).1.2.2.2.2.2.2.2⟩
    obtain ⟨fx1, fx2, fx3⟩ := fits_state lx
    obtain ⟨v', c28, hS⟩ := with_eq (fun y hy => hok y (hmem y hy)) (hok x hxm) (by omega)
    have hS' := hS
    rw [hdrop, List.foldl_cons]
    have hmem' : ∀ y ∈ withS acc x, y ∈ l := fun y hy => by
      rcases withS_mem hy with h | h
      · exact hmem y h
      · exact h ▸ hxm
    have hlen' : (withS acc x).length ≤ i + 1 := Nat.le_trans (withS_len acc x) (by omega)
    obtain ⟨o', ho', hw⟩ : ∃ o', (o' = .sh ∨ ∃ e, o' = .own 31 e) ∧ codeW D.T (.loop D.b13_0) (W13 b o0 31 l v1 out i v4) = codeW D.T (.loop D.b13_0) (W13 b o' 31 l .undef v' (i + 1 : Nat) .undef) := by
      conv => enter [1, o', 2, 1]; rw [codeW_loop]
      generalize hK : thenW (codeW D.T (.loop D.b13_0)) = K
      rcases ho with rfl | ⟨e, rfl⟩
      · refine ⟨.sh, .inl rfl, ?_⟩
        rcases hacc with ⟨rfl, rfl⟩ | ⟨hne, o, rfl, rfl | rfl⟩ <;> (first | (simp only [sArg, if_neg hne] at c28) | (simp only [sArg, if_true] at c28)) <;> rcases hS' with ⟨-, rfl⟩ | ⟨-, o2, rfl, rfl | rfl⟩
        all_goals
          simp [D.b13_0, runFun, LMode.isPure, LVal.pfs, LVal.pf, Go.L.initVars, codeW_seq, codeW_region, codeW_regionD, codeW_cond, codeW_ret, codeW_skip, codeW_exit, codeW_block, codeW_fence, thenW, outW, fenceOut, kill, LVal.withins, LVal.within, runOps, runOpsD, Go.L.step, stepD, semD, sem, RS.peek, RS.put, RS.give, RS.take, RS.takes, RS.takeElems, RS.takeParts, RS.peeks, RS.peekO, RS.setVar, RS.noPk, RS.settle, RS.alloc, callOut, LVal.arg, LVal.isAgg, LVal.cells, LVal.unpk, LVal.copy, LVal.down, LVal.plain, LVal.settled, binL, binInt, binStr, unL, resL, resOne, res1, resAll, LVal.isTup, outL, LOp.quiet, LOp.acts, LOp.peeks, LOper.fix, calmOk, loadCalm, awayOk, dstFree, LVal.free, LVal.calm, LVal.calm1, LOp.opds, optL, RS.acquire, appendL, elemsL, bound, inRange, intL, loadL, storeL, setElems, setParts, fitsElem, lenL, isNilL, partL, chunks, o1, o4, e0, e1, e3, e5, e6, e7, fx1, fx2, fx3, c28]
          subst hK
          rfl
      · refine ⟨.own 31 false, .inr ⟨_, rfl⟩, ?_⟩
        rcases hacc with ⟨rfl, rfl⟩ | ⟨hne, o, rfl, rfl | rfl⟩ <;> (first | (simp only [sArg, if_neg hne] at c28) | (simp only [sArg, if_true] at c28)) <;> rcases hS' with ⟨-, rfl⟩ | ⟨-, o2, rfl, rfl | rfl⟩
        all_goals
          simp [D.b13_0, runFun, LMode.isPure, LVal.pfs, LVal.pf, Go.L.initVars, codeW_seq, codeW_region, codeW_regionD, codeW_cond, codeW_ret, codeW_skip, codeW_exit, codeW_block, codeW_fence, thenW, outW, fenceOut, kill, LVal.withins, LVal.within, runOps, runOpsD, Go.L.step, stepD, semD, sem, RS.peek, RS.put, RS.give, RS.take, RS.takes, RS.takeElems, RS.takeParts, RS.peeks, RS.peekO, RS.setVar, RS.noPk, RS.settle, RS.alloc, callOut, LVal.arg, LVal.isAgg, LVal.cells, LVal.unpk, LVal.copy, LVal.down, LVal.plain, LVal.settled, binL, binInt, binStr, unL, resL, resOne, res1, resAll, LVal.isTup, outL, LOp.quiet, LOp.acts, LOp.peeks, LOper.fix, calmOk, loadCalm, awayOk, dstFree, LVal.free, LVal.calm, LVal.calm1, LOp.opds, optL, RS.acquire, appendL, elemsL, bound, inRange, intL, loadL, storeL, setElems, setParts, fitsElem, lenL, isNilL, partL, chunks, o1, o4, e0, e1, e3, e5, e6, e7, fx1, fx2, fx3, c28]
          subst hK
          rfl
    rw [hw]
    exact loop13 b 31 l (.inr rfl) hok hl j (i + 1) o' ho' _ v' .undef .undef rfl rfl (by omega) hS hmem' hlen'

set_option maxHeartbeats 8000000 in
/-- Of. -/
theorem rof_eq {b : Bool} {n : Nat} {l : List StateS} (hn : l = [] ∨ n = 31) (hok : ∀ x ∈ l, x.ok ∧ x.few) (hl : l.length ≤ 900) :
    ∃ v', callW D.T 13 [.vs b .sh n (statesL l)] [] = some (v', none) ∧ Sl v' (ofS l) := by
  obtain ⟨out', w, hS, c1⟩ := loop13 b n l hn hok hl l.length 0 .sh (.inl rfl) [] (.vs true .sh 0 []) (.vs true .sh 0 []) .undef rfl rfl (by omega) (.inl ⟨rfl, rfl⟩) (by simp) (by simp)
  have z0 : ((0 : Nat) : Int) = 0 := rfl
  rw [z0] at c1
  simp only [List.drop_zero] at hS
  have e7 : ∀ l : List StateS, LVal.pfs (statesL l) = true := statesL_pfs
  have key : ∀ v', Sl v' (ofS l) → ∃ v2, Sl v2 (ofS l) ∧ True := fun v' h => ⟨v', h, trivial⟩
  rcases hS with ⟨h1, rfl⟩ | ⟨h1, o2, rfl, rfl | rfl⟩
  · refine ⟨_, ?_, .inl ⟨h1, rfl⟩⟩
    rw [callW_fn fn13]
    simp [D.l13, D.c13, runFun, LMode.isPure, LVal.pfs, LVal.pf, Go.L.initVars, codeW_seq, codeW_region, codeW_regionD, codeW_cond, codeW_ret, codeW_skip, codeW_exit, codeW_block, codeW_fence, thenW, outW, fenceOut, kill, LVal.withins, LVal.within, runOps, runOpsD, Go.L.step, stepD, semD, sem, RS.peek, RS.put, RS.give, RS.take, RS.takes, RS.takeElems, RS.takeParts, RS.peeks, RS.peekO, RS.setVar, RS.noPk, RS.settle, RS.alloc, callOut, LVal.arg, LVal.isAgg, LVal.cells, LVal.unpk, LVal.copy, LVal.down, LVal.plain, LVal.settled, binL, binInt, binStr, unL, resL, resOne, res1, resAll, LVal.isTup, outL, LOp.quiet, LOp.acts, LOp.peeks, LOper.fix, calmOk, loadCalm, awayOk, dstFree, LVal.free, LVal.calm, LVal.calm1, LOp.opds, optL, RS.acquire, appendL, elemsL, bound, inRange, intL, loadL, storeL, setElems, setParts, fitsElem, lenL, isNilL, partL, chunks, e7]
    rw [c1]
    simp [runFun, LMode.isPure, LVal.pfs, LVal.pf, Go.L.initVars, codeW_seq, codeW_region, codeW_regionD, codeW_cond, codeW_ret, codeW_skip, codeW_exit, codeW_block, codeW_fence, thenW, outW, fenceOut, kill, LVal.withins, LVal.within, runOps, runOpsD, Go.L.step, stepD, semD, sem, RS.peek, RS.put, RS.give, RS.take, RS.takes, RS.takeElems, RS.takeParts, RS.peeks, RS.peekO, RS.setVar, RS.noPk, RS.settle, RS.alloc, callOut, LVal.arg, LVal.isAgg, LVal.cells, LVal.unpk, LVal.copy, LVal.down, LVal.plain, LVal.settled, binL, binInt, binStr, unL, resL, resOne, res1, resAll, LVal.isTup, outL, LOp.quiet, LOp.acts, LOp.peeks, LOper.fix, calmOk, loadCalm, awayOk, dstFree, LVal.free, LVal.calm, LVal.calm1, LOp.opds, optL, RS.acquire, appendL, elemsL, bound, inRange, intL, loadL, storeL, setElems, setParts, fitsElem, lenL, isNilL, partL, chunks, e7]
  · refine ⟨_, ?_, .inr ⟨h1, .sh, rfl, .inl rfl⟩⟩
    rw [callW_fn fn13]
    simp [D.l13, D.c13, runFun, LMode.isPure, LVal.pfs, LVal.pf, Go.L.initVars, codeW_seq, codeW_region, codeW_regionD, codeW_cond, codeW_ret, codeW_skip, codeW_exit, codeW_block, codeW_fence, thenW, outW, fenceOut, kill, LVal.withins, LVal.within, runOps, runOpsD, Go.L.step, stepD, semD, sem, RS.peek, RS.put, RS.give, RS.take, RS.takes, RS.takeElems, RS.takeParts, RS.peeks, RS.peekO, RS.setVar, RS.noPk, RS.settle, RS.alloc, callOut, LVal.arg, LVal.isAgg, LVal.cells, LVal.unpk, LVal.copy, LVal.down, LVal.plain, LVal.settled, binL, binInt, binStr, unL, resL, resOne, res1, resAll, LVal.isTup, outL, LOp.quiet, LOp.acts, LOp.peeks, LOper.fix, calmOk, loadCalm, awayOk, dstFree, LVal.free, LVal.calm, LVal.calm1, LOp.opds, optL, RS.acquire, appendL, elemsL, bound, inRange, intL, loadL, storeL, setElems, setParts, fitsElem, lenL, isNilL, partL, chunks, e7]
    rw [c1]
    simp [runFun, LMode.isPure, LVal.pfs, LVal.pf, Go.L.initVars, codeW_seq, codeW_region, codeW_regionD, codeW_cond, codeW_ret, codeW_skip, codeW_exit, codeW_block, codeW_fence, thenW, outW, fenceOut, kill, LVal.withins, LVal.within, runOps, runOpsD, Go.L.step, stepD, semD, sem, RS.peek, RS.put, RS.give, RS.take, RS.takes, RS.takeElems, RS.takeParts, RS.peeks, RS.peekO, RS.setVar, RS.noPk, RS.settle, RS.alloc, callOut, LVal.arg, LVal.isAgg, LVal.cells, LVal.unpk, LVal.copy, LVal.down, LVal.plain, LVal.settled, binL, binInt, binStr, unL, resL, resOne, res1, resAll, LVal.isTup, outL, LOp.quiet, LOp.acts, LOp.peeks, LOper.fix, calmOk, loadCalm, awayOk, dstFree, LVal.free, LVal.calm, LVal.calm1, LOp.opds, optL, RS.acquire, appendL, elemsL, bound, inRange, intL, loadL, storeL, setElems, setParts, fitsElem, lenL, isNilL, partL, chunks, e7, ofS]
  · refine ⟨_, ?_, .inr ⟨h1, .full, rfl, .inr rfl⟩⟩
    rw [callW_fn fn13]
    simp [D.l13, D.c13, runFun, LMode.isPure, LVal.pfs, LVal.pf, Go.L.initVars, codeW_seq, codeW_region, codeW_regionD, codeW_cond, codeW_ret, codeW_skip, codeW_exit, codeW_block, codeW_fence, thenW, outW, fenceOut, kill, LVal.withins, LVal.within, runOps, runOpsD, Go.L.step, stepD, semD, sem, RS.peek, RS.put, RS.give, RS.take, RS.takes, RS.takeElems, RS.takeParts, RS.peeks, RS.peekO, RS.setVar, RS.noPk, RS.settle, RS.alloc, callOut, LVal.arg, LVal.isAgg, LVal.cells, LVal.unpk, LVal.copy, LVal.down, LVal.plain, LVal.settled, binL, binInt, binStr, unL, resL, resOne, res1, resAll, LVal.isTup, outL, LOp.quiet, LOp.acts, LOp.peeks, LOper.fix, calmOk, loadCalm, awayOk, dstFree, LVal.free, LVal.calm, LVal.calm1, LOp.opds, optL, RS.acquire, appendL, elemsL, bound, inRange, intL, loadL, storeL, setElems, setParts, fitsElem, lenL, isNilL, partL, chunks, e7]
    rw [c1]
    simp [runFun, LMode.isPure, LVal.pfs, LVal.pf, Go.L.initVars, codeW_seq, codeW_region, codeW_regionD, codeW_cond, codeW_ret, codeW_skip, codeW_exit, codeW_block, codeW_fence, thenW, outW, fenceOut, kill, LVal.withins, LVal.within, runOps, runOpsD, Go.L.step, stepD, semD, sem, RS.peek, RS.put, RS.give, RS.take, RS.takes, RS.takeElems, RS.takeParts, RS.peeks, RS.peekO, RS.setVar, RS.noPk, RS.settle, RS.alloc, callOut, LVal.arg, LVal.isAgg, LVal.cells, LVal.unpk, LVal.copy, LVal.down, LVal.plain, LVal.settled, binL, binInt, binStr, unL, resL, resOne, res1, resAll, LVal.isTup, outL, LOp.quiet, LOp.acts, LOp.peeks, LOper.fix, calmOk, loadCalm, awayOk, dstFree, LVal.free, LVal.calm, LVal.calm1, LOp.opds, optL, RS.acquire, appendL, elemsL, bound, inRange, intL, loadL, storeL, setElems, setParts, fitsElem, lenL, isNilL, partL, chunks, e7, ofS]
end Go.Proofs.Ytbljgbojkifoiaa
end
