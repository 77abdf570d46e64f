/- Sets by the document: Has. -/
import Derived.Test.YtbljgbojkifoiaaVM
section
set_option linter.unusedVariables false
set_option linter.unusedSimpArgs false
namespace Go.Proofs.Ytbljgbojkifoiaa
open Go Go.L

theorem fn19 : D.T.fns 19 = some (.fn D.l19) := rfl
/-- One alike is in the list. -/
def hasS (l : List StateS) (s : StateS) : Bool := l.any fun x => keyB x == keyB s

abbrev W19 (b0 : Bool) (n0 : Nat) (l : List StateS) (s : StateS) (v1 v3 : LVal) (i : Int) : RS :=
  { vars := [.vs b0 .sh n0 (statesL l), v1, .ptr 0 0, v3, .int .i64 i, .undef, .undef], st := [.cells 31 s.cells], rs := [] }

set_option maxHeartbeats 8000000 in
theorem loop19 (b0 : Bool) (n0 : Nat) (l : List StateS) (s : StateS) (h0 : l = [] ∨ n0 = 31) (hl1 : ∀ x ∈ l, x.ok ∧ x.few) (hs : s.ok ∧ s.few) (hl : l.length ≤ 100000) : ∀ (j i : Nat) (v1 v3 : LVal),
    v1.isOwn = false → v3.isOwn = false → i + j = l.length →
    ∃ (w : Nat → LVal), codeW D.T (.loop D.b19_0) (W19 b0 n0 l s v1 v3 i) =
      some (if hasS (l.drop i) s then .ret else .exit 0, { vars := [w 0, w 1, w 2, if hasS (l.drop i) s then .bool true else w 3, w 4, w 5, w 6], st := [.cells 31 s.cells], rs := [] })
  | 0, i, v1, v3, o1, o3, hij => by
    have hi : i = l.length := by omega
    subst hi
    have e5 : (statesL l).length = l.length := statesL_len l
    rw [List.drop_length]
    refine ⟨fun j => ([.vs b0 .sh n0 (statesL l), v1, .ptr 0 0, v3, .int .i64 l.length, .bool false, .undef] : List LVal).getD j .undef, ?_⟩
    rw [codeW_loop]
    simp [D.b19_0, runFun, LMode.isPure, LVal.pfs, LVal.pf, Go.L.initVars, codeW_seq, codeW_region, codeW_regionD, codeW_cond, codeW_ret, codeW_skip, codeW_exit, codeW_block, codeW_fence, thenW, outW, fenceOut, kill, LVal.withins, LVal.within, runOps, runOpsD, Go.L.step, stepD, semD, sem, RS.peek, RS.put, RS.give, RS.take, RS.takes, RS.takeElems, RS.takeParts, RS.peeks, RS.peekO, RS.setVar, RS.noPk, RS.settle, RS.alloc, callOut, LVal.arg, LVal.isAgg, LVal.cells, LVal.unpk, LVal.copy, LVal.down, LVal.plain, LVal.settled, binL, binInt, binStr, unL, resL, resOne, res1, resAll, LVal.isTup, outL, LOp.quiet, LOp.acts, LOp.peeks, LOper.fix, calmOk, loadCalm, awayOk, dstFree, LVal.free, LVal.calm, LVal.calm1, LOp.opds, optL, RS.acquire, appendL, elemsL, bound, inRange, intL, loadL, storeL, setElems, setParts, fitsElem, lenL, isNilL, partL, chunks, o1, o3, e5, hasS]
  | j + 1, i, v1, v3, o1, o3, hij => by
    have hi : i < l.length := by omega
    obtain ⟨x, hx⟩ : ∃ x, l[i]? = some x := ⟨_, List.getElem?_eq_getElem hi⟩
    have hdrop : l.drop i = x :: l.drop (i + 1) := by
      rw [List.drop_eq_getElem_cons hi]
      rw [List.getElem?_eq_getElem hi] at hx; injection hx with hx; rw [hx]
    have hn0 : n0 = 31 := by
      rcases h0 with rfl | h
      · simp at hi
      · exact h
    subst hn0
    have e2 : (i : Int) < (l.length : Int) := by omega
    have e0 : 0 ≤ (i : Int) ∧ (i : Int) < (l.length : Int) := by omega
    have e3 : IntKind.i64.wrap ((i : Int) + 1) = (i : Int) + 1 := wi64 (by omega) (by omega)
    have e5 : (statesL l).length = l.length := statesL_len l
    have e6 : (statesL l)[i]? = some (.agg x.cells) := by rw [statesL_get, hx]; rfl
    have hxo := hl1 x (List.mem_of_getElem? hx)
    have e7 : ∀ l : List StateS, LVal.pfs (statesL l) = true := statesL_pfs
    have e7' : ∀ (n : Nat) (l : List StateS), LVal.withins n (statesL l) = true := fun n l => statesL_within n l
    have e8 : ∀ (n : Nat) (s : StateS), LVal.withins n s.cells = true := fun n s => cells_within n
    have lx : x.lies := ⟨hxo.1.2.2.2.2.2.2.1, hxo.1.2.2.2.2.2.2.2⟩
    have ls : s.lies := ⟨hs.1.2.2.2.2.2.2.1, hs.1.2.2.2.2.2.2.2⟩
    obtain ⟨fx1, fx2, fx3⟩ := fits_state lx
    obtain ⟨fs1, fs2, fs3⟩ := fits_state ls
    have fs4 := cells_own ls
    have fs5 := cells_down ls
    have fs6 := cells_stay ls
    have fs7 := cells_settled ls
    have fs8 : ∀ x_1, x_1 ∈ s.cells → x_1.plain = true ∨ x_1.isOwn = true := fun _ h => .inl (fs3 _ h)
    have ft : List.take 31 s.cells = s.cells := rfl
    have c12 := same_eq x s (hxo.1.shut hxo.2) (hs.1.shut hs.2)
    have hk : @decide (Alike x s) (Classical.propDecidable _) = (keyB x == keyB s) := by
      rw [Bool.eq_iff_iff]
      simp [key_inj]
    rw [hk] at c12
    rw [hdrop]
    obtain ⟨w, IH⟩ := loop19 b0 31 l s (.inr rfl) hl1 hs hl j (i + 1) .undef .undef rfl rfl (by omega)
    rw [codeW_loop]
    generalize hK : thenW (codeW D.T (.loop D.b19_0)) = K
    cases hq : keyB x == keyB s with
    | true =>
      have hh : hasS (x :: l.drop (i + 1)) s = true := by simp [hasS, hq]
      rw [hh]
      rw [hq] at c12
      refine ⟨fun j => ([.vs b0 .sh 31 (statesL l), v1.stay, .ptr 0 0, .undef, .int .i64 i, .bool true, .bool true] : List LVal).getD j .undef, ?_⟩
      simp [D.b19_0, runFun, LMode.isPure, LVal.pfs, LVal.pf, Go.L.initVars, codeW_seq, codeW_region, codeW_regionD, codeW_cond, codeW_ret, codeW_skip, codeW_exit, codeW_block, codeW_fence, thenW, outW, fenceOut, kill, LVal.withins, LVal.within, runOps, runOpsD, Go.L.step, stepD, semD, sem, RS.peek, RS.put, RS.give, RS.take, RS.takes, RS.takeElems, RS.takeParts, RS.peeks, RS.peekO, RS.setVar, RS.noPk, RS.settle, RS.alloc, callOut, LVal.arg, LVal.isAgg, LVal.cells, LVal.unpk, LVal.copy, LVal.down, binL, binInt, binStr, unL, resL, resOne, res1, resAll, LVal.isTup, outL, LOp.quiet, LOp.acts, LOp.peeks, LOper.fix, calmOk, loadCalm, awayOk, dstFree, LVal.free, LVal.calm, LVal.calm1, LOp.opds, optL, RS.acquire, appendL, elemsL, bound, inRange, intL, loadL, storeL, setElems, setParts, fitsElem, lenL, isNilL, partL, chunks, o1, o3, e0, e2, e3, e5, e6, e7, e7', e8, fx1, fx2, fs1, fs2, eq_true fs3, eq_true fs7, eq_true fs8, fs4, fs5, fs6, ft, c12]
      subst hK
      rfl
    | false =>
      have hh : hasS (x :: l.drop (i + 1)) s = hasS (l.drop (i + 1)) s := by simp [hasS, hq]
      rw [hh]
      rw [hq] at c12
      refine ⟨w, ?_⟩
      simp [D.b19_0, runFun, LMode.isPure, LVal.pfs, LVal.pf, Go.L.initVars, codeW_seq, codeW_region, codeW_regionD, codeW_cond, codeW_ret, codeW_skip, codeW_exit, codeW_block, codeW_fence, thenW, outW, fenceOut, kill, LVal.withins, LVal.within, runOps, runOpsD, Go.L.step, stepD, semD, sem, RS.peek, RS.put, RS.give, RS.take, RS.takes, RS.takeElems, RS.takeParts, RS.peeks, RS.peekO, RS.setVar, RS.noPk, RS.settle, RS.alloc, callOut, LVal.arg, LVal.isAgg, LVal.cells, LVal.unpk, LVal.copy, LVal.down, binL, binInt, binStr, unL, resL, resOne, res1, resAll, LVal.isTup, outL, LOp.quiet, LOp.acts, LOp.peeks, LOper.fix, calmOk, loadCalm, awayOk, dstFree, LVal.free, LVal.calm, LVal.calm1, LOp.opds, optL, RS.acquire, appendL, elemsL, bound, inRange, intL, loadL, storeL, setElems, setParts, fitsElem, lenL, isNilL, partL, chunks, o1, o3, e0, e2, e3, e5, e6, e7, e7', e8, fx1, fx2, fs1, fs2, eq_true fs3, eq_true fs7, eq_true fs8, fs4, fs5, fs6, ft, c12]
      subst hK
      exact IH

set_option maxHeartbeats 8000000 in
/-- Has, by the document. -/
theorem rhas_eq {b0 : Bool} {n0 : Nat} {l : List StateS} {s : StateS} (h0 : l = [] ∨ n0 = 31) (hl1 : ∀ x ∈ l, x.ok ∧ x.few) (hs : s.ok ∧ s.few) (hl : l.length ≤ 100000) :
    callW D.T 19 [.vs b0 .sh n0 (statesL l), .agg s.cells] [] = some (.bool (hasS l s), none) := by
  have e7 : ∀ l : List StateS, LVal.pfs (statesL l) = true := statesL_pfs
  have e7' : ∀ (n : Nat) (l : List StateS), LVal.withins n (statesL l) = true := fun n l => statesL_within n l
  have e8 : ∀ (n : Nat) (s : StateS), LVal.withins n s.cells = true := fun n s => cells_within n
  have ls : s.lies := ⟨hs.1.2.2.2.2.2.2.1, hs.1.2.2.2.2.2.2.2⟩
  obtain ⟨fs1, fs2, fs3⟩ := fits_state ls
  rw [callW_fn fn19]
  obtain ⟨w, c1⟩ := loop19 b0 n0 l s h0 hl1 hs hl l.length 0 (.agg s.cells) (.bool false) rfl rfl (by omega)
  have z0 : ((0 : Nat) : Int) = 0 := rfl
  rw [z0] at c1
  simp only [List.drop_zero] at c1
  simp [D.l19, D.c19, runFun, LMode.isPure, LVal.pfs, LVal.pf, Go.L.initVars, codeW_seq, codeW_region, codeW_regionD, codeW_cond, codeW_ret, codeW_skip, codeW_exit, codeW_block, codeW_fence, thenW, outW, fenceOut, kill, LVal.withins, LVal.within, runOps, runOpsD, Go.L.step, stepD, semD, sem, RS.peek, RS.put, RS.give, RS.take, RS.takes, RS.takeElems, RS.takeParts, RS.peeks, RS.peekO, RS.setVar, RS.noPk, RS.settle, RS.alloc, callOut, LVal.arg, LVal.isAgg, LVal.cells, LVal.unpk, LVal.copy, LVal.down, binL, binInt, binStr, unL, resL, resOne, res1, resAll, LVal.isTup, outL, LOp.quiet, LOp.acts, LOp.peeks, LOper.fix, calmOk, loadCalm, awayOk, dstFree, LVal.free, LVal.calm, LVal.calm1, LOp.opds, optL, RS.acquire, appendL, elemsL, bound, inRange, intL, loadL, storeL, setElems, setParts, fitsElem, lenL, isNilL, partL, chunks, e7, e7', e8, fs1, fs2, eq_true fs3]
  rw [c1]
  cases hasS l s <;> simp [runFun, LMode.isPure, LVal.pfs, LVal.pf, Go.L.initVars, codeW_seq, codeW_region, codeW_regionD, codeW_cond, codeW_ret, codeW_skip, codeW_exit, codeW_block, codeW_fence, thenW, outW, fenceOut, kill, LVal.withins, LVal.within, runOps, runOpsD, Go.L.step, stepD, semD, sem, RS.peek, RS.put, RS.give, RS.take, RS.takes, RS.takeElems, RS.takeParts, RS.peeks, RS.peekO, RS.setVar, RS.noPk, RS.settle, RS.alloc, callOut, LVal.arg, LVal.isAgg, LVal.cells, LVal.unpk, LVal.copy, LVal.down, binL, binInt, binStr, unL, resL, resOne, res1, resAll, LVal.isTup, outL, LOp.quiet, LOp.acts, LOp.peeks, LOper.fix, calmOk, loadCalm, awayOk, dstFree, LVal.free, LVal.calm, LVal.calm1, LOp.opds, optL, RS.acquire, appendL, elemsL, bound, inRange, intL, loadL, storeL, setElems, setParts, fitsElem, lenL, isNilL, partL, chunks, e7, e7', e8]
end Go.Proofs.Ytbljgbojkifoiaa
end
section
set_option linter.unusedVariables false
set_option linter.unusedSimpArgs false
namespace Go.Proofs.Ytbljgbojkifoiaa
open Go Go.L

theorem fn43 : D.T.fns 43 = some (.hook D.hCmp) := rfl
theorem fn33 : D.T.fns 33 = some (.fn D.l33) := rfl
theorem fn32 : D.T.fns 32 = some (.fn D.l32) := rfl

theorem cmp_eq (a b : List UInt8) : callW D.T 33 [.str a, .str b] [] = some (.int .i64 (Lib.compareBytes a b), none) := by
  have k : callW D.T 43 [.str a, .str b] [] = some (.int .i64 (Lib.compareBytes a b), none) := by rw [callW_hook fn43]; rfl
  rw [callW_fn fn33]
  simp [D.l33, D.c33, runFun, LMode.isPure, LVal.pfs, LVal.pf, Go.L.initVars, codeW_seq, codeW_region, codeW_regionD, codeW_cond, codeW_ret, codeW_skip, codeW_exit, codeW_block, codeW_fence, thenW, outW, fenceOut, kill, LVal.withins, LVal.within, runOps, runOpsD, Go.L.step, stepD, semD, sem, RS.peek, RS.put, RS.give, RS.take, RS.takes, RS.takeElems, RS.takeParts, RS.peeks, RS.peekO, RS.setVar, RS.noPk, RS.settle, RS.alloc, callOut, LVal.arg, LVal.isAgg, LVal.cells, LVal.unpk, LVal.copy, LVal.down, LVal.plain, LVal.settled, binL, binInt, binStr, unL, resL, resOne, res1, resAll, LVal.isTup, outL, LOp.quiet, LOp.acts, LOp.peeks, LOper.fix, calmOk, loadCalm, awayOk, dstFree, LVal.free, LVal.calm, LVal.calm1, LOp.opds, optL, RS.acquire, appendL, elemsL, bound, inRange, intL, loadL, storeL, setElems, setParts, fitsElem, lenL, isNilL, partL, chunks, k]

set_option maxHeartbeats 8000000 in
theorem cmpk_eq (s : StateS) (k : List UInt8) (hs : s.ok ∧ s.few) (st : List LObj) : callW D.T 32 [.agg s.cells, .str k] st = some (.int .i64 (Lib.compareBytes (keyB s) k), none) := by
  have ls : s.lies := ⟨hs.1.2.2.2.2.2.2.1, hs.1.2.2.2.2.2.2.2⟩
  obtain ⟨fs1, fs2, fs3⟩ := fits_state ls
  have fs4 := cells_own ls
  have fs5 := cells_down ls
  have ft : List.take 31 s.cells = s.cells := rfl
  have fs6 : ¬ ∃ x, x ∈ s.cells ∧ x.isOwn = true := by
    rintro ⟨x, h1, h2⟩
    rw [List.any_eq_false] at fs4
    exact fs4 x h1 h2
  have k1 := key_eq s hs.1 hs.2
  have k2 := cmp_eq (keyB s) k
  rw [callW_fn fn32]
  simp [D.l32, D.c32, runFun, LMode.isPure, LVal.pfs, LVal.pf, Go.L.initVars, codeW_seq, codeW_region, codeW_regionD, codeW_cond, codeW_ret, codeW_skip, codeW_exit, codeW_block, codeW_fence, thenW, outW, fenceOut, kill, LVal.withins, LVal.within, runOps, runOpsD, Go.L.step, stepD, semD, sem, RS.peek, RS.put, RS.give, RS.take, RS.takes, RS.takeElems, RS.takeParts, RS.peeks, RS.peekO, RS.setVar, RS.noPk, RS.settle, RS.alloc, callOut, LVal.arg, LVal.isAgg, LVal.cells, LVal.unpk, LVal.copy, LVal.down, binL, binInt, binStr, unL, resL, resOne, res1, resAll, LVal.isTup, outL, LOp.quiet, LOp.acts, LOp.peeks, LOper.fix, calmOk, loadCalm, awayOk, dstFree, LVal.free, LVal.calm, LVal.calm1, LOp.opds, optL, RS.acquire, appendL, elemsL, bound, inRange, intL, loadL, storeL, setElems, setParts, fitsElem, lenL, isNilL, partL, chunks, fs1, fs2, eq_true fs3, fs4, fs5, eq_false fs6, ft, k1, k2]
end Go.Proofs.Ytbljgbojkifoiaa
end
section
set_option linter.unusedVariables false
set_option linter.unusedSimpArgs false
namespace Go.Proofs.Ytbljgbojkifoiaa
open Go Go.L

theorem cmp_neg : ∀ (a b : List UInt8), Lib.compareBytes a b < 0 ↔ a < b
  | [], [] => by simp [Lib.compareBytes]
  | [], _ :: _ => by simp [Lib.compareBytes]
  | _ :: _, [] => by simp [Lib.compareBytes]
  | a :: p, b :: q => by
    have ih := cmp_neg p q
    simp only [Lib.compareBytes, List.cons_lt_cons_iff]
    by_cases h1 : a < b
    · simp [h1]
    · by_cases h2 : b < a
      · have hne : a ≠ b := fun e => by rw [e] at h2; exact absurd h2 (UInt8.lt_irrefl b)
        simp [h1, h2, hne]
      · have he : a = b := by
          have q1 : ¬ a.toNat < b.toNat := fun h => h1 (UInt8.lt_iff_toNat_lt.2 h)
          have q2 : ¬ b.toNat < a.toNat := fun h => h2 (UInt8.lt_iff_toNat_lt.2 h)
          exact UInt8.toNat_inj.1 (by omega)
        simp only [if_neg h1, if_neg h2, ih, h1, he, false_or, true_and]
        simp
        exact ih
theorem cmp_zero : ∀ (a b : List UInt8), Lib.compareBytes a b = 0 ↔ a = b
  | [], [] => by simp [Lib.compareBytes]
  | [], _ :: _ => by simp [Lib.compareBytes]
  | _ :: _, [] => by simp [Lib.compareBytes]
  | a :: p, b :: q => by
    have ih := cmp_zero p q
    simp only [Lib.compareBytes]
    by_cases h1 : a < b
    · have hne : a ≠ b := fun e => by rw [e] at h1; exact absurd h1 (UInt8.lt_irrefl b)
      simp [h1, hne]
    · by_cases h2 : b < a
      · have hne : a ≠ b := fun e => by rw [e] at h2; exact absurd h2 (UInt8.lt_irrefl b)
        simp [h1, h2, hne]
      · have he : a = b := by
          have q1 : ¬ a.toNat < b.toNat := fun h => h1 (UInt8.lt_iff_toNat_lt.2 h)
          have q2 : ¬ b.toNat < a.toNat := fun h => h2 (UInt8.lt_iff_toNat_lt.2 h)
          exact UInt8.toNat_inj.1 (by omega)
        simp [h1, h2, ih, he]

abbrev W31 (b0 : Bool) (n0 : Nat) (l : List StateS) (k : List UInt8) (s : StateS) (v3 v4 : LVal) (n i j : Int) (v8 v9 v10 : LVal) : RS :=
  { vars := [.vs b0 .sh n0 (statesL l), .str k, .func 32 [], v3, v4, .int .i64 n, .int .i64 i, .int .i64 j, v8, v9, v10], st := [.cells 31 s.cells], rs := [] }

set_option maxHeartbeats 8000000 in
theorem step31 (b0 : Bool) (l : List StateS) (k : List UInt8) (s x : StateS) (hl1 : ∀ x ∈ l, x.ok ∧ x.few) (hs : s.lies) (hl : l.length ≤ 100000) (i j h : Nat) (v3 v4 v8 v9 v10 : LVal)
    (o3 : v3.isOwn = false) (o4 : v4.isOwn = false) (o8 : v8.isOwn = false) (o9 : v9.isOwn = false) (o10 : v10.isOwn = false) (hij : i < j) (hj : j ≤ l.length) (hh : h = (i + j) / 2) (hx : l[h]? = some x) :
    codeW D.T (.loop D.b31_0) (W31 b0 31 l k s v3 v4 l.length i j v8 v9 v10) =
      codeW D.T (.loop D.b31_0) (if keyB x < k then W31 b0 31 l k s .undef .undef l.length (h + 1 : Nat) j .undef .undef .undef else W31 b0 31 l k s .undef .undef l.length i h .undef .undef .undef) := by
  have hxo := hl1 x (List.mem_of_getElem? hx)
  have lx : x.lies := ⟨hxo.1.2.2.2.2.2.2.1, hxo.1.2.2.2.2.2.2.2⟩
  obtain ⟨fx1, fx2, fx3⟩ := fits_state lx
  have c32 := cmpk_eq x k hxo [.cells 31 s.cells]
  have hn : h < l.length := by omega
  have e0 : (i : Int) < (j : Int) := by omega
  have e1 : IntKind.i64.wrap ((i : Int) + (j : Int)) = (i : Int) + (j : Int) := wi64 (by omega) (by omega)
  have e2 : IntKind.u64.wrap ((i : Int) + (j : Int)) = (i : Int) + (j : Int) := by
    simp only [IntKind.wrap, IntKind.bits, IntKind.signed]
    simp
    omega
  have e3 : ((i : Int) + (j : Int)).fdiv 2 = (h : Int) := by
    rw [Int.fdiv_eq_ediv_of_nonneg _ (by omega)]; omega
  have e4 : IntKind.i64.wrap (h : Int) = (h : Int) := wi64 (by omega) (by omega)
  have e5 : IntKind.i64.wrap ((h : Int) + 1) = (h : Int) + 1 := wi64 (by omega) (by omega)
  have e6 : (statesL l)[h]? = some (.agg x.cells) := by rw [statesL_get, hx]; rfl
  have e7 : ∀ (n : Nat) (l : List StateS), LVal.withins n (statesL l) = true := fun n l => statesL_within n l
  have e8 : ∀ (n : Nat) (s : StateS), LVal.withins n s.cells = true := fun n s => cells_within n
  have e9 : (statesL l).length = l.length := statesL_len l
  have e10 : 0 ≤ (h : Int) ∧ (h : Int) < (l.length : Int) := by omega
  have e11 : IntKind.bits .u64 = 64 := rfl
  rw [codeW_loop]
  generalize hK : thenW (codeW D.T (.loop D.b31_0)) = K
  by_cases hlt : keyB x < k
  · have hc := (cmp_neg (keyB x) k).2 hlt
    rw [if_pos hlt]
    simp [D.b31_0, runFun, LMode.isPure, LVal.pfs, LVal.pf, Go.L.initVars, codeW_seq, codeW_region, codeW_regionD, codeW_cond, codeW_ret, codeW_skip, codeW_exit, codeW_block, codeW_fence, thenW, outW, fenceOut, kill, LVal.withins, LVal.within, runOps, runOpsD, Go.L.step, stepD, semD, sem, RS.peek, RS.put, RS.give, RS.take, RS.takes, RS.takeElems, RS.takeParts, RS.peeks, RS.peekO, RS.setVar, RS.noPk, RS.settle, RS.alloc, callOut, LVal.arg, LVal.isAgg, LVal.cells, LVal.unpk, LVal.copy, LVal.down, LVal.settled, binL, binInt, binStr, unL, resL, resOne, res1, resAll, LVal.isTup, outL, LOp.quiet, LOp.acts, LOp.peeks, LOper.fix, calmOk, loadCalm, awayOk, dstFree, LVal.free, LVal.calm, LVal.calm1, LOp.opds, optL, RS.acquire, appendL, elemsL, bound, inRange, intL, loadL, storeL, setElems, setParts, fitsElem, lenL, isNilL, partL, chunks, shiftInt, o3, o4, o8, o9, o10, e0, e1, e2, e3, e4, e5, e6, e7, e8, e9, e10, e11, fx1, fx2, c32, hc]
    subst hK
    rfl
  · have hc : ¬ Lib.compareBytes (keyB x) k < 0 := fun h => hlt ((cmp_neg _ _).1 h)
    rw [if_neg hlt]
    simp [D.b31_0, runFun, LMode.isPure, LVal.pfs, LVal.pf, Go.L.initVars, codeW_seq, codeW_region, codeW_regionD, codeW_cond, codeW_ret, codeW_skip, codeW_exit, codeW_block, codeW_fence, thenW, outW, fenceOut, kill, LVal.withins, LVal.within, runOps, runOpsD, Go.L.step, stepD, semD, sem, RS.peek, RS.put, RS.give, RS.take, RS.takes, RS.takeElems, RS.takeParts, RS.peeks, RS.peekO, RS.setVar, RS.noPk, RS.settle, RS.alloc, callOut, LVal.arg, LVal.isAgg, LVal.cells, LVal.unpk, LVal.copy, LVal.down, LVal.settled, binL, binInt, binStr, unL, resL, resOne, res1, resAll, LVal.isTup, outL, LOp.quiet, LOp.acts, LOp.peeks, LOper.fix, calmOk, loadCalm, awayOk, dstFree, LVal.free, LVal.calm, LVal.calm1, LOp.opds, optL, RS.acquire, appendL, elemsL, bound, inRange, intL, loadL, storeL, setElems, setParts, fitsElem, lenL, isNilL, partL, chunks, shiftInt, o3, o4, o8, o9, o10, e0, e1, e2, e3, e4, e5, e6, e7, e8, e9, e10, e11, fx1, fx2, c32, hc]
    subst hK
    rfl

theorem loop31 (b0 : Bool) (l : List StateS) (k : List UInt8) (s : StateS) (hl1 : ∀ x ∈ l, x.ok ∧ x.few) (hs : s.lies) (hl : l.length ≤ 100000) (hSS : SS (l.map keyB)) : ∀ (d i j : Nat) (v3 v4 v8 v9 v10 : LVal),
    v3.isOwn = false → v4.isOwn = false → v8.isOwn = false → v9.isOwn = false → v10.isOwn = false → j - i ≤ d → i ≤ j → j ≤ l.length →
    (∀ t x, t < i → l[t]? = some x → keyB x < k) → (∀ t x, j ≤ t → l[t]? = some x → ¬ keyB x < k) →
    ∃ (p : Nat) (w : Nat → LVal), p ≤ l.length ∧ (∀ t x, t < p → l[t]? = some x → keyB x < k) ∧ (∀ t x, p ≤ t → l[t]? = some x → ¬ keyB x < k) ∧
      codeW D.T (.loop D.b31_0) (W31 b0 31 l k s v3 v4 l.length i j v8 v9 v10) =
        some (.exit 0, { vars := [.vs b0 .sh 31 (statesL l), .str k, .func 32 [], w 3, w 4, .int .i64 l.length, .int .i64 p, w 7, w 8, w 9, w 10], st := [.cells 31 s.cells], rs := [] })
  | d, i, j, v3, v4, v8, v9, v10, o3, o4, o8, o9, o10, hd, hij, hj, hlo, hhi => by
    by_cases h : i < j
    · match d, hd with
      | 0, hd => omega
      | d + 1, hd =>
        have hn : (i + j) / 2 < l.length := by omega
        obtain ⟨x, hx⟩ : ∃ x, l[(i + j) / 2]? = some x := ⟨_, List.getElem?_eq_getElem hn⟩
        have mono : ∀ (t u : Nat) (x y : StateS), t < u → l[t]? = some x → l[u]? = some y → keyB x < keyB y := by
          intro t u x y htu ht hu
          have h1 : t < l.length := (List.getElem?_eq_some_iff.1 ht).1
          have h2 : u < l.length := (List.getElem?_eq_some_iff.1 hu).1
          have := (List.pairwise_iff_getElem.1 hSS) t u (by simpa using h1) (by simpa using h2) htu
          simp only [List.getElem_map] at this
          rw [List.getElem?_eq_getElem h1] at ht
          rw [List.getElem?_eq_getElem h2] at hu
          injection ht with ht; injection hu with hu
          rw [← ht, ← hu]; exact this
        rw [step31 b0 l k s x hl1 hs hl i j ((i + j) / 2) v3 v4 v8 v9 v10 o3 o4 o8 o9 o10 h hj rfl hx]
        by_cases hlt : keyB x < k
        · rw [if_pos hlt]
          refine loop31 b0 l k s hl1 hs hl hSS d ((i + j) / 2 + 1) j .undef .undef .undef .undef .undef rfl rfl rfl rfl rfl (by omega) (by omega) hj ?_ hhi
          intro t y ht hy
          by_cases he : t = (i + j) / 2
          · subst he
            rw [hx] at hy
            injection hy with hy
            rw [← hy]; exact hlt
          · exact List.lt_trans (mono t _ y x (by omega) hy hx) hlt
        · rw [if_neg hlt]
          refine loop31 b0 l k s hl1 hs hl hSS d i ((i + j) / 2) .undef .undef .undef .undef .undef rfl rfl rfl rfl rfl (by omega) (by omega) (by omega) hlo ?_
          intro t y ht hy hk
          by_cases he : t = (i + j) / 2
          · subst he
            rw [hx] at hy
            injection hy with hy
            rw [← hy] at hk; exact hlt hk
          · exact hlt (List.lt_trans (mono _ t x y (by omega) hx hy) hk)
    · have hij' : i = j := by omega
      subst hij'
      refine ⟨i, fun t => ([.undef, .undef, .undef, v3, v4, .undef, .undef, .int .i64 i, v8, .bool false, v10] : List LVal).getD t .undef, hj, hlo, hhi, ?_⟩
      have e0 : ¬ ((i : Int) < (i : Int)) := by omega
      rw [codeW_loop]
      simp [D.b31_0, runFun, LMode.isPure, LVal.pfs, LVal.pf, Go.L.initVars, codeW_seq, codeW_region, codeW_regionD, codeW_cond, codeW_ret, codeW_skip, codeW_exit, codeW_block, codeW_fence, thenW, outW, fenceOut, kill, LVal.withins, LVal.within, runOps, runOpsD, Go.L.step, stepD, semD, sem, RS.peek, RS.put, RS.give, RS.take, RS.takes, RS.takeElems, RS.takeParts, RS.peeks, RS.peekO, RS.setVar, RS.noPk, RS.settle, RS.alloc, callOut, LVal.arg, LVal.isAgg, LVal.cells, LVal.unpk, LVal.copy, LVal.down, LVal.settled, binL, binInt, binStr, unL, resL, resOne, res1, resAll, LVal.isTup, outL, LOp.quiet, LOp.acts, LOp.peeks, LOper.fix, calmOk, loadCalm, awayOk, dstFree, LVal.free, LVal.calm, LVal.calm1, LOp.opds, optL, RS.acquire, appendL, elemsL, bound, inRange, intL, loadL, storeL, setElems, setParts, fitsElem, lenL, isNilL, partL, chunks, o3, o4, o8, o9, o10]
end Go.Proofs.Ytbljgbojkifoiaa
end
section
set_option linter.unusedVariables false
set_option linter.unusedSimpArgs false
namespace Go.Proofs.Ytbljgbojkifoiaa
open Go Go.L

theorem fn31 : D.T.fns 31 = some (.fn D.l31) := rfl
theorem fn18 : D.T.fns 18 = some (.fn D.l18) := rfl

set_option maxHeartbeats 8000000 in
theorem r31a (b0 : Bool) (l : List StateS) (k : List UInt8) (s x : StateS) (hl1 : ∀ x ∈ l, x.ok ∧ x.few) (hl : l.length ≤ 100000) (p : Nat) (hp : p < l.length) (hx : l[p]? = some x) :
    codeW D.T D.r31_1 { vars := [.vs b0 .sh 31 (statesL l), .str k, .func 32 [], .undef, .undef, .int .i64 l.length, .int .i64 p, .undef, .undef, .undef, .undef], st := [.cells 31 s.cells], rs := [] } =
      some (.normal, { vars := [.vs b0 .sh 31 (statesL l), .str k, .func 32 [], .int .i64 p, .bool (decide (Lib.compareBytes (keyB x) k = 0)), .int .i64 l.length, .int .i64 p, .undef, .undef, .undef, .undef], st := [.cells 31 s.cells], rs := [] }) := by
  have hxo := hl1 x (List.mem_of_getElem? hx)
  have lx : x.lies := ⟨hxo.1.2.2.2.2.2.2.1, hxo.1.2.2.2.2.2.2.2⟩
  obtain ⟨fx1, fx2, fx3⟩ := fits_state lx
  have c32 := cmpk_eq x k hxo [.cells 31 s.cells]
  have e0 : (p : Int) < (l.length : Int) := by omega
  have e1 : 0 ≤ (p : Int) ∧ (p : Int) < (l.length : Int) := by omega
  have e6 : (statesL l)[p]? = some (.agg x.cells) := by rw [statesL_get, hx]; rfl
  have e9 : (statesL l).length = l.length := statesL_len l
  have e12 : ∀ z : Int, (z == 0) = decide (z = 0) := fun z => rfl
  unfold D.r31_1
  apply regN
  simp only [List.replicate]
  repeat
    apply run_cons
    · first
        | (simp [runFun, LMode.isPure, LVal.pfs, LVal.pf, Go.L.initVars, codeW_seq, codeW_region, codeW_regionD, codeW_cond, codeW_ret, codeW_skip, codeW_exit, codeW_block, codeW_fence, thenW, outW, fenceOut, kill, LVal.withins, LVal.within, runOps, runOpsD, Go.L.step, stepD, semD, sem, RS.peek, RS.put, RS.give, RS.take, RS.takes, RS.takeElems, RS.takeParts, RS.peeks, RS.peekO, RS.setVar, RS.noPk, RS.settle, RS.alloc, callOut, LVal.arg, LVal.isAgg, LVal.cells, LVal.unpk, LVal.copy, LVal.down, LVal.settled, binL, binInt, binStr, unL, resL, resOne, res1, resAll, LVal.isTup, outL, LOp.quiet, LOp.acts, LOp.peeks, LOper.fix, calmOk, loadCalm, awayOk, dstFree, LVal.free, LVal.calm, LVal.calm1, LOp.opds, optL, RS.acquire, appendL, elemsL, bound, inRange, intL, loadL, storeL, setElems, setParts, fitsElem, lenL, isNilL, partL, chunks, e0, e1, e6, e9, fx1, fx2, c32, e12]; done)
        | (simp [runFun, LMode.isPure, LVal.pfs, LVal.pf, Go.L.initVars, codeW_seq, codeW_region, codeW_regionD, codeW_cond, codeW_ret, codeW_skip, codeW_exit, codeW_block, codeW_fence, thenW, outW, fenceOut, kill, LVal.withins, LVal.within, runOps, runOpsD, Go.L.step, stepD, semD, sem, RS.peek, RS.put, RS.give, RS.take, RS.takes, RS.takeElems, RS.takeParts, RS.peeks, RS.peekO, RS.setVar, RS.noPk, RS.settle, RS.alloc, callOut, LVal.arg, LVal.isAgg, LVal.cells, LVal.unpk, LVal.copy, LVal.down, LVal.settled, binL, binInt, binStr, unL, resL, resOne, res1, resAll, LVal.isTup, outL, LOp.quiet, LOp.acts, LOp.peeks, LOper.fix, calmOk, loadCalm, awayOk, dstFree, LVal.free, LVal.calm, LVal.calm1, LOp.opds, optL, RS.acquire, appendL, elemsL, bound, inRange, intL, loadL, storeL, setElems, setParts, fitsElem, lenL, isNilL, partL, chunks, e0, e1, e6, e9, fx1, fx2, c32, e12]; rfl)
  exact run_nil

set_option maxHeartbeats 8000000 in
theorem r31b (v0 : LVal) (hv0 : v0.isOwn = false) (k : List UInt8) (s : StateS) (n : Nat) (v3 v4 : LVal) :
    codeW D.T D.r31_1 { vars := [v0, .str k, .func 32 [], .undef, .undef, .int .i64 n, .int .i64 n, .undef, .undef, .undef, .undef], st := [.cells 31 s.cells], rs := [] } =
      some (.normal, { vars := [v0, .str k, .func 32 [], .int .i64 n, .bool false, .int .i64 n, .int .i64 n, .undef, .undef, .undef, .undef], st := [.cells 31 s.cells], rs := [] }) := by
  unfold D.r31_1
  apply regN
  simp only [List.replicate]
  repeat
    apply run_cons
    · first
        | (simp [runFun, LMode.isPure, LVal.pfs, LVal.pf, Go.L.initVars, codeW_seq, codeW_region, codeW_regionD, codeW_cond, codeW_ret, codeW_skip, codeW_exit, codeW_block, codeW_fence, thenW, outW, fenceOut, kill, LVal.withins, LVal.within, runOps, runOpsD, Go.L.step, stepD, semD, sem, RS.peek, RS.put, RS.give, RS.take, RS.takes, RS.takeElems, RS.takeParts, RS.peeks, RS.peekO, RS.setVar, RS.noPk, RS.settle, RS.alloc, callOut, LVal.arg, LVal.isAgg, LVal.cells, LVal.unpk, LVal.copy, LVal.down, LVal.settled, binL, binInt, binStr, unL, resL, resOne, res1, resAll, LVal.isTup, outL, LOp.quiet, LOp.acts, LOp.peeks, LOper.fix, calmOk, loadCalm, awayOk, dstFree, LVal.free, LVal.calm, LVal.calm1, LOp.opds, optL, RS.acquire, appendL, elemsL, bound, inRange, intL, loadL, storeL, setElems, setParts, fitsElem, lenL, isNilL, partL, chunks]; done)
        | (simp [runFun, LMode.isPure, LVal.pfs, LVal.pf, Go.L.initVars, codeW_seq, codeW_region, codeW_regionD, codeW_cond, codeW_ret, codeW_skip, codeW_exit, codeW_block, codeW_fence, thenW, outW, fenceOut, kill, LVal.withins, LVal.within, runOps, runOpsD, Go.L.step, stepD, semD, sem, RS.peek, RS.put, RS.give, RS.take, RS.takes, RS.takeElems, RS.takeParts, RS.peeks, RS.peekO, RS.setVar, RS.noPk, RS.settle, RS.alloc, callOut, LVal.arg, LVal.isAgg, LVal.cells, LVal.unpk, LVal.copy, LVal.down, LVal.settled, binL, binInt, binStr, unL, resL, resOne, res1, resAll, LVal.isTup, outL, LOp.quiet, LOp.acts, LOp.peeks, LOper.fix, calmOk, loadCalm, awayOk, dstFree, LVal.free, LVal.calm, LVal.calm1, LOp.opds, optL, RS.acquire, appendL, elemsL, bound, inRange, intL, loadL, storeL, setElems, setParts, fitsElem, lenL, isNilL, partL, chunks]; rfl)
  exact run_nil

set_option maxHeartbeats 8000000 in
theorem search_eq (b0 : Bool) (l : List StateS) (s : StateS) (hne : l ≠ []) (hl1 : ∀ x ∈ l, x.ok ∧ x.few) (hs : s.ok ∧ s.few) (hl : l.length ≤ 100000) (hSS : SS (l.map keyB)) :
    ∃ p : Nat, callW D.T 31 [.vs b0 .sh 31 (statesL l), .str (keyB s), .func 32 []] [.cells 31 s.cells] = some (.tup [.int .i64 p, .bool (hasS l s)], some [.cells 31 s.cells]) := by
  have ls : s.lies := ⟨hs.1.2.2.2.2.2.2.1, hs.1.2.2.2.2.2.2.2⟩
  obtain ⟨p, w, hp, hlo, hhi, c1⟩ := loop31 b0 l (keyB s) s hl1 ls hl hSS l.length 0 l.length (.int .i64 0) (.bool false) .undef .undef .undef rfl rfl rfl rfl rfl (by omega) (by omega) (by omega) (by intro t x ht; omega) (by
    intro t x ht hx
    have := (List.getElem?_eq_some_iff.1 hx).1
    omega)
  have z0 : ((0 : Nat) : Int) = 0 := rfl
  rw [z0] at c1
  have e7 : ∀ (n : Nat) (l : List StateS), LVal.withins n (statesL l) = true := fun n l => statesL_within n l
  have e8 : ∀ (n : Nat) (s : StateS), LVal.withins n s.cells = true := fun n s => cells_within n
  have e9 : (statesL l).length = l.length := statesL_len l
  refine ⟨p, ?_⟩
  rw [callW_fn fn31]
  by_cases hlt : p < l.length
  · obtain ⟨x, hx⟩ : ∃ x, l[p]? = some x := ⟨_, List.getElem?_eq_getElem hlt⟩
    have hr := r31a b0 l (keyB s) s x hl1 hl p hlt hx
    have hb : decide (Lib.compareBytes (keyB x) (keyB s) = 0) = hasS l s := by
      rw [Bool.eq_iff_iff]
      simp only [decide_eq_true_eq, cmp_zero, hasS, List.any_eq_true, beq_iff_eq]
      constructor
      · intro h
        exact ⟨x, List.mem_of_getElem? hx, h⟩
      · rintro ⟨y, hy, hk⟩
        obtain ⟨t, ht, rfl⟩ := List.mem_iff_getElem.1 hy
        have hyt : l[t]? = some l[t] := List.getElem?_eq_getElem ht
        have h1 : ¬ t < p := fun h => lt_ne (hlo t _ h hyt) hk
        by_cases he : t = p
        · subst he
          rw [hx] at hyt
          injection hyt with hyt
          rw [hyt]; exact hk
        · have h2 : keyB x < keyB l[t] := by
            have := (List.pairwise_iff_getElem.1 hSS) p t (by simpa using hlt) (by simpa using ht) (by omega)
            simp only [List.getElem_map] at this
            rw [List.getElem?_eq_getElem hlt] at hx
            injection hx with hx
            rw [← hx]; exact this
          rw [hk] at h2
          exact absurd h2 (hhi p x (Nat.le_refl _) hx)
    rw [hb] at hr
    simp [D.l31, D.c31, runFun, LMode.isPure, LVal.pfs, LVal.pf, Go.L.initVars, codeW_seq, codeW_region, codeW_regionD, codeW_cond, codeW_ret, codeW_skip, codeW_exit, codeW_block, codeW_fence, thenW, outW, fenceOut, kill, LVal.withins, LVal.within, runOps, runOpsD, Go.L.step, stepD, semD, sem, RS.peek, RS.put, RS.give, RS.take, RS.takes, RS.takeElems, RS.takeParts, RS.peeks, RS.peekO, RS.setVar, RS.noPk, RS.settle, RS.alloc, callOut, LVal.arg, LVal.isAgg, LVal.cells, LVal.unpk, LVal.copy, LVal.down, LVal.settled, binL, binInt, binStr, unL, resL, resOne, res1, resAll, LVal.isTup, outL, LOp.quiet, LOp.acts, LOp.peeks, LOper.fix, calmOk, loadCalm, awayOk, dstFree, LVal.free, LVal.calm, LVal.calm1, LOp.opds, optL, RS.acquire, appendL, elemsL, bound, inRange, intL, loadL, storeL, setElems, setParts, fitsElem, lenL, isNilL, partL, chunks, e7, e8, e9]
    rw [c1]
    simp [runFun, LMode.isPure, LVal.pfs, LVal.pf, Go.L.initVars, codeW_seq, codeW_region, codeW_regionD, codeW_cond, codeW_ret, codeW_skip, codeW_exit, codeW_block, codeW_fence, thenW, outW, fenceOut, kill, LVal.withins, LVal.within, runOps, runOpsD, Go.L.step, stepD, semD, sem, RS.peek, RS.put, RS.give, RS.take, RS.takes, RS.takeElems, RS.takeParts, RS.peeks, RS.peekO, RS.setVar, RS.noPk, RS.settle, RS.alloc, callOut, LVal.arg, LVal.isAgg, LVal.cells, LVal.unpk, LVal.copy, LVal.down, LVal.settled, binL, binInt, binStr, unL, resL, resOne, res1, resAll, LVal.isTup, outL, LOp.quiet, LOp.acts, LOp.peeks, LOper.fix, calmOk, loadCalm, awayOk, dstFree, LVal.free, LVal.calm, LVal.calm1, LOp.opds, optL, RS.acquire, appendL, elemsL, bound, inRange, intL, loadL, storeL, setElems, setParts, fitsElem, lenL, isNilL, partL, chunks, e7, e8]
    rw [hr]
    simp [runFun, LMode.isPure, LVal.pfs, LVal.pf, Go.L.initVars, codeW_seq, codeW_region, codeW_regionD, codeW_cond, codeW_ret, codeW_skip, codeW_exit, codeW_block, codeW_fence, thenW, outW, fenceOut, kill, LVal.withins, LVal.within, runOps, runOpsD, Go.L.step, stepD, semD, sem, RS.peek, RS.put, RS.give, RS.take, RS.takes, RS.takeElems, RS.takeParts, RS.peeks, RS.peekO, RS.setVar, RS.noPk, RS.settle, RS.alloc, callOut, LVal.arg, LVal.isAgg, LVal.cells, LVal.unpk, LVal.copy, LVal.down, LVal.settled, binL, binInt, binStr, unL, resL, resOne, res1, resAll, LVal.isTup, outL, LOp.quiet, LOp.acts, LOp.peeks, LOper.fix, calmOk, loadCalm, awayOk, dstFree, LVal.free, LVal.calm, LVal.calm1, LOp.opds, optL, RS.acquire, appendL, elemsL, bound, inRange, intL, loadL, storeL, setElems, setParts, fitsElem, lenL, isNilL, partL, chunks, e7, e8]
  · have hpe : p = l.length := by omega
    subst hpe
    have hr := r31b (.vs b0 .sh 31 (statesL l)) rfl (keyB s) s l.length .undef .undef
    have hb : hasS l s = false := by
      rw [Bool.eq_false_iff]
      intro h
      simp only [hasS, List.any_eq_true, beq_iff_eq] at h
      obtain ⟨y, hy, hk⟩ := h
      obtain ⟨t, ht, rfl⟩ := List.mem_iff_getElem.1 hy
      exact lt_ne (hlo t _ ht (List.getElem?_eq_getElem ht)) hk
    rw [hb]
    simp [D.l31, D.c31, runFun, LMode.isPure, LVal.pfs, LVal.pf, Go.L.initVars, codeW_seq, codeW_region, codeW_regionD, codeW_cond, codeW_ret, codeW_skip, codeW_exit, codeW_block, codeW_fence, thenW, outW, fenceOut, kill, LVal.withins, LVal.within, runOps, runOpsD, Go.L.step, stepD, semD, sem, RS.peek, RS.put, RS.give, RS.take, RS.takes, RS.takeElems, RS.takeParts, RS.peeks, RS.peekO, RS.setVar, RS.noPk, RS.settle, RS.alloc, callOut, LVal.arg, LVal.isAgg, LVal.cells, LVal.unpk, LVal.copy, LVal.down, LVal.settled, binL, binInt, binStr, unL, resL, resOne, res1, resAll, LVal.isTup, outL, LOp.quiet, LOp.acts, LOp.peeks, LOper.fix, calmOk, loadCalm, awayOk, dstFree, LVal.free, LVal.calm, LVal.calm1, LOp.opds, optL, RS.acquire, appendL, elemsL, bound, inRange, intL, loadL, storeL, setElems, setParts, fitsElem, lenL, isNilL, partL, chunks, e7, e8, e9]
    rw [c1]
    simp [runFun, LMode.isPure, LVal.pfs, LVal.pf, Go.L.initVars, codeW_seq, codeW_region, codeW_regionD, codeW_cond, codeW_ret, codeW_skip, codeW_exit, codeW_block, codeW_fence, thenW, outW, fenceOut, kill, LVal.withins, LVal.within, runOps, runOpsD, Go.L.step, stepD, semD, sem, RS.peek, RS.put, RS.give, RS.take, RS.takes, RS.takeElems, RS.takeParts, RS.peeks, RS.peekO, RS.setVar, RS.noPk, RS.settle, RS.alloc, callOut, LVal.arg, LVal.isAgg, LVal.cells, LVal.unpk, LVal.copy, LVal.down, LVal.settled, binL, binInt, binStr, unL, resL, resOne, res1, resAll, LVal.isTup, outL, LOp.quiet, LOp.acts, LOp.peeks, LOper.fix, calmOk, loadCalm, awayOk, dstFree, LVal.free, LVal.calm, LVal.calm1, LOp.opds, optL, RS.acquire, appendL, elemsL, bound, inRange, intL, loadL, storeL, setElems, setParts, fitsElem, lenL, isNilL, partL, chunks, e7, e8]
    rw [hr]
    simp [runFun, LMode.isPure, LVal.pfs, LVal.pf, Go.L.initVars, codeW_seq, codeW_region, codeW_regionD, codeW_cond, codeW_ret, codeW_skip, codeW_exit, codeW_block, codeW_fence, thenW, outW, fenceOut, kill, LVal.withins, LVal.within, runOps, runOpsD, Go.L.step, stepD, semD, sem, RS.peek, RS.put, RS.give, RS.take, RS.takes, RS.takeElems, RS.takeParts, RS.peeks, RS.peekO, RS.setVar, RS.noPk, RS.settle, RS.alloc, callOut, LVal.arg, LVal.isAgg, LVal.cells, LVal.unpk, LVal.copy, LVal.down, LVal.settled, binL, binInt, binStr, unL, resL, resOne, res1, resAll, LVal.isTup, outL, LOp.quiet, LOp.acts, LOp.peeks, LOper.fix, calmOk, loadCalm, awayOk, dstFree, LVal.free, LVal.calm, LVal.calm1, LOp.opds, optL, RS.acquire, appendL, elemsL, bound, inRange, intL, loadL, storeL, setElems, setParts, fitsElem, lenL, isNilL, partL, chunks, e7, e8]
end Go.Proofs.Ytbljgbojkifoiaa
end
section
set_option linter.unusedVariables false
set_option linter.unusedSimpArgs false
namespace Go.Proofs.Ytbljgbojkifoiaa
open Go Go.L

set_option maxHeartbeats 8000000 in
theorem search_nil (b0 : Bool) (n0 : Nat) (s : StateS) (hs : s.ok ∧ s.few) :
    callW D.T 31 [.vs b0 .sh n0 [], .str (keyB s), .func 32 []] [.cells 31 s.cells] = some (.tup [.int .i64 0, .bool false], some [.cells 31 s.cells]) := by
  have e8 : ∀ (n : Nat) (s : StateS), LVal.withins n s.cells = true := fun n s => cells_within n
  have hr := r31b (.vs b0 .sh n0 []) rfl (keyB s) s 0 .undef .undef
  have z0 : ((0 : Nat) : Int) = 0 := rfl
  rw [z0] at hr
  rw [callW_fn fn31]
  simp [D.l31, D.c31, runFun, LMode.isPure, LVal.pfs, LVal.pf, Go.L.initVars, codeW_seq, codeW_region, codeW_regionD, codeW_cond, codeW_ret, codeW_skip, codeW_exit, codeW_block, codeW_fence, thenW, outW, fenceOut, kill, LVal.withins, LVal.within, runOps, runOpsD, Go.L.step, stepD, semD, sem, RS.peek, RS.put, RS.give, RS.take, RS.takes, RS.takeElems, RS.takeParts, RS.peeks, RS.peekO, RS.setVar, RS.noPk, RS.settle, RS.alloc, callOut, LVal.arg, LVal.isAgg, LVal.cells, LVal.unpk, LVal.copy, LVal.down, LVal.settled, binL, binInt, binStr, unL, resL, resOne, res1, resAll, LVal.isTup, outL, LOp.quiet, LOp.acts, LOp.peeks, LOper.fix, calmOk, loadCalm, awayOk, dstFree, LVal.free, LVal.calm, LVal.calm1, LOp.opds, optL, RS.acquire, appendL, elemsL, bound, inRange, intL, loadL, storeL, setElems, setParts, fitsElem, lenL, isNilL, partL, chunks, e8]
  rw [codeW_loop]
  simp [D.b31_0, runFun, LMode.isPure, LVal.pfs, LVal.pf, Go.L.initVars, codeW_seq, codeW_region, codeW_regionD, codeW_cond, codeW_ret, codeW_skip, codeW_exit, codeW_block, codeW_fence, thenW, outW, fenceOut, kill, LVal.withins, LVal.within, runOps, runOpsD, Go.L.step, stepD, semD, sem, RS.peek, RS.put, RS.give, RS.take, RS.takes, RS.takeElems, RS.takeParts, RS.peeks, RS.peekO, RS.setVar, RS.noPk, RS.settle, RS.alloc, callOut, LVal.arg, LVal.isAgg, LVal.cells, LVal.unpk, LVal.copy, LVal.down, LVal.settled, binL, binInt, binStr, unL, resL, resOne, res1, resAll, LVal.isTup, outL, LOp.quiet, LOp.acts, LOp.peeks, LOper.fix, calmOk, loadCalm, awayOk, dstFree, LVal.free, LVal.calm, LVal.calm1, LOp.opds, optL, RS.acquire, appendL, elemsL, bound, inRange, intL, loadL, storeL, setElems, setParts, fitsElem, lenL, isNilL, partL, chunks, e8]
  rw [hr]
  simp [runFun, LMode.isPure, LVal.pfs, LVal.pf, Go.L.initVars, codeW_seq, codeW_region, codeW_regionD, codeW_cond, codeW_ret, codeW_skip, codeW_exit, codeW_block, codeW_fence, thenW, outW, fenceOut, kill, LVal.withins, LVal.within, runOps, runOpsD, Go.L.step, stepD, semD, sem, RS.peek, RS.put, RS.give, RS.take, RS.takes, RS.takeElems, RS.takeParts, RS.peeks, RS.peekO, RS.setVar, RS.noPk, RS.settle, RS.alloc, callOut, LVal.arg, LVal.isAgg, LVal.cells, LVal.unpk, LVal.copy, LVal.down, LVal.settled, binL, binInt, binStr, unL, resL, resOne, res1, resAll, LVal.isTup, outL, LOp.quiet, LOp.acts, LOp.peeks, LOper.fix, calmOk, loadCalm, awayOk, dstFree, LVal.free, LVal.calm, LVal.calm1, LOp.opds, optL, RS.acquire, appendL, elemsL, bound, inRange, intL, loadL, storeL, setElems, setParts, fitsElem, lenL, isNilL, partL, chunks, e8]

set_option maxHeartbeats 8000000 in
/-- Has. -/
theorem has_eq {b0 : Bool} {n0 : Nat} {l : List StateS} {s : StateS} (h0 : l = [] ∨ n0 = 31) (hl1 : ∀ x ∈ l, x.ok ∧ x.few) (hs : s.ok ∧ s.few) (hl : l.length ≤ 100000) (hSS : SS (l.map keyB)) :
    callW D.T 18 [.vs b0 .sh n0 (statesL l), .agg s.cells] [] = some (.bool (hasS l s), none) := by
  have e7 : ∀ (l : List StateS), LVal.pfs (statesL l) = true := statesL_pfs
  have e8 : ∀ (n : Nat) (s : StateS), LVal.withins n s.cells = true := fun n s => cells_within n
  have ls : s.lies := ⟨hs.1.2.2.2.2.2.2.1, hs.1.2.2.2.2.2.2.2⟩
  obtain ⟨fs1, fs2, fs3⟩ := fits_state ls
  have fs4 := cells_own ls
  have fs5 := cells_down ls
  have ft : List.take 31 s.cells = s.cells := rfl
  have fs6 : ¬ ∃ x, x ∈ s.cells ∧ x.isOwn = true := by
    rintro ⟨x, h1, h2⟩
    rw [List.any_eq_false] at fs4
    exact fs4 x h1 h2
  have k10 := key_eq s hs.1 hs.2
  rw [callW_fn fn18]
  by_cases hne : l = []
  · subst hne
    have k31 := search_nil b0 n0 s hs
    have hb : hasS [] s = false := rfl
    have hst : statesL [] = [] := rfl
    rw [hb, hst]
    simp [D.l18, D.c18, runFun, LMode.isPure, LVal.pfs, LVal.pf, Go.L.initVars, codeW_seq, codeW_region, codeW_regionD, codeW_cond, codeW_ret, codeW_skip, codeW_exit, codeW_block, codeW_fence, thenW, outW, fenceOut, kill, LVal.withins, LVal.within, runOps, runOpsD, Go.L.step, stepD, semD, sem, RS.peek, RS.put, RS.give, RS.take, RS.takes, RS.takeElems, RS.takeParts, RS.peeks, RS.peekO, RS.setVar, RS.noPk, RS.settle, RS.alloc, callOut, LVal.arg, LVal.isAgg, LVal.cells, LVal.unpk, LVal.copy, LVal.down, binL, binInt, binStr, unL, resL, resOne, res1, resAll, LVal.isTup, outL, LOp.quiet, LOp.acts, LOp.peeks, LOper.fix, calmOk, loadCalm, awayOk, dstFree, LVal.free, LVal.calm, LVal.calm1, LOp.opds, optL, RS.acquire, appendL, elemsL, bound, inRange, intL, loadL, storeL, setElems, setParts, fitsElem, lenL, isNilL, partL, chunks, e7, e8, fs1, fs2, eq_true fs3, fs4, fs5, eq_false fs6, ft, k10, k31]
  · have hn0 : n0 = 31 := h0.resolve_left hne
    subst hn0
    obtain ⟨p, k31⟩ := search_eq b0 l s hne hl1 hs hl hSS
    simp [D.l18, D.c18, runFun, LMode.isPure, LVal.pfs, LVal.pf, Go.L.initVars, codeW_seq, codeW_region, codeW_regionD, codeW_cond, codeW_ret, codeW_skip, codeW_exit, codeW_block, codeW_fence, thenW, outW, fenceOut, kill, LVal.withins, LVal.within, runOps, runOpsD, Go.L.step, stepD, semD, sem, RS.peek, RS.put, RS.give, RS.take, RS.takes, RS.takeElems, RS.takeParts, RS.peeks, RS.peekO, RS.setVar, RS.noPk, RS.settle, RS.alloc, callOut, LVal.arg, LVal.isAgg, LVal.cells, LVal.unpk, LVal.copy, LVal.down, binL, binInt, binStr, unL, resL, resOne, res1, resAll, LVal.isTup, outL, LOp.quiet, LOp.acts, LOp.peeks, LOper.fix, calmOk, loadCalm, awayOk, dstFree, LVal.free, LVal.calm, LVal.calm1, LOp.opds, optL, RS.acquire, appendL, elemsL, bound, inRange, intL, loadL, storeL, setElems, setParts, fitsElem, lenL, isNilL, partL, chunks, e7, e8, fs1, fs2, eq_true fs3, fs4, fs5, eq_false fs6, ft, k10, k31]
end Go.Proofs.Ytbljgbojkifoiaa
end
