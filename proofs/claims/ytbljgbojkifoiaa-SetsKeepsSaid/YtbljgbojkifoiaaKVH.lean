/- Texts 20 21 22. -/
import Derived.Test.YtbljgbojkifoiaaKVF
section
set_option linter.unusedVariables false
set_option linter.unusedSimpArgs false
namespace Go.Proofs.Ytbljgbojkifoiaa
open Go Go.L

theorem cells_len (s : StateS) : s.cells.length = 31 := rfl
theorem cells_plain {s : StateS} (h : s.lies) : s.cells.all LVal.plain = true := by
  simp only [StateS.cells]; rcases h.1 with ho | ho <;> rw [ho] <;> rfl
theorem cells_own {s : StateS} (h : s.lies) : s.cells.any LVal.isOwn = false := by
  simp only [StateS.cells]; rcases h.1 with ho | ho <;> rw [ho] <;> rfl
theorem cells_down {s : StateS} (h : s.lies) : s.cells.map LVal.down = s.cells := by
  simp only [StateS.cells]; rcases h.1 with ho | ho <;> rw [ho] <;> rfl
theorem cells_stay {s : StateS} (h : s.lies) : s.cells.map LVal.stay = s.cells := by
  simp only [StateS.cells]; rcases h.1 with ho | ho <;> rw [ho] <;> rfl
theorem cells_pfs (s : StateS) : LVal.pfs s.cells = true := by
  simp only [StateS.cells]; rfl
theorem statesL_pfs : ∀ (l : List StateS), LVal.pfs (statesL l) = true
  | [] => rfl
  | s :: l => by
    have := statesL_pfs l
    simp only [statesL, List.map_cons, LVal.pfs, LVal.pf] at this ⊢
    rw [this, cells_pfs]; rfl
theorem statesL_append (a b : List StateS) : statesL (a ++ b) = statesL a ++ statesL b := by simp [statesL]

/-- A list of states, as a variable holds it. -/
def Lst (v : LVal) (l : List StateS) : Prop := (l = [] ∧ v = .vs true .sh 0 []) ∨ (l ≠ [] ∧ (v = .vs false .full 31 (statesL l) ∨ v = .vs false (.own 31 true) 31 (statesL l)))

/-- A set is gone through, for one more. -/
def scanW (s : StateS) : List StateS → Bool → List StateS → Option (Bool × List StateS)
  | [], done, out => some (done, out)
  | x :: r, done, out => if keyB x = keyB s then none else if done = false ∧ keyB s < keyB x then scanW s r true (out ++ [s] ++ [x]) else scanW s r done (out ++ [x])
/-- A set, and one more. -/
def withS (l : List StateS) (s : StateS) : List StateS := match scanW s l false [] with
  | none => l
  | some (done, out) => if done then out else out ++ [s]

theorem fn28 : D.T.fns 28 = some (.fn D.l28) := rfl

theorem bytesLess_eq' : ∀ (x y : List UInt8), Op.bytesLess x y = decide (x < y)
  | [], [] => rfl
  | [], _ :: _ => rfl
  | _ :: _, [] => rfl
  | a :: x, b :: y => by
    have ih := bytesLess_eq' x y
    simp only [Op.bytesLess, ih, List.cons_lt_cons_iff]
    rw [Bool.eq_iff_iff]
    simp

theorem gt_str (a b : List UInt8) : (!(Op.bytesLess a b || a == b)) = decide (b < a) := by
  rw [bytesLess_eq']
  rw [Bool.eq_iff_iff]
  simp only [Bool.not_eq_true', Bool.or_eq_false_iff, decide_eq_false_iff_not, decide_eq_true_eq, beq_eq_false_iff_ne, ne_eq]
  constructor
  · rintro ⟨h1, h2⟩
    by_cases h : b < a
    · exact h
    · exact absurd (List.le_antisymm (List.not_lt.1 h) (List.not_lt.1 h1)) h2
  · intro h
    exact ⟨fun h' => List.lt_irrefl _ (List.lt_trans h h'), fun e => by rw [e] at h; exact List.lt_irrefl _ h⟩

theorem lst_cases {v : LVal} {l : List StateS} (h : Lst v l) : (l = [] ∧ v = .vs true .sh 0 []) ∨ (l ≠ [] ∧ ∃ o, v = .vs false o 31 (statesL l) ∧ (o = .full ∨ o = .own 31 true)) := by
  rcases h with ⟨h1, h2⟩ | ⟨h1, h2 | h2⟩
  · exact .inl ⟨h1, h2⟩
  · exact .inr ⟨h1, _, h2, .inl rfl⟩
  · exact .inr ⟨h1, _, h2, .inr rfl⟩

theorem fits_state {s : StateS} (h : s.lies) : s.cells.length = 31 ∧ LVal.pfs s.cells = true ∧ (∀ x ∈ s.cells, LVal.plain x = true) := ⟨rfl, cells_pfs s, List.all_eq_true.1 (cells_plain h)⟩

abbrev W28 (o0 : Own) (l : List StateS) (s : StateS) (v1 v3 out : LVal) (done : Bool) (i : Int) (v8 v9 v10 v11 v12 : LVal) : RS :=
  { vars := [.vs false o0 31 (statesL l), v1, .ptr 0 0, v3, out, .str (keyB s), .bool done, .int .i64 i, v8, v9, v10, v11, v12], st := [.cells 31 s.cells], rs := [] }

theorem lst_one (x : StateS) : Lst (.vs false .full 31 [.agg x.cells]) [x] := .inr ⟨by simp, .inl rfl⟩
theorem lst_more {l : List StateS} (x : StateS) : Lst (.vs false (.own 31 true) 31 (statesL (l ++ [x]))) (l ++ [x]) := .inr ⟨by simp, .inr rfl⟩

/-- One more behind: what an append gives. -/
theorem app_lst {v : LVal} {l : List StateS} (h : Lst v l) (x : StateS) : ∃ v', Lst v' (l ++ [x]) ∧ ((l = [] ∧ v = .vs true .sh 0 [] ∧ v' = .vs false (.own 31 true) 31 [.agg x.cells]) ∨ (l ≠ [] ∧ (v = .vs false .full 31 (statesL l) ∨ v = .vs false (.own 31 true) 31 (statesL l)) ∧ v' = .vs false (.own 31 true) 31 (statesL l ++ [.agg x.cells]))) := by
  rcases h with ⟨rfl, rfl⟩ | ⟨h1, h2⟩
  · exact ⟨_, .inr ⟨by simp, .inr rfl⟩, .inl ⟨rfl, rfl, rfl⟩⟩
  · exact ⟨_, .inr ⟨by simp, .inr (by rw [statesL_append]; rfl)⟩, .inr ⟨h1, h2, rfl⟩⟩

theorem len_lst {v : LVal} {l : List StateS} (h : l ≠ []) : 0 < (statesL l).length := by
  cases l with
  | nil => exact absurd rfl h
  | cons x l => simp [statesL]

set_option maxHeartbeats 8000000 in
theorem eq28 (o0 : Own) (ho : o0 = .sh ∨ ∃ e, o0 = .own 31 e) (l : List StateS) (s x : StateS) (i : Nat) (acc : List StateS) (out v1 v3 v8 v9 v10 v11 v12 : LVal) (done : Bool) (hok : x.ok ∧ x.few) (hl : l.length ≤ 1000)
    (hx : l[i]? = some x) (hi : i < l.length) (heq : keyB x = keyB s) (o3 : v3.isOwn = false) (o8 : v8.isOwn = false) (o9 : v9.isOwn = false) (o10 : v10.isOwn = false) (o11 : v11.isOwn = false) (hacc : Lst out acc) :
    ∃ (w : Nat → LVal), codeW D.T (.loop D.b28_0) (W28 o0 l s v1 v3 out done i v8 v9 v10 v11 v12) =
      some (.ret, { vars := [w 0, w 1, w 2, .vs false .sh 31 (statesL l), w 4, w 5, w 6, w 7, w 8, w 9, w 10, w 11, w 12], st := [.cells 31 s.cells], rs := [] }) := by
  have e1 : (i : Int) < (l.length : Int) := by omega
  have e0 : 0 ≤ (i : Int) ∧ (i : Int) < (l.length : Int) := by omega
  have e3 : IntKind.i64.wrap ((i : Int) + 1) = (i : Int) + 1 := wi64 (by omega) (by omega)
  have e5 : (statesL l).length = l.length := statesL_len l
  have e6 : (statesL l)[i]? = some (.agg x.cells) := by rw [statesL_get, hx]; rfl
  have k1 := rkey_eq x hok.1 hok.2
  have lx : x.lies := ⟨hok.1.2.2.2.2.2.2.1, hok.1.2.2.2.2.2.2.2⟩
  obtain ⟨fx1, fx2, fx3⟩ := fits_state lx
  rw [codeW_loop]
  generalize hK : thenW (codeW D.T (.loop D.b28_0)) = K
  refine ⟨fun j => [.vs false (match o0 with | .own e _ => .own e false | o => o) 31 (statesL l), v1, .ptr 0 0, .undef, out, .str (keyB s), .bool done, .int .i64 i, .str (keyB x), .bool true, .bool true, v11, v12].getD j .undef, ?_⟩
  rcases ho with rfl | ⟨e, rfl⟩ <;> rcases lst_cases hacc with ⟨rfl, rfl⟩ | ⟨hne, o, rfl, rfl | rfl⟩ <;>
  · simp [D.b28_0, runFun, LMode.isPure, LVal.pfs, LVal.pf, Go.L.initVars, codeW_seq, codeW_region, codeW_regionD, codeW_cond, codeW_ret, codeW_skip, codeW_exit, codeW_block, codeW_fence, thenW, outW, fenceOut, kill, LVal.withins, LVal.within, runOps, runOpsD, Go.L.step, stepD, semD, sem, RS.peek, RS.put, RS.give, RS.take, RS.takes, RS.takeElems, RS.takeParts, RS.peeks, RS.peekO, RS.setVar, RS.noPk, RS.settle, RS.alloc, callOut, LVal.arg, LVal.isAgg, LVal.cells, LVal.unpk, LVal.copy, LVal.down, LVal.plain, LVal.settled, binL, binInt, binStr, unL, resL, resOne, res1, resAll, LVal.isTup, outL, LOp.quiet, LOp.acts, LOp.peeks, LOper.fix, calmOk, loadCalm, awayOk, dstFree, LVal.free, LVal.calm, LVal.calm1, LOp.opds, optL, RS.acquire, appendL, elemsL, bound, inRange, intL, loadL, storeL, setElems, setParts, fitsElem, lenL, isNilL, partL, chunks, o3, o8, o9, o10, e0, e1, e3, e5, e6, k1, heq, fx1, fx2]
    subst hK
    rfl
end Go.Proofs.Ytbljgbojkifoiaa
end
section
set_option linter.unusedVariables false
set_option linter.unusedSimpArgs false
namespace Go.Proofs.Ytbljgbojkifoiaa
open Go Go.L

set_option maxHeartbeats 8000000 in
theorem step28a (o0 : Own) (ho : o0 = .sh ∨ ∃ e, o0 = .own 31 e) (l : List StateS) (s x : StateS) (i : Nat) (acc : List StateS) (out v1 v3 v8 v9 v10 v11 v12 : LVal) (done : Bool) (hok : x.ok ∧ x.few) (hs : s.ok ∧ s.few) (hl : l.length ≤ 1000) (hlen : acc.length ≤ 2000)
    (hx : l[i]? = some x) (hi : i < l.length) (heq : keyB x ≠ keyB s) (o3 : v3.isOwn = false) (o8 : v8.isOwn = false) (o9 : v9.isOwn = false) (o10 : v10.isOwn = false) (o11 : v11.isOwn = false) (o12 : v12.isOwn = false) (hacc : Lst out acc)
    (hd : ¬ (done = false ∧ keyB s < keyB x)) :
    ∃ out' o', (o' = .sh ∨ ∃ e, o' = .own 31 e) ∧ Lst out' (acc ++ [x]) ∧ codeW D.T (.loop D.b28_0) (W28 o0 l s v1 v3 out done i v8 v9 v10 v11 v12) = codeW D.T (.loop D.b28_0) (W28 o' l s .undef .undef out' done (i + 1 : Nat) .undef .undef .undef .undef .undef) := by
  have e1 : (i : Int) < (l.length : Int) := by omega
  have e0 : 0 ≤ (i : Int) ∧ (i : Int) < (l.length : Int) := by omega
  have e3 : IntKind.i64.wrap ((i : Int) + 1) = (i : Int) + 1 := wi64 (by omega) (by omega)
  have e5 : (statesL l).length = l.length := statesL_len l
  have e6 : (statesL l)[i]? = some (.agg x.cells) := by rw [statesL_get, hx]; rfl
  have k1 := rkey_eq x hok.1 hok.2
  have lx : x.lies := ⟨hok.1.2.2.2.2.2.2.1, hok.1.2.2.2.2.2.2.2⟩
  have ls : s.lies := ⟨hs.1.2.2.2.2.2.2.1, hs.1.2.2.2.2.2.2.2⟩
  obtain ⟨fx1, fx2, fx3⟩ := fits_state lx
  obtain ⟨fs1, fs2, fs3⟩ := fits_state ls
  have fs4 := cells_own ls
  have fs5 := cells_down ls
  have fx4 := cells_own lx
  have fx5 := cells_down lx
  have hgt : ∀ a b : List UInt8, (!(Op.bytesLess a b || a == b)) = decide (b < a) := gt_str
  have e9 : (statesL acc).length = acc.length := statesL_len acc
  have e10 : LVal.pfs (statesL acc) = true := statesL_pfs acc
  conv => enter [1, out', 1, o', 2, 2, 1]; rw [codeW_loop]
  generalize hK : thenW (codeW D.T (.loop D.b28_0)) = K
  have e8 : LVal.withins 1 s.cells = true := cells_within 1
  have hne' : (keyB x == keyB s) = false := by simpa using heq
  have m1 : 256 ≤ maxBytes := by simp only [maxBytes]; omega
  have m2 : 1 ≤ maxBytes := by simp only [maxBytes]; omega
  have e12 : acc.length + 1 ≤ maxBytes := by simp only [maxBytes]; omega
  have e11 : (acc.length + 1) * 256 ≤ maxBytes := by simp only [maxBytes]; omega
  rcases ho with rfl | ⟨e, rfl⟩
  · cases done with
    | true =>
      rcases lst_cases hacc with ⟨rfl, rfl⟩ | ⟨hne, o, rfl, rfl | rfl⟩
      · refine ⟨_, .sh, .inl rfl, .inr ⟨by simp, .inr rfl⟩, ?_⟩
        simp [D.b28_0, runFun, LMode.isPure, LVal.pfs, LVal.pf, Go.L.initVars, codeW_seq, codeW_region, codeW_regionD, codeW_cond, codeW_ret, codeW_skip, codeW_exit, codeW_block, codeW_fence, thenW, outW, fenceOut, kill, LVal.withins, LVal.within, runOps, runOpsD, Go.L.step, stepD, semD, sem, RS.peek, RS.put, RS.give, RS.take, RS.takes, RS.takeElems, RS.takeParts, RS.peeks, RS.peekO, RS.setVar, RS.noPk, RS.settle, RS.alloc, callOut, LVal.arg, LVal.isAgg, LVal.cells, LVal.unpk, LVal.copy, LVal.down, LVal.settled, binL, binInt, binStr, unL, resL, resOne, res1, resAll, LVal.isTup, outL, LOp.quiet, LOp.acts, LOp.peeks, LOper.fix, calmOk, loadCalm, awayOk, dstFree, LVal.free, LVal.calm, LVal.calm1, LOp.opds, optL, RS.acquire, appendL, elemsL, bound, inRange, intL, loadL, storeL, setElems, setParts, fitsElem, lenL, isNilL, partL, chunks, o3, o8, o9, o10, o11, o12, e0, e1, e3, e5, e6, k1, hne', fx1, fx2, eq_true fx3, e8, m1, m2, e12]
        subst hK
        rfl
      · refine ⟨_, .sh, .inl rfl, .inr ⟨by simp, .inr rfl⟩, ?_⟩
        simp [D.b28_0, runFun, LMode.isPure, LVal.pfs, LVal.pf, Go.L.initVars, codeW_seq, codeW_region, codeW_regionD, codeW_cond, codeW_ret, codeW_skip, codeW_exit, codeW_block, codeW_fence, thenW, outW, fenceOut, kill, LVal.withins, LVal.within, runOps, runOpsD, Go.L.step, stepD, semD, sem, RS.peek, RS.put, RS.give, RS.take, RS.takes, RS.takeElems, RS.takeParts, RS.peeks, RS.peekO, RS.setVar, RS.noPk, RS.settle, RS.alloc, callOut, LVal.arg, LVal.isAgg, LVal.cells, LVal.unpk, LVal.copy, LVal.down, LVal.settled, binL, binInt, binStr, unL, resL, resOne, res1, resAll, LVal.isTup, outL, LOp.quiet, LOp.acts, LOp.peeks, LOper.fix, calmOk, loadCalm, awayOk, dstFree, LVal.free, LVal.calm, LVal.calm1, LOp.opds, optL, RS.acquire, appendL, elemsL, bound, inRange, intL, loadL, storeL, setElems, setParts, fitsElem, lenL, isNilL, partL, chunks, o3, o8, o9, o10, o11, o12, e0, e1, e3, e5, e6, k1, hne', fx1, fx2, eq_true fx3, e8, m1, m2, e12, e9, e10, e11, statesL_append]
        subst hK
        rfl
      · refine ⟨_, .sh, .inl rfl, .inr ⟨by simp, .inr rfl⟩, ?_⟩
        simp [D.b28_0, runFun, LMode.isPure, LVal.pfs, LVal.pf, Go.L.initVars, codeW_seq, codeW_region, codeW_regionD, codeW_cond, codeW_ret, codeW_skip, codeW_exit, codeW_block, codeW_fence, thenW, outW, fenceOut, kill, LVal.withins, LVal.within, runOps, runOpsD, Go.L.step, stepD, semD, sem, RS.peek, RS.put, RS.give, RS.take, RS.takes, RS.takeElems, RS.takeParts, RS.peeks, RS.peekO, RS.setVar, RS.noPk, RS.settle, RS.alloc, callOut, LVal.arg, LVal.isAgg, LVal.cells, LVal.unpk, LVal.copy, LVal.down, LVal.settled, binL, binInt, binStr, unL, resL, resOne, res1, resAll, LVal.isTup, outL, LOp.quiet, LOp.acts, LOp.peeks, LOper.fix, calmOk, loadCalm, awayOk, dstFree, LVal.free, LVal.calm, LVal.calm1, LOp.opds, optL, RS.acquire, appendL, elemsL, bound, inRange, intL, loadL, storeL, setElems, setParts, fitsElem, lenL, isNilL, partL, chunks, o3, o8, o9, o10, o11, o12, e0, e1, e3, e5, e6, k1, hne', fx1, fx2, eq_true fx3, e8, m1, m2, e12, e9, e10, e11, statesL_append]
        subst hK
        rfl
    | false =>
      have hlt : ¬ (keyB s < keyB x) := fun h => hd ⟨rfl, h⟩
      rcases lst_cases hacc with ⟨rfl, rfl⟩ | ⟨hne, o, rfl, rfl | rfl⟩
      · refine ⟨_, .sh, .inl rfl, .inr ⟨by simp, .inr rfl⟩, ?_⟩
        simp [D.b28_0, runFun, LMode.isPure, LVal.pfs, LVal.pf, Go.L.initVars, codeW_seq, codeW_region, codeW_regionD, codeW_cond, codeW_ret, codeW_skip, codeW_exit, codeW_block, codeW_fence, thenW, outW, fenceOut, kill, LVal.withins, LVal.within, runOps, runOpsD, Go.L.step, stepD, semD, sem, RS.peek, RS.put, RS.give, RS.take, RS.takes, RS.takeElems, RS.takeParts, RS.peeks, RS.peekO, RS.setVar, RS.noPk, RS.settle, RS.alloc, callOut, LVal.arg, LVal.isAgg, LVal.cells, LVal.unpk, LVal.copy, LVal.down, LVal.settled, binL, binInt, binStr, unL, resL, resOne, res1, resAll, LVal.isTup, outL, LOp.quiet, LOp.acts, LOp.peeks, LOper.fix, calmOk, loadCalm, awayOk, dstFree, LVal.free, LVal.calm, LVal.calm1, LOp.opds, optL, RS.acquire, appendL, elemsL, bound, inRange, intL, loadL, storeL, setElems, setParts, fitsElem, lenL, isNilL, partL, chunks, o3, o8, o9, o10, o11, o12, e0, e1, e3, e5, e6, k1, hne', fx1, fx2, eq_true fx3, e8, m1, m2, e12, hgt, hlt]
        subst hK
        rfl
      · refine ⟨_, .sh, .inl rfl, .inr ⟨by simp, .inr rfl⟩, ?_⟩
        simp [D.b28_0, runFun, LMode.isPure, LVal.pfs, LVal.pf, Go.L.initVars, codeW_seq, codeW_region, codeW_regionD, codeW_cond, codeW_ret, codeW_skip, codeW_exit, codeW_block, codeW_fence, thenW, outW, fenceOut, kill, LVal.withins, LVal.within, runOps, runOpsD, Go.L.step, stepD, semD, sem, RS.peek, RS.put, RS.give, RS.take, RS.takes, RS.takeElems, RS.takeParts, RS.peeks, RS.peekO, RS.setVar, RS.noPk, RS.settle, RS.alloc, callOut, LVal.arg, LVal.isAgg, LVal.cells, LVal.unpk, LVal.copy, LVal.down, LVal.settled, binL, binInt, binStr, unL, resL, resOne, res1, resAll, LVal.isTup, outL, LOp.quiet, LOp.acts, LOp.peeks, LOper.fix, calmOk, loadCalm, awayOk, dstFree, LVal.free, LVal.calm, LVal.calm1, LOp.opds, optL, RS.acquire, appendL, elemsL, bound, inRange, intL, loadL, storeL, setElems, setParts, fitsElem, lenL, isNilL, partL, chunks, o3, o8, o9, o10, o11, o12, e0, e1, e3, e5, e6, k1, hne', fx1, fx2, eq_true fx3, e8, m1, m2, e12, hgt, hlt, e9, e10, e11, statesL_append]
        subst hK
        rfl
      · refine ⟨_, .sh, .inl rfl, .inr ⟨by simp, .inr rfl⟩, ?_⟩
        simp [D.b28_0, runFun, LMode.isPure, LVal.pfs, LVal.pf, Go.L.initVars, codeW_seq, codeW_region, codeW_regionD, codeW_cond, codeW_ret, codeW_skip, codeW_exit, codeW_block, codeW_fence, thenW, outW, fenceOut, kill, LVal.withins, LVal.within, runOps, runOpsD, Go.L.step, stepD, semD, sem, RS.peek, RS.put, RS.give, RS.take, RS.takes, RS.takeElems, RS.takeParts, RS.peeks, RS.peekO, RS.setVar, RS.noPk, RS.settle, RS.alloc, callOut, LVal.arg, LVal.isAgg, LVal.cells, LVal.unpk, LVal.copy, LVal.down, LVal.settled, binL, binInt, binStr, unL, resL, resOne, res1, resAll, LVal.isTup, outL, LOp.quiet, LOp.acts, LOp.peeks, LOper.fix, calmOk, loadCalm, awayOk, dstFree, LVal.free, LVal.calm, LVal.calm1, LOp.opds, optL, RS.acquire, appendL, elemsL, bound, inRange, intL, loadL, storeL, setElems, setParts, fitsElem, lenL, isNilL, partL, chunks, o3, o8, o9, o10, o11, o12, e0, e1, e3, e5, e6, k1, hne', fx1, fx2, eq_true fx3, e8, m1, m2, e12, hgt, hlt, e9, e10, e11, statesL_append]
        subst hK
        rfl
  · cases done with
    | true =>
      rcases lst_cases hacc with ⟨rfl, rfl⟩ | ⟨hne, o, rfl, rfl | rfl⟩
      · refine ⟨_, .own 31 false, .inr ⟨_, rfl⟩, .inr ⟨by simp, .inr rfl⟩, ?_⟩
        simp [D.b28_0, runFun, LMode.isPure, LVal.pfs, LVal.pf, Go.L.initVars, codeW_seq, codeW_region, codeW_regionD, codeW_cond, codeW_ret, codeW_skip, codeW_exit, codeW_block, codeW_fence, thenW, outW, fenceOut, kill, LVal.withins, LVal.within, runOps, runOpsD, Go.L.step, stepD, semD, sem, RS.peek, RS.put, RS.give, RS.take, RS.takes, RS.takeElems, RS.takeParts, RS.peeks, RS.peekO, RS.setVar, RS.noPk, RS.settle, RS.alloc, callOut, LVal.arg, LVal.isAgg, LVal.cells, LVal.unpk, LVal.copy, LVal.down, LVal.settled, binL, binInt, binStr, unL, resL, resOne, res1, resAll, LVal.isTup, outL, LOp.quiet, LOp.acts, LOp.peeks, LOper.fix, calmOk, loadCalm, awayOk, dstFree, LVal.free, LVal.calm, LVal.calm1, LOp.opds, optL, RS.acquire, appendL, elemsL, bound, inRange, intL, loadL, storeL, setElems, setParts, fitsElem, lenL, isNilL, partL, chunks, o3, o8, o9, o10, o11, o12, e0, e1, e3, e5, e6, k1, hne', fx1, fx2, eq_true fx3, e8, m1, m2, e12]
        subst hK
        rfl
      · refine ⟨_, .own 31 false, .inr ⟨_, rfl⟩, .inr ⟨by simp, .inr rfl⟩, ?_⟩
        simp [D.b28_0, runFun, LMode.isPure, LVal.pfs, LVal.pf, Go.L.initVars, codeW_seq, codeW_region, codeW_regionD, codeW_cond, codeW_ret, codeW_skip, codeW_exit, codeW_block, codeW_fence, thenW, outW, fenceOut, kill, LVal.withins, LVal.within, runOps, runOpsD, Go.L.step, stepD, semD, sem, RS.peek, RS.put, RS.give, RS.take, RS.takes, RS.takeElems, RS.takeParts, RS.peeks, RS.peekO, RS.setVar, RS.noPk, RS.settle, RS.alloc, callOut, LVal.arg, LVal.isAgg, LVal.cells, LVal.unpk, LVal.copy, LVal.down, LVal.settled, binL, binInt, binStr, unL, resL, resOne, res1, resAll, LVal.isTup, outL, LOp.quiet, LOp.acts, LOp.peeks, LOper.fix, calmOk, loadCalm, awayOk, dstFree, LVal.free, LVal.calm, LVal.calm1, LOp.opds, optL, RS.acquire, appendL, elemsL, bound, inRange, intL, loadL, storeL, setElems, setParts, fitsElem, lenL, isNilL, partL, chunks, o3, o8, o9, o10, o11, o12, e0, e1, e3, e5, e6, k1, hne', fx1, fx2, eq_true fx3, e8, m1, m2, e12, e9, e10, e11, statesL_append]
        subst hK
        rfl
      · refine ⟨_, .own 31 false, .inr ⟨_, rfl⟩, .inr ⟨by simp, .inr rfl⟩, ?_⟩
        simp [D.b28_0, runFun, LMode.isPure, LVal.pfs, LVal.pf, Go.L.initVars, codeW_seq, codeW_region, codeW_regionD, codeW_cond, codeW_ret, codeW_skip, codeW_exit, codeW_block, codeW_fence, thenW, outW, fenceOut, kill, LVal.withins, LVal.within, runOps, runOpsD, Go.L.step, stepD, semD, sem, RS.peek, RS.put, RS.give, RS.take, RS.takes, RS.takeElems, RS.takeParts, RS.peeks, RS.peekO, RS.setVar, RS.noPk, RS.settle, RS.alloc, callOut, LVal.arg, LVal.isAgg, LVal.cells, LVal.unpk, LVal.copy, LVal.down, LVal.settled, binL, binInt, binStr, unL, resL, resOne, res1, resAll, LVal.isTup, outL, LOp.quiet, LOp.acts, LOp.peeks, LOper.fix, calmOk, loadCalm, awayOk, dstFree, LVal.free, LVal.calm, LVal.calm1, LOp.opds, optL, RS.acquire, appendL, elemsL, bound, inRange, intL, loadL, storeL, setElems, setParts, fitsElem, lenL, isNilL, partL, chunks, o3, o8, o9, o10, o11, o12, e0, e1, e3, e5, e6, k1, hne', fx1, fx2, eq_true fx3, e8, m1, m2, e12, e9, e10, e11, statesL_append]
        subst hK
        rfl
    | false =>
      have hlt : ¬ (keyB s < keyB x) := fun h => hd ⟨rfl, h⟩
      rcases lst_cases hacc with ⟨rfl, rfl⟩ | ⟨hne, o, rfl, rfl | rfl⟩
      · refine ⟨_, .own 31 false, .inr ⟨_, rfl⟩, .inr ⟨by simp, .inr rfl⟩, ?_⟩
        simp [D.b28_0, runFun, LMode.isPure, LVal.pfs, LVal.pf, Go.L.initVars, codeW_seq, codeW_region, codeW_regionD, codeW_cond, codeW_ret, codeW_skip, codeW_exit, codeW_block, codeW_fence, thenW, outW, fenceOut, kill, LVal.withins, LVal.within, runOps, runOpsD, Go.L.step, stepD, semD, sem, RS.peek, RS.put, RS.give, RS.take, RS.takes, RS.takeElems, RS.takeParts, RS.peeks, RS.peekO, RS.setVar, RS.noPk, RS.settle, RS.alloc, callOut, LVal.arg, LVal.isAgg, LVal.cells, LVal.unpk, LVal.copy, LVal.down, LVal.settled, binL, binInt, binStr, unL, resL, resOne, res1, resAll, LVal.isTup, outL, LOp.quiet, LOp.acts, LOp.peeks, LOper.fix, calmOk, loadCalm, awayOk, dstFree, LVal.free, LVal.calm, LVal.calm1, LOp.opds, optL, RS.acquire, appendL, elemsL, bound, inRange, intL, loadL, storeL, setElems, setParts, fitsElem, lenL, isNilL, partL, chunks, o3, o8, o9, o10, o11, o12, e0, e1, e3, e5, e6, k1, hne', fx1, fx2, eq_true fx3, e8, m1, m2, e12, hgt, hlt]
        subst hK
        rfl
      · refine ⟨_, .own 31 false, .inr ⟨_, rfl⟩, .inr ⟨by simp, .inr rfl⟩, ?_⟩
        simp [D.b28_0, runFun, LMode.isPure, LVal.pfs, LVal.pf, Go.L.initVars, codeW_seq, codeW_region, codeW_regionD, codeW_cond, codeW_ret, codeW_skip, codeW_exit, codeW_block, codeW_fence, thenW, outW, fenceOut, kill, LVal.withins, LVal.within, runOps, runOpsD, Go.L.step, stepD, semD, sem, RS.peek, RS.put, RS.give, RS.take, RS.takes, RS.takeElems, RS.takeParts, RS.peeks, RS.peekO, RS.setVar, RS.noPk, RS.settle, RS.alloc, callOut, LVal.arg, LVal.isAgg, LVal.cells, LVal.unpk, LVal.copy, LVal.down, LVal.settled, binL, binInt, binStr, unL, resL, resOne, res1, resAll, LVal.isTup, outL, LOp.quiet, LOp.acts, LOp.peeks, LOper.fix, calmOk, loadCalm, awayOk, dstFree, LVal.free, LVal.calm, LVal.calm1, LOp.opds, optL, RS.acquire, appendL, elemsL, bound, inRange, intL, loadL, storeL, setElems, setParts, fitsElem, lenL, isNilL, partL, chunks, o3, o8, o9, o10, o11, o12, e0, e1, e3, e5, e6, k1, hne', fx1, fx2, eq_true fx3, e8, m1, m2, e12, hgt, hlt, e9, e10, e11, statesL_append]
        subst hK
        rfl
      · refine ⟨_, .own 31 false, .inr ⟨_, rfl⟩, .inr ⟨by simp, .inr rfl⟩, ?_⟩
        simp [D.b28_0, runFun, LMode.isPure, LVal.pfs, LVal.pf, Go.L.initVars, codeW_seq, codeW_region, codeW_regionD, codeW_cond, codeW_ret, codeW_skip, codeW_exit, codeW_block, codeW_fence, thenW, outW, fenceOut, kill, LVal.withins, LVal.within, runOps, runOpsD, Go.L.step, stepD, semD, sem, RS.peek, RS.put, RS.give, RS.take, RS.takes, RS.takeElems, RS.takeParts, RS.peeks, RS.peekO, RS.setVar, RS.noPk, RS.settle, RS.alloc, callOut, LVal.arg, LVal.isAgg, LVal.cells, LVal.unpk, LVal.copy, LVal.down, LVal.settled, binL, binInt, binStr, unL, resL, resOne, res1, resAll, LVal.isTup, outL, LOp.quiet, LOp.acts, LOp.peeks, LOper.fix, calmOk, loadCalm, awayOk, dstFree, LVal.free, LVal.calm, LVal.calm1, LOp.opds, optL, RS.acquire, appendL, elemsL, bound, inRange, intL, loadL, storeL, setElems, setParts, fitsElem, lenL, isNilL, partL, chunks, o3, o8, o9, o10, o11, o12, e0, e1, e3, e5, e6, k1, hne', fx1, fx2, eq_true fx3, e8, m1, m2, e12, hgt, hlt, e9, e10, e11, statesL_append]
        subst hK
        rfl
end Go.Proofs.Ytbljgbojkifoiaa
end
section
set_option linter.unusedVariables false
set_option linter.unusedSimpArgs false
namespace Go.Proofs.Ytbljgbojkifoiaa
open Go Go.L

theorem mb {n : Nat} (h : n ≤ 600000) : n ≤ maxBytes := Nat.le_trans h (Nat.le_of_ble_eq_true rfl)

set_option maxHeartbeats 8000000 in
theorem step28b (o0 : Own) (ho : o0 = .sh ∨ ∃ e, o0 = .own 31 e) (l : List StateS) (s x : StateS) (i : Nat) (acc : List StateS) (out v1 v3 v8 v9 v10 v11 v12 : LVal) (hok : x.ok ∧ x.few) (hs : s.ok ∧ s.few) (hl : l.length ≤ 1000) (hlen : acc.length ≤ 2000)
    (hx : l[i]? = some x) (hi : i < l.length) (heq : keyB x ≠ keyB s) (o3 : v3.isOwn = false) (o8 : v8.isOwn = false) (o9 : v9.isOwn = false) (o10 : v10.isOwn = false) (o11 : v11.isOwn = false) (o12 : v12.isOwn = false) (hacc : Lst out acc)
    (hlt : keyB s < keyB x) :
    ∃ out' o', (o' = .sh ∨ ∃ e, o' = .own 31 e) ∧ Lst out' (acc ++ [s] ++ [x]) ∧ codeW D.T (.loop D.b28_0) (W28 o0 l s v1 v3 out false i v8 v9 v10 v11 v12) = codeW D.T (.loop D.b28_0) (W28 o' l s .undef .undef out' true (i + 1 : Nat) .undef .undef .undef .undef .undef) := by
  have e1 : (i : Int) < (l.length : Int) := by omega
  have e0 : 0 ≤ (i : Int) ∧ (i : Int) < (l.length : Int) := by omega
  have e3 : IntKind.i64.wrap ((i : Int) + 1) = (i : Int) + 1 := wi64 (by omega) (by omega)
  have e5 : (statesL l).length = l.length := statesL_len l
  have e6 : (statesL l)[i]? = some (.agg x.cells) := by rw [statesL_get, hx]; rfl
  have k1 := rkey_eq x hok.1 hok.2
  have lx : x.lies := ⟨hok.1.2.2.2.2.2.2.1, hok.1.2.2.2.2.2.2.2⟩
  have ls : s.lies := ⟨hs.1.2.2.2.2.2.2.1, hs.1.2.2.2.2.2.2.2⟩
  obtain ⟨fx1, fx2, fx3⟩ := fits_state lx
  obtain ⟨fs1, fs2, fs3⟩ := fits_state ls
  have fs4 := cells_own ls
  have fs5 := cells_down ls
  have fx4 := cells_own lx
  have fx5 := cells_down lx
  have hgt : ∀ a b : List UInt8, (!(Op.bytesLess a b || a == b)) = decide (b < a) := gt_str
  have e9 : (statesL acc).length = acc.length := statesL_len acc
  have e10 : LVal.pfs (statesL acc) = true := statesL_pfs acc
  conv => enter [1, out', 1, o', 2, 2, 1]; rw [codeW_loop]
  generalize hK : thenW (codeW D.T (.loop D.b28_0)) = K
  have e8 : LVal.withins 1 s.cells = true := cells_within 1
  have hne' : (keyB x == keyB s) = false := by simpa using heq
  have ft : List.take 31 s.cells = s.cells := rfl
  have fs6 : ¬ ∃ x, x ∈ s.cells ∧ x.isOwn = true := by
    rintro ⟨x, h1, h2⟩
    rw [List.any_eq_false] at fs4
    exact fs4 x h1 h2
  obtain ⟨e11, e12, e13, e14, m1, m2, m3, m4⟩ : (acc.length + 1) * 256 ≤ maxBytes ∧ acc.length + 1 ≤ maxBytes ∧ acc.length + 1 + 1 ≤ maxBytes ∧ (acc.length + 1 + 1) * 256 ≤ maxBytes ∧ 256 ≤ maxBytes ∧ 1 ≤ maxBytes ∧ 512 ≤ maxBytes ∧ 2 ≤ maxBytes :=
    ⟨mb (by omega), mb (by omega), mb (by omega), mb (by omega), mb (by omega), mb (by omega), mb (by omega), mb (by omega)⟩
  rcases ho with rfl | ⟨e, rfl⟩
  · rcases lst_cases hacc with ⟨rfl, rfl⟩ | ⟨hne, o, rfl, rfl | rfl⟩
    · refine ⟨_, .sh, .inl rfl, .inr ⟨by simp, .inr rfl⟩, ?_⟩
      simp [D.b28_0, runFun, LMode.isPure, LVal.pfs, LVal.pf, Go.L.initVars, codeW_seq, codeW_region, codeW_regionD, codeW_cond, codeW_ret, codeW_skip, codeW_exit, codeW_block, codeW_fence, thenW, outW, fenceOut, kill, LVal.withins, LVal.within, runOps, runOpsD, Go.L.step, stepD, semD, sem, RS.peek, RS.put, RS.give, RS.take, RS.takes, RS.takeElems, RS.takeParts, RS.peeks, RS.peekO, RS.setVar, RS.noPk, RS.settle, RS.alloc, callOut, LVal.arg, LVal.isAgg, LVal.cells, LVal.unpk, LVal.copy, LVal.down, LVal.settled, binL, binInt, binStr, unL, resL, resOne, res1, resAll, LVal.isTup, outL, LOp.quiet, LOp.acts, LOp.peeks, LOper.fix, calmOk, loadCalm, awayOk, dstFree, LVal.free, LVal.calm, LVal.calm1, LOp.opds, optL, RS.acquire, appendL, elemsL, bound, inRange, intL, loadL, storeL, setElems, setParts, fitsElem, lenL, isNilL, partL, chunks, o3, o8, o9, o10, o11, o12, e0, e1, e3, e5, e6, k1, hne', fx1, fx2, eq_true fx3, e8, fs1, fs2, eq_true fs3, ft, eq_false fs6, fs5, m1, m2, m3, m4, e12, hgt, hlt, e9, e10, e11, e13, e14, statesL_append]
      subst hK
      rfl
    · refine ⟨_, .sh, .inl rfl, .inr ⟨by simp, .inr rfl⟩, ?_⟩
      simp [D.b28_0, runFun, LMode.isPure, LVal.pfs, LVal.pf, Go.L.initVars, codeW_seq, codeW_region, codeW_regionD, codeW_cond, codeW_ret, codeW_skip, codeW_exit, codeW_block, codeW_fence, thenW, outW, fenceOut, kill, LVal.withins, LVal.within, runOps, runOpsD, Go.L.step, stepD, semD, sem, RS.peek, RS.put, RS.give, RS.take, RS.takes, RS.takeElems, RS.takeParts, RS.peeks, RS.peekO, RS.setVar, RS.noPk, RS.settle, RS.alloc, callOut, LVal.arg, LVal.isAgg, LVal.cells, LVal.unpk, LVal.copy, LVal.down, LVal.settled, binL, binInt, binStr, unL, resL, resOne, res1, resAll, LVal.isTup, outL, LOp.quiet, LOp.acts, LOp.peeks, LOper.fix, calmOk, loadCalm, awayOk, dstFree, LVal.free, LVal.calm, LVal.calm1, LOp.opds, optL, RS.acquire, appendL, elemsL, bound, inRange, intL, loadL, storeL, setElems, setParts, fitsElem, lenL, isNilL, partL, chunks, o3, o8, o9, o10, o11, o12, e0, e1, e3, e5, e6, k1, hne', fx1, fx2, eq_true fx3, e8, fs1, fs2, eq_true fs3, ft, eq_false fs6, fs5, m1, m2, m3, m4, e12, hgt, hlt, e9, e10, e11, e13, e14, statesL_append]
      subst hK
      rfl
    · refine ⟨_, .sh, .inl rfl, .inr ⟨by simp, .inr rfl⟩, ?_⟩
      simp [D.b28_0, runFun, LMode.isPure, LVal.pfs, LVal.pf, Go.L.initVars, codeW_seq, codeW_region, codeW_regionD, codeW_cond, codeW_ret, codeW_skip, codeW_exit, codeW_block, codeW_fence, thenW, outW, fenceOut, kill, LVal.withins, LVal.within, runOps, runOpsD, Go.L.step, stepD, semD, sem, RS.peek, RS.put, RS.give, RS.take, RS.takes, RS.takeElems, RS.takeParts, RS.peeks, RS.peekO, RS.setVar, RS.noPk, RS.settle, RS.alloc, callOut, LVal.arg, LVal.isAgg, LVal.cells, LVal.unpk, LVal.copy, LVal.down, LVal.settled, binL, binInt, binStr, unL, resL, resOne, res1, resAll, LVal.isTup, outL, LOp.quiet, LOp.acts, LOp.peeks, LOper.fix, calmOk, loadCalm, awayOk, dstFree, LVal.free, LVal.calm, LVal.calm1, LOp.opds, optL, RS.acquire, appendL, elemsL, bound, inRange, intL, loadL, storeL, setElems, setParts, fitsElem, lenL, isNilL, partL, chunks, o3, o8, o9, o10, o11, o12, e0, e1, e3, e5, e6, k1, hne', fx1, fx2, eq_true fx3, e8, fs1, fs2, eq_true fs3, ft, eq_false fs6, fs5, m1, m2, m3, m4, e12, hgt, hlt, e9, e10, e11, e13, e14, statesL_append]
      subst hK
      rfl
  · rcases lst_cases hacc with ⟨rfl, rfl⟩ | ⟨hne, o, rfl, rfl | rfl⟩
    · refine ⟨_, .own 31 false, .inr ⟨_, rfl⟩, .inr ⟨by simp, .inr rfl⟩, ?_⟩
      simp [D.b28_0, runFun, LMode.isPure, LVal.pfs, LVal.pf, Go.L.initVars, codeW_seq, codeW_region, codeW_regionD, codeW_cond, codeW_ret, codeW_skip, codeW_exit, codeW_block, codeW_fence, thenW, outW, fenceOut, kill, LVal.withins, LVal.within, runOps, runOpsD, Go.L.step, stepD, semD, sem, RS.peek, RS.put, RS.give, RS.take, RS.takes, RS.takeElems, RS.takeParts, RS.peeks, RS.peekO, RS.setVar, RS.noPk, RS.settle, RS.alloc, callOut, LVal.arg, LVal.isAgg, LVal.cells, LVal.unpk, LVal.copy, LVal.down, LVal.settled, binL, binInt, binStr, unL, resL, resOne, res1, resAll, LVal.isTup, outL, LOp.quiet, LOp.acts, LOp.peeks, LOper.fix, calmOk, loadCalm, awayOk, dstFree, LVal.free, LVal.calm, LVal.calm1, LOp.opds, optL, RS.acquire, appendL, elemsL, bound, inRange, intL, loadL, storeL, setElems, setParts, fitsElem, lenL, isNilL, partL, chunks, o3, o8, o9, o10, o11, o12, e0, e1, e3, e5, e6, k1, hne', fx1, fx2, eq_true fx3, e8, fs1, fs2, eq_true fs3, ft, eq_false fs6, fs5, m1, m2, m3, m4, e12, hgt, hlt, e9, e10, e11, e13, e14, statesL_append]
      subst hK
      rfl
    · refine ⟨_, .own 31 false, .inr ⟨_, rfl⟩, .inr ⟨by simp, .inr rfl⟩, ?_⟩
      simp [D.b28_0, runFun, LMode.isPure, LVal.pfs, LVal.pf, Go.L.initVars, codeW_seq, codeW_region, codeW_regionD, codeW_cond, codeW_ret, codeW_skip, codeW_exit, codeW_block, codeW_fence, thenW, outW, fenceOut, kill, LVal.withins, LVal.within, runOps, runOpsD, Go.L.step, stepD, semD, sem, RS.peek, RS.put, RS.give, RS.take, RS.takes, RS.takeElems, RS.takeParts, RS.peeks, RS.peekO, RS.setVar, RS.noPk, RS.settle, RS.alloc, callOut, LVal.arg, LVal.isAgg, LVal.cells, LVal.unpk, LVal.copy, LVal.down, LVal.settled, binL, binInt, binStr, unL, resL, resOne, res1, resAll, LVal.isTup, outL, LOp.quiet, LOp.acts, LOp.peeks, LOper.fix, calmOk, loadCalm, awayOk, dstFree, LVal.free, LVal.calm, LVal.calm1, LOp.opds, optL, RS.acquire, appendL, elemsL, bound, inRange, intL, loadL, storeL, setElems, setParts, fitsElem, lenL, isNilL, partL, chunks, o3, o8, o9, o10, o11, o12, e0, e1, e3, e5, e6, k1, hne', fx1, fx2, eq_true fx3, e8, fs1, fs2, eq_true fs3, ft, eq_false fs6, fs5, m1, m2, m3, m4, e12, hgt, hlt, e9, e10, e11, e13, e14, statesL_append]
      subst hK
      rfl
    · refine ⟨_, .own 31 false, .inr ⟨_, rfl⟩, .inr ⟨by simp, .inr rfl⟩, ?_⟩
      simp [D.b28_0, runFun, LMode.isPure, LVal.pfs, LVal.pf, Go.L.initVars, codeW_seq, codeW_region, codeW_regionD, codeW_cond, codeW_ret, codeW_skip, codeW_exit, codeW_block, codeW_fence, thenW, outW, fenceOut, kill, LVal.withins, LVal.within, runOps, runOpsD, Go.L.step, stepD, semD, sem, RS.peek, RS.put, RS.give, RS.take, RS.takes, RS.takeElems, RS.takeParts, RS.peeks, RS.peekO, RS.setVar, RS.noPk, RS.settle, RS.alloc, callOut, LVal.arg, LVal.isAgg, LVal.cells, LVal.unpk, LVal.copy, LVal.down, LVal.settled, binL, binInt, binStr, unL, resL, resOne, res1, resAll, LVal.isTup, outL, LOp.quiet, LOp.acts, LOp.peeks, LOper.fix, calmOk, loadCalm, awayOk, dstFree, LVal.free, LVal.calm, LVal.calm1, LOp.opds, optL, RS.acquire, appendL, elemsL, bound, inRange, intL, loadL, storeL, setElems, setParts, fitsElem, lenL, isNilL, partL, chunks, o3, o8, o9, o10, o11, o12, e0, e1, e3, e5, e6, k1, hne', fx1, fx2, eq_true fx3, e8, fs1, fs2, eq_true fs3, ft, eq_false fs6, fs5, m1, m2, m3, m4, e12, hgt, hlt, e9, e10, e11, e13, e14, statesL_append]
      subst hK
      rfl
end Go.Proofs.Ytbljgbojkifoiaa
end
