/- SetsKeeps: what the law answers, case two. -/
import Derived.Test.YtbljgbojkifoiaaKK6
set_option linter.unusedVariables false
set_option linter.unusedSimpArgs false
namespace Go.Proofs.Ytbljgbojkifoiaa
open Go Go.L

set_option maxHeartbeats 40000000 in
/-- Nothing is handed in first. -/
theorem keeps2 (b0 b1 : Bool) (m B : List StateS) (o : Own) (ho : o = .sh ∨ o = .full) (hBne : B ≠ []) (hBok : ∀ x ∈ B, x.ok ∧ x.few) (hBl : B.length ≤ 40)
    (hf : callW D.T 9 [.vs b0 .sh 31 []] [] = some (.bool true, none)) (hg : callW D.T 9 [.vs b1 .sh 31 (statesL m)] [] = some (.bool true, none))
    (k13 : callW D.T 13 [.vs b1 .sh 31 (statesL m)] [] = some (.vs false o 31 (statesL B), none)) :
    callW D.T 7 [.vs b0 .sh 31 [], .vs b1 .sh 31 (statesL m)] [] = some (.bool true, none) := by
  have e7 : ∀ l : List StateS, LVal.pfs (statesL l) = true := statesL_pfs
  have hst : statesL [] = [] := rfl
  have hfl : ∀ l : List StateS, List.flatMap LVal.cells (statesL l) = flat l := fun l => rfl
  have hsn : ∀ l : List StateS, statesL l = [] ↔ l = [] := fun l => by simp [statesL]
  obtain ⟨va, k15, hA⟩ := of_eq (b := false) (n := 31) (l := []) (.inl rfl) (fun x h => by simp at h) (by simp)
  have hs0 : setS [] = [] := rfl
  rw [hs0] at hA
  obtain rfl : va = .vs true .sh 0 [] := by
    rcases hA with ⟨_, h⟩ | ⟨h, _⟩
    · exact h
    · exact absurd rfl h
  have n0 : ([] : List StateS).length ≤ 400 := by simp
  obtain ⟨vx, k17, hX⟩ := join_eq (b0 := false) (n0 := 31) (b1 := true) (n1 := 0) (l := B) (m := ([] : List StateS)) (.inr rfl) (.inl rfl) hBok (fun x h => by simp at h) (by omega) (by omega)
  have hXne : setS (B ++ ([] : List StateS)) ≠ [] := fun h => hBne (by simpa using setS_nil h)
  have hXok : ∀ x ∈ setS (B ++ ([] : List StateS)), x.ok ∧ x.few := fun x hx => (List.mem_append.1 (setS_mem hx)).elim (hBok x) (fun h => absurd h (by simp))
  have hXlen := setS_len (B ++ ([] : List StateS))
  simp only [List.length_append, List.length_nil] at hXlen
  obtain rfl : vx = .vs false (.own 31 true) 31 (statesL (setS (B ++ ([] : List StateS)))) := by
    rcases hX with ⟨h, _⟩ | ⟨_, h⟩
    · exact absurd h hXne
    · exact h
  generalize setS (B ++ ([] : List StateS)) = X at *
  have hXagg := statesL_agg X
  have hXF := flat_flat (l := X) fun x hx => ok_lies (hXok x hx)
  have hXw : ∀ n, LObj.within n (.cells 31 (flat X)) = true := fun n => within_cells hXF
  have eX : (statesL X).length = X.length := statesL_len X
  have eB : (statesL B).length = B.length := statesL_len B
  have hBn : ¬ statesL B = [] := fun h => hBne ((hsn B).1 h)
  obtain ⟨m1, m2⟩ : B.length * 256 ≤ maxBytes ∧ B.length ≤ maxBytes := ⟨mb (by omega), mb (by omega)⟩
  have sA := fun (b c : Bool) (n k : Nat) (cc : List LVal) (hcc : Flat (X.length * 31) cc) => rsame_eq (b0 := b) (b1 := c) (n0 := n) (n1 := k) (l := []) (m := []) (.inl rfl) (.inl rfl) (fun x h => by simp at h) (fun x h => by simp at h) (by simp) (by simp) (st := [.cells 31 cc]) (st1_ok hcc).1 (st1_ok hcc).2
  have sB := fun (cc : List LVal) (hcc : Flat (X.length * 31) cc) => rsame_eq (b0 := false) (b1 := false) (n0 := 31) (n1 := 31) (l := B) (m := B) (.inr rfl) (.inr rfl) hBok hBok (by clear m1 m2; omega) (by clear m1 m2; omega) (st := [.cells 31 cc]) (st1_ok hcc).1 (st1_ok hcc).2
  simp only [sameS_self, hst] at sA sB k15 k17
  have sA1 := fun b c n k => sA b c n k _ hXF
  have sB1 := sB _ hXF
  obtain ⟨c', w, hF, h70⟩ := loop70a (.vs false .full 31 []) (.vs true .sh 0 []) (.vs false o 31 (statesL B)) (.vs false (.own 31 false) 31 (statesL B)) (.vs false .full 31 []) X.length (by clear m1 m2; omega) rfl rfl rfl rfl rfl X.length 0 (.vs b0 .sh 31 []) (.vs b1 .sh 31 (statesL m)) (.bool false) .undef (.bool false) (.bool false) .undef .undef (flat X) rfl (by omega) hXF
  have hFw : ∀ n, LObj.within n (.cells 31 c') = true := fun n => within_cells hF
  have sA2 := fun b c n k => sA b c n k _ hF
  have sB2 := sB _ hF
  have z0 : ((0 : Nat) : Int) = 0 := rfl
  rw [z0] at h70
  clear hXok hBok hXlen sA sB
  rw [callW_fn fn7]
  rcases ho with rfl | rfl
  all_goals
    simp [D.l7, D.c7, runFun, LMode.isPure, LVal.pfs, LVal.pf, Go.L.initVars, codeW_seq, codeW_region, codeW_regionD, codeW_cond, codeW_ret, codeW_skip, codeW_exit, codeW_block, codeW_fence, thenW, outW, fenceOut, kill, LVal.withins, LVal.within, runOps, runOpsD, Go.L.step, stepD, semD, sem, RS.peek, RS.put, RS.give, RS.take, RS.takes, RS.takeElems, RS.takeParts, RS.peeks, RS.peekO, RS.setVar, RS.noPk, RS.settle, RS.alloc, callOut, LVal.arg, LVal.cells, LVal.unpk, LVal.copy, LVal.down, LVal.plain, LVal.settled, binL, binInt, binStr, unL, resL, resOne, res1, resAll, LVal.isTup, outL, LOp.quiet, LOp.acts, LOp.peeks, LOper.fix, calmOk, loadCalm, awayOk, dstFree, LVal.free, LVal.calm, LVal.calm1, LOp.opds, optL, RS.acquire, appendL, elemsL, bound, inRange, intL, loadL, storeL, setElems, setParts, fitsElem, lenL, isNilL, partL, chunks, isAgg_agg, awake_eq, hf, hg, e7, k13, k15, k17, sA1, sB1, eX, eB, hBn, hBne, m1, m2, eq_true hXagg, hfl, hXw]
    rw [h70]
    simp [runFun, LMode.isPure, LVal.pfs, LVal.pf, Go.L.initVars, codeW_seq, codeW_region, codeW_regionD, codeW_cond, codeW_ret, codeW_skip, codeW_exit, codeW_block, codeW_fence, thenW, outW, fenceOut, kill, LVal.withins, LVal.within, runOps, runOpsD, Go.L.step, stepD, semD, sem, RS.peek, RS.put, RS.give, RS.take, RS.takes, RS.takeElems, RS.takeParts, RS.peeks, RS.peekO, RS.setVar, RS.noPk, RS.settle, RS.alloc, callOut, LVal.arg, LVal.cells, LVal.unpk, LVal.copy, LVal.down, LVal.plain, LVal.settled, binL, binInt, binStr, unL, resL, resOne, res1, resAll, LVal.isTup, outL, LOp.quiet, LOp.acts, LOp.peeks, LOper.fix, calmOk, loadCalm, awayOk, dstFree, LVal.free, LVal.calm, LVal.calm1, LOp.opds, optL, RS.acquire, appendL, elemsL, bound, inRange, intL, loadL, storeL, setElems, setParts, fitsElem, lenL, isNilL, partL, chunks, isAgg_agg, hFw]
    rw [codeW_loop]
    simp [D.b7_1, runFun, LMode.isPure, LVal.pfs, LVal.pf, Go.L.initVars, codeW_seq, codeW_region, codeW_regionD, codeW_cond, codeW_ret, codeW_skip, codeW_exit, codeW_block, codeW_fence, thenW, outW, fenceOut, kill, LVal.withins, LVal.within, runOps, runOpsD, Go.L.step, stepD, semD, sem, RS.peek, RS.put, RS.give, RS.take, RS.takes, RS.takeElems, RS.takeParts, RS.peeks, RS.peekO, RS.setVar, RS.noPk, RS.settle, RS.alloc, callOut, LVal.arg, LVal.cells, LVal.unpk, LVal.copy, LVal.down, LVal.plain, LVal.settled, binL, binInt, binStr, unL, resL, resOne, res1, resAll, LVal.isTup, outL, LOp.quiet, LOp.acts, LOp.peeks, LOper.fix, calmOk, loadCalm, awayOk, dstFree, LVal.free, LVal.calm, LVal.calm1, LOp.opds, optL, RS.acquire, appendL, elemsL, bound, inRange, intL, loadL, storeL, setElems, setParts, fitsElem, lenL, isNilL, partL, chunks, isAgg_agg, hFw, sA2, sB2]
end Go.Proofs.Ytbljgbojkifoiaa
