/- SetsKeeps: what the law answers, case three. -/
import Derived.Test.YtbljgbojkifoiaaKK6
set_option linter.unusedVariables false
set_option linter.unusedSimpArgs false
namespace Go.Proofs.Ytbljgbojkifoiaa
open Go Go.L

set_option maxHeartbeats 40000000 in
/-- Something is handed in first, nothing behind. -/
theorem keeps3 (b0 b1 : Bool) (l m : List StateS)  (hne : l ≠ []) (hok : ∀ x ∈ l, x.ok ∧ x.few) (hl : l.length ≤ 40) 
    (hf : callW D.T 9 [.vs b0 .sh 31 (statesL l)] [] = some (.bool true, none)) (hg : callW D.T 9 [.vs b1 .sh 31 (statesL m)] [] = some (.bool true, none))
    (k13 : callW D.T 13 [.vs b1 .sh 31 (statesL m)] [] = some (.vs true .sh 0 [], none)) :
    callW D.T 7 [.vs b0 .sh 31 (statesL l), .vs b1 .sh 31 (statesL m)] [] = some (.bool true, none) := by
  have e7 : ∀ l : List StateS, LVal.pfs (statesL l) = true := statesL_pfs
  have hst : statesL [] = [] := rfl
  have hfl : ∀ l : List StateS, List.flatMap LVal.cells (statesL l) = flat l := fun l => rfl
  have hsn : ∀ l : List StateS, statesL l = [] ↔ l = [] := fun l => by simp [statesL]
  obtain ⟨va, k15, hA⟩ := ofM_eq hok (by omega)
  have hAne : setS l ≠ [] := fun h => hne (setS_nil h)
  have hAok : ∀ x ∈ setS l, x.ok ∧ x.few := fun x hx => hok x (setS_mem hx)
  have hAlen := setS_len l
  obtain rfl : va = .vs false (.own 31 true) 31 (statesL (setS l)) := by
    rcases hA with ⟨h, _⟩ | ⟨_, h⟩
    · exact absurd h hAne
    · exact h
  generalize setS l = A at *
  have hBok : ∀ x ∈ ([] : List StateS), x.ok ∧ x.few := fun x h => by simp at h
  obtain ⟨vx, k17, hX⟩ := join_eq (b0 := true) (n0 := 0) (b1 := false) (n1 := 31) (l := ([] : List StateS)) (m := A) (.inl rfl) (.inr rfl) hBok hAok (by simp) (by omega)
  have hXne : setS (([] : List StateS) ++ A) ≠ [] := fun h => hAne (by simpa using setS_nil h)
  have hXok : ∀ x ∈ setS (([] : List StateS) ++ A), x.ok ∧ x.few := fun x hx => (List.mem_append.1 (setS_mem hx)).elim (hBok x) (hAok x)
  have hXlen := setS_len (([] : List StateS) ++ A)
  simp only [List.length_append, List.length_nil] at hXlen
  obtain rfl : vx = .vs false (.own 31 true) 31 (statesL (setS (([] : List StateS) ++ A))) := by
    rcases hX with ⟨h, _⟩ | ⟨_, h⟩
    · exact absurd h hXne
    · exact h
  generalize setS (([] : List StateS) ++ A) = X at *
  have hXagg := statesL_agg X
  have hXF := flat_flat (l := X) fun x hx => ok_lies (hXok x hx)
  have hXw : ∀ n, LObj.within n (.cells 31 (flat X)) = true := fun n => within_cells hXF
  have eX : (statesL X).length = X.length := statesL_len X
  have el : (statesL l).length = l.length := statesL_len l
  have eA : (statesL A).length = A.length := statesL_len A
  have hln : ¬ statesL l = [] := fun h => hne ((hsn l).1 h)
  have hAn : ¬ statesL A = [] := fun h => hAne ((hsn A).1 h)
  have hagg := statesL_agg l
  have hlF := flat_flat (l := l) fun x hx => ok_lies (hok x hx)
  have hlw : ∀ n, LObj.within n (.cells 31 (flat l)) = true := fun n => within_cells hlF
  have sM := rsameM_eq (b1 := b0) (n1 := 31) (l := l) (m := l) (.inr rfl) hok hok (by omega) (by omega) (st := [.cells 31 (flat X)]) (st1_ok' hXF).1 (st1_ok' hXF).2
  have sA := fun (cc dd : List LVal) (hcc : Flat (l.length * 31) cc) (hdd : Flat (X.length * 31) dd) => rsame_eq (b0 := false) (b1 := false) (n0 := 31) (n1 := 31) (l := A) (m := A) (.inr rfl) (.inr rfl) hAok hAok (by omega) (by omega) (st := [.cells 31 cc, .cells 31 dd]) (st2_ok hcc hdd).1 (st2_ok hcc hdd).2
  have sB := fun (b c : Bool) (n k : Nat) (hn : ([] : List StateS) = [] ∨ n = 31) (hk : ([] : List StateS) = [] ∨ k = 31) (cc dd : List LVal) (hcc : Flat (l.length * 31) cc) (hdd : Flat (X.length * 31) dd) => rsame_eq (b0 := b) (b1 := c) (n0 := n) (n1 := k) (l := ([] : List StateS)) (m := ([] : List StateS)) hn hk hBok hBok (by simp) (by simp) (st := [.cells 31 cc, .cells 31 dd]) (st2_ok hcc hdd).1 (st2_ok hcc hdd).2
  obtain ⟨m1, m2, m3, m4, m5, m6⟩ : l.length * 256 ≤ maxBytes ∧ l.length ≤ maxBytes ∧ A.length * 256 ≤ maxBytes ∧ A.length ≤ maxBytes ∧ ([] : List StateS).length * 256 ≤ maxBytes ∧ ([] : List StateS).length ≤ maxBytes := ⟨mb (by omega), mb (by omega), mb (by omega), mb (by omega), mb (by simp), mb (by simp)⟩
  simp only [sameS_self, hst] at sM sA sB k15 k17
  obtain ⟨c', w, hF, h70⟩ := loop70b (.cells 31 (flat l)) hlw (.ms 0 0 l.length 31 true) (.vs false (.own 31 false) 31 (statesL A)) (.vs true .sh 0 []) (.vs false .full 31 []) (.vs false (.own 31 true) 31 (statesL A)) X.length (by clear m1 m2 m3 m4 m5 m6; omega) rfl rfl rfl rfl rfl X.length 0 (.vs b0 .sh 31 (statesL l)) (.vs b1 .sh 31 (statesL m)) (.bool false) .undef (.bool false) (.bool false) .undef .undef (flat X) rfl (by omega) hXF
  have hFw : ∀ n, LObj.within n (.cells 31 c') = true := fun n => within_cells hF
  obtain ⟨d', w2, hG, h71⟩ := loop71 (.cells 31 c') hFw (.vs false (.own 31 false) 31 (statesL A)) (.vs true .sh 0 []) (.vs false .full 31 []) (.vs false (.own 31 true) 31 (statesL A)) l.length (by clear m1 m2 m3 m4 m5 m6; omega) rfl rfl rfl rfl l.length 0 .undef .undef .undef .undef .undef .undef .undef .undef .undef (flat l) rfl (by omega) hlF
  have hGw : ∀ n, LObj.within n (.cells 31 d') = true := fun n => within_cells hG
  have sB1 := fun b c n k hn hk => sB b c n k hn hk _ _ hlF hXF
  have sA2 := sA _ _ hG hF
  have sB2 := fun b c n k hn hk => sB b c n k hn hk _ _ hG hF
  have sBa : ∀ b c n k, _ := fun b c n k => sB1 b c n k (by simp) (by simp)
  have sBb : ∀ b c n k, _ := fun b c n k => sB2 b c n k (by simp) (by simp)
  have z0 : ((0 : Nat) : Int) = 0 := rfl
  rw [z0] at h70 h71
  clear hXok hok hAok hXlen hAlen sA sB sB1 sB2
  rw [callW_fn fn7]
  all_goals
    simp [D.l7, D.c7, runFun, LMode.isPure, LVal.pfs, LVal.pf, Go.L.initVars, codeW_seq, codeW_region, codeW_regionD, codeW_cond, codeW_ret, codeW_skip, codeW_exit, codeW_block, codeW_fence, thenW, outW, fenceOut, kill, LVal.withins, LVal.within, runOps, runOpsD, Go.L.step, stepD, semD, sem, RS.peek, RS.put, RS.give, RS.take, RS.takes, RS.takeElems, RS.takeParts, RS.peeks, RS.peekO, RS.setVar, RS.noPk, RS.settle, RS.alloc, callOut, LVal.arg, LVal.cells, LVal.unpk, LVal.copy, LVal.down, LVal.plain, LVal.settled, binL, binInt, binStr, unL, resL, resOne, res1, resAll, LVal.isTup, outL, LOp.quiet, LOp.acts, LOp.peeks, LOper.fix, calmOk, loadCalm, awayOk, dstFree, LVal.free, LVal.calm, LVal.calm1, LOp.opds, optL, RS.acquire, appendL, elemsL, bound, inRange, intL, loadL, storeL, setElems, setParts, fitsElem, lenL, isNilL, partL, chunks, isAgg_agg, awake_eq, hf, hg, e7, k13, k15, k17, sM, sBa, eX, el, eA, hln, hne, hAn, hAne, m1, m2, m3, m4, m5, m6, eq_true hXagg, eq_true hagg, hfl, hXw, hlw]
    rw [h70]
    simp [runFun, LMode.isPure, LVal.pfs, LVal.pf, Go.L.initVars, codeW_seq, codeW_region, codeW_regionD, codeW_cond, codeW_ret, codeW_skip, codeW_exit, codeW_block, codeW_fence, thenW, outW, fenceOut, kill, LVal.withins, LVal.within, runOps, runOpsD, Go.L.step, stepD, semD, sem, RS.peek, RS.put, RS.give, RS.take, RS.takes, RS.takeElems, RS.takeParts, RS.peeks, RS.peekO, RS.setVar, RS.noPk, RS.settle, RS.alloc, callOut, LVal.arg, LVal.cells, LVal.unpk, LVal.copy, LVal.down, LVal.plain, LVal.settled, binL, binInt, binStr, unL, resL, resOne, res1, resAll, LVal.isTup, outL, LOp.quiet, LOp.acts, LOp.peeks, LOper.fix, calmOk, loadCalm, awayOk, dstFree, LVal.free, LVal.calm, LVal.calm1, LOp.opds, optL, RS.acquire, appendL, elemsL, bound, inRange, intL, loadL, storeL, setElems, setParts, fitsElem, lenL, isNilL, partL, chunks, isAgg_agg, hFw, hlw]
    rw [h71]
    simp [runFun, LMode.isPure, LVal.pfs, LVal.pf, Go.L.initVars, codeW_seq, codeW_region, codeW_regionD, codeW_cond, codeW_ret, codeW_skip, codeW_exit, codeW_block, codeW_fence, thenW, outW, fenceOut, kill, LVal.withins, LVal.within, runOps, runOpsD, Go.L.step, stepD, semD, sem, RS.peek, RS.put, RS.give, RS.take, RS.takes, RS.takeElems, RS.takeParts, RS.peeks, RS.peekO, RS.setVar, RS.noPk, RS.settle, RS.alloc, callOut, LVal.arg, LVal.cells, LVal.unpk, LVal.copy, LVal.down, LVal.plain, LVal.settled, binL, binInt, binStr, unL, resL, resOne, res1, resAll, LVal.isTup, outL, LOp.quiet, LOp.acts, LOp.peeks, LOper.fix, calmOk, loadCalm, awayOk, dstFree, LVal.free, LVal.calm, LVal.calm1, LOp.opds, optL, RS.acquire, appendL, elemsL, bound, inRange, intL, loadL, storeL, setElems, setParts, fitsElem, lenL, isNilL, partL, chunks, isAgg_agg, hFw, hGw, sA2, sBb]
end Go.Proofs.Ytbljgbojkifoiaa
