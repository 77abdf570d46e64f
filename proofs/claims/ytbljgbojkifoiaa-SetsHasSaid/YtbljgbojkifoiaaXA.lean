/- SetsHas: the law's second region, in parts. -/
import Derived.Test.YtbljgbojkifoiaaWC
section
set_option linter.unusedVariables false
set_option linter.unusedSimpArgs false
namespace Go.Proofs.Ytbljgbojkifoiaa
open Go Go.L

abbrev R5 (b0 b1 : Bool) (l m : List StateS) (s : StateS) (c : Bool) (v5 v6 v7 : LVal) (rs : List LVal) : RS :=
  { vars := [.vs b0 .sh 31 (statesL l), .vs b1 .sh 31 (statesL m), .agg s.cells, .ptr 0 0, .bool c, v5, v6, v7, .bool false], st := [.cells 31 s.cells], rs := rs }

set_option maxHeartbeats 40000000 in
theorem r5p3 (b0 b1 : Bool) (l m : List StateS) (s : StateS) (hl : ∀ s ∈ l, s.ok ∧ s.few) (hm : ∀ s ∈ m, s.ok ∧ s.few) (nl : l.length ≤ 40) (nm : m.length ≤ 40)
    (b7 : Bool) (n7 : Nat) (v5 v6 v7 : LVal) (h7 : Hd v7 b7 n7 (setS (ofS l ++ ofS m))) (k7 : setS (ofS l ++ ofS m) = [] ∨ n7 = 31)
    (r0 r1 r2 r3 r4 r5 r6 r7 r8 r9 r10 r11 r12 r13 r14 r15 r16 r17 r18 r19 r20 : LVal) :
    Fin (R5 b0 b1 l m s true v5 v6 v7 []).vars [.cells 31 s.cells] (runOpsD (callW D.T) D.T.im D.T.impl ((opsOf D.r5_1).drop 22) (R5 b0 b1 l m s false v5 v6 v7 [r0, r1, r2, r3, r4, r5, r6, r7, r8, r9, r10, r11, r12, r13, r14, r15, r16, r17, r18, r19, r20, .bool true, .undef, .undef, .undef, .undef, .undef, .undef, .undef, .undef, .undef, .undef])) := by
  have e7 : ∀ l : List StateS, LVal.pfs (statesL l) = true := statesL_pfs
  have e5 : (statesL l).length = l.length := statesL_len l
  have e5' : (statesL m).length = m.length := statesL_len m
  have hlm : ∀ x ∈ l ++ m, x.ok ∧ x.few := fun x hx => (List.mem_append.1 hx).elim (hl x) (hm x)
  have olen := ofS_len l
  have olen' := ofS_len m
  have slen := setS_len (ofS l ++ ofS m)
  simp only [List.length_append] at slen
  have oo : ∀ x ∈ ofS l ++ ofS m, x.ok ∧ x.few := fun x hx => (List.mem_append.1 hx).elim (fun h => hl x (ofS_mem h)) (fun h => hm x (ofS_mem h))
  have so : ∀ x ∈ setS (ofS l ++ ofS m), x.ok ∧ x.few := fun x hx => oo x (setS_mem hx)
  obtain ⟨m1, m2, m3, m4, m5, m6⟩ : l.length * 256 ≤ maxBytes ∧ l.length ≤ maxBytes ∧ (l.length + m.length) * 256 ≤ maxBytes ∧ l.length + m.length ≤ maxBytes ∧ m.length * 256 ≤ maxBytes ∧ m.length ≤ maxBytes := by
    refine ⟨mb (by omega), mb (by omega), mb (by omega), mb (by omega), mb (by omega), mb (by omega)⟩
  have olm : (ofS (l ++ m)).length ≤ 100000 := by
    have := ofS_len (l ++ m)
    simp only [List.length_append] at this
    clear m1 m2 m3 m4 m5 m6
    omega
  have slen' : (setS (ofS l ++ ofS m)).length ≤ 100000 := by
    clear m1 m2 m3 m4 m5 m6
    omega
  have oso : ∀ x ∈ ofS (l ++ m), x.ok ∧ x.few := fun x hx => hlm x (ofS_mem hx)
  have hlen900 : (l ++ m).length ≤ 900 := by
    clear m1 m2 m3 m4 m5 m6
    simp only [List.length_append]
    omega
  have lawS := same_law l m
  obtain ⟨u, c13, hU⟩ := rof_eq (b := false) (n := 31) (.inr rfl) hlm hlen900
  obtain ⟨bu, nu, hu, hnu⟩ : ∃ bu nu, Hd u bu nu (ofS (l ++ m)) ∧ (ofS (l ++ m) = [] ∨ nu = 31) := by
    rcases hU with ⟨h1, rfl⟩ | ⟨h1, o, rfl, rfl | rfl⟩
    · exact ⟨true, 0, .inl (by rw [h1]; rfl), .inl h1⟩
    · exact ⟨false, 31, .inl rfl, .inr rfl⟩
    · exact ⟨false, 31, .inr rfl, .inr rfl⟩
  have c14 := rsame_eq (b0 := b7) (b1 := bu) k7 hnu so oso slen' olm
  rw [lawS] at c14
  rw [statesL_append] at c13
  have hsl : ∀ l : List StateS, statesL l = [] ↔ l = [] := fun l => by simp [statesL]
  clear hU olm oso lawS slen slen' so oo hlm hlen900 k7 hnu olen olen'
  generalize ofS (l ++ m) = w at *
  generalize setS (ofS l ++ ofS m) = z at *
  simp only [opsOf, D.r5_1, List.drop_succ_cons, List.drop_zero]
  by_cases hne : l = [] ∧ m = []
  · obtain ⟨rfl, rfl⟩ := hne
    have hst : statesL [] = [] := rfl
    rw [hst] at c13
    simp only [List.append_nil] at c13
    rcases h7 with rfl | rfl <;> rcases hu with rfl | rfl
    all_goals
      repeat
        apply fin_cons
        · first
            | (simp [runFun, LMode.isPure, LVal.pfs, LVal.pf, Go.L.initVars, codeW_seq, codeW_region, codeW_regionD, codeW_cond, codeW_ret, codeW_skip, codeW_exit, codeW_block, codeW_fence, thenW, outW, fenceOut, kill, LVal.withins, LVal.within, runOps, runOpsD, Go.L.step, stepD, semD, sem, RS.peek, RS.put, RS.give, RS.take, RS.takes, RS.takeElems, RS.takeParts, RS.peeks, RS.peekO, RS.setVar, RS.noPk, RS.settle, RS.alloc, callOut, LVal.arg, LVal.isAgg, LVal.cells, LVal.unpk, LVal.copy, LVal.down, LVal.plain, LVal.settled, binL, binInt, binStr, unL, resL, resOne, res1, resAll, LVal.isTup, outL, LOp.quiet, LOp.acts, LOp.peeks, LOper.fix, calmOk, loadCalm, awayOk, dstFree, LVal.free, LVal.calm, LVal.calm1, LOp.opds, optL, RS.acquire, appendL, elemsL, bound, inRange, intL, loadL, storeL, setElems, setParts, fitsElem, lenL, isNilL, partL, chunks, e7, hst, c13, c14]; done)
            | (simp [runFun, LMode.isPure, LVal.pfs, LVal.pf, Go.L.initVars, codeW_seq, codeW_region, codeW_regionD, codeW_cond, codeW_ret, codeW_skip, codeW_exit, codeW_block, codeW_fence, thenW, outW, fenceOut, kill, LVal.withins, LVal.within, runOps, runOpsD, Go.L.step, stepD, semD, sem, RS.peek, RS.put, RS.give, RS.take, RS.takes, RS.takeElems, RS.takeParts, RS.peeks, RS.peekO, RS.setVar, RS.noPk, RS.settle, RS.alloc, callOut, LVal.arg, LVal.isAgg, LVal.cells, LVal.unpk, LVal.copy, LVal.down, LVal.plain, LVal.settled, binL, binInt, binStr, unL, resL, resOne, res1, resAll, LVal.isTup, outL, LOp.quiet, LOp.acts, LOp.peeks, LOper.fix, calmOk, loadCalm, awayOk, dstFree, LVal.free, LVal.calm, LVal.calm1, LOp.opds, optL, RS.acquire, appendL, elemsL, bound, inRange, intL, loadL, storeL, setElems, setParts, fitsElem, lenL, isNilL, partL, chunks, e7, hst, c13, c14]; rfl)
      exact fin_nil
  · have hE : (l = [] ∧ ¬ m = []) ∨ (¬ l = [] ∧ m = []) ∨ (¬ l = [] ∧ ¬ m = []) := by
      by_cases h : l = [] <;> by_cases h' : m = [] <;> simp [h, h'] at hne ⊢
    rcases hE with ⟨rfl, hm0⟩ | ⟨hl0, rfl⟩ | ⟨hl0, hm0⟩
    · have hst : statesL [] = [] := rfl
      have hs2 : ¬ statesL m = [] := fun h => hm0 ((hsl m).1 h)
      rw [hst] at c13
      simp only [List.nil_append] at c13
      rcases h7 with rfl | rfl <;> rcases hu with rfl | rfl
      all_goals
        repeat
          apply fin_cons
          · first
              | (simp [runFun, LMode.isPure, LVal.pfs, LVal.pf, Go.L.initVars, codeW_seq, codeW_region, codeW_regionD, codeW_cond, codeW_ret, codeW_skip, codeW_exit, codeW_block, codeW_fence, thenW, outW, fenceOut, kill, LVal.withins, LVal.within, runOps, runOpsD, Go.L.step, stepD, semD, sem, RS.peek, RS.put, RS.give, RS.take, RS.takes, RS.takeElems, RS.takeParts, RS.peeks, RS.peekO, RS.setVar, RS.noPk, RS.settle, RS.alloc, callOut, LVal.arg, LVal.isAgg, LVal.cells, LVal.unpk, LVal.copy, LVal.down, LVal.plain, LVal.settled, binL, binInt, binStr, unL, resL, resOne, res1, resAll, LVal.isTup, outL, LOp.quiet, LOp.acts, LOp.peeks, LOper.fix, calmOk, loadCalm, awayOk, dstFree, LVal.free, LVal.calm, LVal.calm1, LOp.opds, optL, RS.acquire, appendL, elemsL, bound, inRange, intL, loadL, storeL, setElems, setParts, fitsElem, lenL, isNilL, partL, chunks, e7, hst, hs2, hm0, e5', m5, m6, c13, c14]; done)
              | (simp [runFun, LMode.isPure, LVal.pfs, LVal.pf, Go.L.initVars, codeW_seq, codeW_region, codeW_regionD, codeW_cond, codeW_ret, codeW_skip, codeW_exit, codeW_block, codeW_fence, thenW, outW, fenceOut, kill, LVal.withins, LVal.within, runOps, runOpsD, Go.L.step, stepD, semD, sem, RS.peek, RS.put, RS.give, RS.take, RS.takes, RS.takeElems, RS.takeParts, RS.peeks, RS.peekO, RS.setVar, RS.noPk, RS.settle, RS.alloc, callOut, LVal.arg, LVal.isAgg, LVal.cells, LVal.unpk, LVal.copy, LVal.down, LVal.plain, LVal.settled, binL, binInt, binStr, unL, resL, resOne, res1, resAll, LVal.isTup, outL, LOp.quiet, LOp.acts, LOp.peeks, LOper.fix, calmOk, loadCalm, awayOk, dstFree, LVal.free, LVal.calm, LVal.calm1, LOp.opds, optL, RS.acquire, appendL, elemsL, bound, inRange, intL, loadL, storeL, setElems, setParts, fitsElem, lenL, isNilL, partL, chunks, e7, hst, hs2, hm0, e5', m5, m6, c13, c14]; rfl)
        exact fin_nil
    · have hst : statesL [] = [] := rfl
      have hs1 : ¬ statesL l = [] := fun h => hl0 ((hsl l).1 h)
      rw [hst] at c13
      simp only [List.append_nil] at c13
      rcases h7 with rfl | rfl <;> rcases hu with rfl | rfl
      all_goals
        repeat
          apply fin_cons
          · first
              | (simp [runFun, LMode.isPure, LVal.pfs, LVal.pf, Go.L.initVars, codeW_seq, codeW_region, codeW_regionD, codeW_cond, codeW_ret, codeW_skip, codeW_exit, codeW_block, codeW_fence, thenW, outW, fenceOut, kill, LVal.withins, LVal.within, runOps, runOpsD, Go.L.step, stepD, semD, sem, RS.peek, RS.put, RS.give, RS.take, RS.takes, RS.takeElems, RS.takeParts, RS.peeks, RS.peekO, RS.setVar, RS.noPk, RS.settle, RS.alloc, callOut, LVal.arg, LVal.isAgg, LVal.cells, LVal.unpk, LVal.copy, LVal.down, LVal.plain, LVal.settled, binL, binInt, binStr, unL, resL, resOne, res1, resAll, LVal.isTup, outL, LOp.quiet, LOp.acts, LOp.peeks, LOper.fix, calmOk, loadCalm, awayOk, dstFree, LVal.free, LVal.calm, LVal.calm1, LOp.opds, optL, RS.acquire, appendL, elemsL, bound, inRange, intL, loadL, storeL, setElems, setParts, fitsElem, lenL, isNilL, partL, chunks, e7, hst, hs1, hl0, e5, m1, m2, c13, c14]; done)
              | (simp [runFun, LMode.isPure, LVal.pfs, LVal.pf, Go.L.initVars, codeW_seq, codeW_region, codeW_regionD, codeW_cond, codeW_ret, codeW_skip, codeW_exit, codeW_block, codeW_fence, thenW, outW, fenceOut, kill, LVal.withins, LVal.within, runOps, runOpsD, Go.L.step, stepD, semD, sem, RS.peek, RS.put, RS.give, RS.take, RS.takes, RS.takeElems, RS.takeParts, RS.peeks, RS.peekO, RS.setVar, RS.noPk, RS.settle, RS.alloc, callOut, LVal.arg, LVal.isAgg, LVal.cells, LVal.unpk, LVal.copy, LVal.down, LVal.plain, LVal.settled, binL, binInt, binStr, unL, resL, resOne, res1, resAll, LVal.isTup, outL, LOp.quiet, LOp.acts, LOp.peeks, LOper.fix, calmOk, loadCalm, awayOk, dstFree, LVal.free, LVal.calm, LVal.calm1, LOp.opds, optL, RS.acquire, appendL, elemsL, bound, inRange, intL, loadL, storeL, setElems, setParts, fitsElem, lenL, isNilL, partL, chunks, e7, hst, hs1, hl0, e5, m1, m2, c13, c14]; rfl)
        exact fin_nil
    · have hs1 : ¬ statesL l = [] := fun h => hl0 ((hsl l).1 h)
      have hs2 : ¬ statesL m = [] := fun h => hm0 ((hsl m).1 h)
      rcases h7 with rfl | rfl <;> rcases hu with rfl | rfl
      all_goals
        repeat
          apply fin_cons
          · first
              | (simp [runFun, LMode.isPure, LVal.pfs, LVal.pf, Go.L.initVars, codeW_seq, codeW_region, codeW_regionD, codeW_cond, codeW_ret, codeW_skip, codeW_exit, codeW_block, codeW_fence, thenW, outW, fenceOut, kill, LVal.withins, LVal.within, runOps, runOpsD, Go.L.step, stepD, semD, sem, RS.peek, RS.put, RS.give, RS.take, RS.takes, RS.takeElems, RS.takeParts, RS.peeks, RS.peekO, RS.setVar, RS.noPk, RS.settle, RS.alloc, callOut, LVal.arg, LVal.isAgg, LVal.cells, LVal.unpk, LVal.copy, LVal.down, LVal.plain, LVal.settled, binL, binInt, binStr, unL, resL, resOne, res1, resAll, LVal.isTup, outL, LOp.quiet, LOp.acts, LOp.peeks, LOper.fix, calmOk, loadCalm, awayOk, dstFree, LVal.free, LVal.calm, LVal.calm1, LOp.opds, optL, RS.acquire, appendL, elemsL, bound, inRange, intL, loadL, storeL, setElems, setParts, fitsElem, lenL, isNilL, partL, chunks, e7, hs1, hs2, hl0, hm0, e5, e5', m1, m2, m3, m4, c13, c14]; done)
              | (simp [runFun, LMode.isPure, LVal.pfs, LVal.pf, Go.L.initVars, codeW_seq, codeW_region, codeW_regionD, codeW_cond, codeW_ret, codeW_skip, codeW_exit, codeW_block, codeW_fence, thenW, outW, fenceOut, kill, LVal.withins, LVal.within, runOps, runOpsD, Go.L.step, stepD, semD, sem, RS.peek, RS.put, RS.give, RS.take, RS.takes, RS.takeElems, RS.takeParts, RS.peeks, RS.peekO, RS.setVar, RS.noPk, RS.settle, RS.alloc, callOut, LVal.arg, LVal.isAgg, LVal.cells, LVal.unpk, LVal.copy, LVal.down, LVal.plain, LVal.settled, binL, binInt, binStr, unL, resL, resOne, res1, resAll, LVal.isTup, outL, LOp.quiet, LOp.acts, LOp.peeks, LOper.fix, calmOk, loadCalm, awayOk, dstFree, LVal.free, LVal.calm, LVal.calm1, LOp.opds, optL, RS.acquire, appendL, elemsL, bound, inRange, intL, loadL, storeL, setElems, setParts, fitsElem, lenL, isNilL, partL, chunks, e7, hs1, hs2, hl0, hm0, e5, e5', m1, m2, m3, m4, c13, c14]; rfl)
        exact fin_nil
end Go.Proofs.Ytbljgbojkifoiaa
end
section
set_option linter.unusedVariables false
set_option linter.unusedSimpArgs false
namespace Go.Proofs.Ytbljgbojkifoiaa
open Go Go.L

set_option maxHeartbeats 40000000 in
theorem r5p2 (b0 b1 : Bool) (l m : List StateS) (s : StateS) (hl : ∀ s ∈ l, s.ok ∧ s.few) (hm : ∀ s ∈ m, s.ok ∧ s.few) (hs : s.ok ∧ s.few) (nl : l.length ≤ 40) (nm : m.length ≤ 40)
    (b7 : Bool) (n7 : Nat) (v5 v6 v7 : LVal) (h7 : Hd v7 b7 n7 (setS (ofS l ++ ofS m))) (k7 : setS (ofS l ++ ofS m) = [] ∨ n7 = 31)
    (r0 r1 r2 r3 r4 r5 r6 : LVal) :
    Fin (R5 b0 b1 l m s true v5 v6 v7 []).vars [.cells 31 s.cells] (runOpsD (callW D.T) D.T.im D.T.impl ((opsOf D.r5_1).drop 8) (R5 b0 b1 l m s false v5 v6 v7 [r0, r1, r2, r3, r4, r5, r6, .bool true, .undef, .undef, .undef, .undef, .undef, .undef, .undef, .undef, .undef, .undef, .undef, .undef, .undef, .undef, .undef, .undef, .undef, .undef, .undef, .undef, .undef, .undef, .undef, .undef])) := by
  have e7 : ∀ l : List StateS, LVal.pfs (statesL l) = true := statesL_pfs
  have e7' : ∀ (n : Nat) (l : List StateS), LVal.withins n (statesL l) = true := fun n l => statesL_within n l
  have e8 : ∀ (n : Nat) (s : StateS), LVal.withins n s.cells = true := fun n s => cells_within n
  have olen := ofS_len l
  have olen' := ofS_len m
  have slen := setS_len (ofS l ++ ofS m)
  simp only [List.length_append] at slen
  have oo : ∀ x ∈ ofS l ++ ofS m, x.ok ∧ x.few := fun x hx => (List.mem_append.1 hx).elim (fun h => hl x (ofS_mem h)) (fun h => hm x (ofS_mem h))
  have so : ∀ x ∈ setS (ofS l ++ ofS m), x.ok ∧ x.few := fun x hx => oo x (setS_mem hx)
  have ls : s.lies := ⟨hs.1.2.2.2.2.2.2.1, hs.1.2.2.2.2.2.2.2⟩
  obtain ⟨fs1, fs2, fs3⟩ := fits_state ls
  have fs4 := cells_own ls
  have fs5 := cells_down ls
  have fs6 := cells_stay ls
  have fs7 := cells_settled ls
  have fs8 : ∀ x_1, x_1 ∈ s.cells → x_1.plain = true ∨ x_1.isOwn = true := fun _ h => .inl (fs3 _ h)
  have ft : List.take 31 s.cells = s.cells := rfl
  have k18 := has_eq (b0 := b7) k7 so hs (by omega) (setS_SS _)
  rw [join_law] at k18
  have k19 := rhas_eq (b0 := b0) (n0 := 31) (.inr rfl) hl hs (by omega)
  have k19' := rhas_eq (b0 := b1) (n0 := 31) (.inr rfl) hm hs (by omega)
  clear so oo slen olen olen'
  generalize hasS l s = p at *
  generalize hasS m s = q at *
  simp only [opsOf, D.r5_1, List.drop_succ_cons, List.drop_zero]
  rcases h7 with rfl | rfl <;> cases p <;> cases q
  all_goals
    iterate 14
      apply fin_cons
      · first
          | (simp [runFun, LMode.isPure, LVal.pfs, LVal.pf, Go.L.initVars, codeW_seq, codeW_region, codeW_regionD, codeW_cond, codeW_ret, codeW_skip, codeW_exit, codeW_block, codeW_fence, thenW, outW, fenceOut, kill, LVal.withins, LVal.within, runOps, runOpsD, Go.L.step, stepD, semD, sem, RS.peek, RS.put, RS.give, RS.take, RS.takes, RS.takeElems, RS.takeParts, RS.peeks, RS.peekO, RS.setVar, RS.noPk, RS.settle, RS.alloc, callOut, LVal.arg, LVal.isAgg, LVal.cells, LVal.unpk, LVal.copy, LVal.down, binL, binInt, binStr, unL, resL, resOne, res1, resAll, LVal.isTup, outL, LOp.quiet, LOp.acts, LOp.peeks, LOper.fix, calmOk, loadCalm, awayOk, dstFree, LVal.free, LVal.calm, LVal.calm1, LOp.opds, optL, RS.acquire, appendL, elemsL, bound, inRange, intL, loadL, storeL, setElems, setParts, fitsElem, lenL, isNilL, partL, chunks, e7, e7', e8, fs1, fs2, eq_true fs3, eq_true fs7, eq_true fs8, fs4, fs5, fs6, ft, k18, k19, k19']; done)
          | (simp [runFun, LMode.isPure, LVal.pfs, LVal.pf, Go.L.initVars, codeW_seq, codeW_region, codeW_regionD, codeW_cond, codeW_ret, codeW_skip, codeW_exit, codeW_block, codeW_fence, thenW, outW, fenceOut, kill, LVal.withins, LVal.within, runOps, runOpsD, Go.L.step, stepD, semD, sem, RS.peek, RS.put, RS.give, RS.take, RS.takes, RS.takeElems, RS.takeParts, RS.peeks, RS.peekO, RS.setVar, RS.noPk, RS.settle, RS.alloc, callOut, LVal.arg, LVal.isAgg, LVal.cells, LVal.unpk, LVal.copy, LVal.down, binL, binInt, binStr, unL, resL, resOne, res1, resAll, LVal.isTup, outL, LOp.quiet, LOp.acts, LOp.peeks, LOper.fix, calmOk, loadCalm, awayOk, dstFree, LVal.free, LVal.calm, LVal.calm1, LOp.opds, optL, RS.acquire, appendL, elemsL, bound, inRange, intL, loadL, storeL, setElems, setParts, fitsElem, lenL, isNilL, partL, chunks, e7, e7', e8, fs1, fs2, eq_true fs3, eq_true fs7, eq_true fs8, fs4, fs5, fs6, ft, k18, k19, k19']; rfl)
    exact r5p3 b0 b1 l m s hl hm nl nm b7 n7 v5 v6 _ (by first | exact .inl rfl | exact .inr rfl) k7 _ _ _ _ _ _ _ _ _ _ _ _ _ _ _ _ _ _ _ _ _
end Go.Proofs.Ytbljgbojkifoiaa
end
section
set_option linter.unusedVariables false
set_option linter.unusedSimpArgs false
namespace Go.Proofs.Ytbljgbojkifoiaa
open Go Go.L

set_option maxHeartbeats 40000000 in
theorem r5p1 (b0 b1 : Bool) (l m : List StateS) (s : StateS) (hl : ∀ s ∈ l, s.ok ∧ s.few) (hm : ∀ s ∈ m, s.ok ∧ s.few) (hs : s.ok ∧ s.few) (nl : l.length ≤ 40) (nm : m.length ≤ 40)
    (b5 : Bool) (n5 : Nat) (b7 : Bool) (n7 : Nat) (v5 v6 v7 : LVal) (h5 : Hd v5 b5 n5 (ofS l)) (k5 : ofS l = [] ∨ n5 = 31) (h7 : Hd v7 b7 n7 (setS (ofS l ++ ofS m))) (k7 : setS (ofS l ++ ofS m) = [] ∨ n7 = 31) :
    Fin (R5 b0 b1 l m s true v5 v6 v7 []).vars [.cells 31 s.cells] (runOpsD (callW D.T) D.T.im D.T.impl (opsOf D.r5_1) (R5 b0 b1 l m s false v5 v6 v7 [.undef, .undef, .undef, .undef, .undef, .undef, .undef, .undef, .undef, .undef, .undef, .undef, .undef, .undef, .undef, .undef, .undef, .undef, .undef, .undef, .undef, .undef, .undef, .undef, .undef, .undef, .undef, .undef, .undef, .undef, .undef, .undef])) := by
  have e7 : ∀ l : List StateS, LVal.pfs (statesL l) = true := statesL_pfs
  have e7' : ∀ (n : Nat) (l : List StateS), LVal.withins n (statesL l) = true := fun n l => statesL_within n l
  have e8 : ∀ (n : Nat) (s : StateS), LVal.withins n s.cells = true := fun n s => cells_within n
  have olen := ofS_len l
  have ls : s.lies := ⟨hs.1.2.2.2.2.2.2.1, hs.1.2.2.2.2.2.2.2⟩
  obtain ⟨fs1, fs2, fs3⟩ := fits_state ls
  have fs4 := cells_own ls
  have fs5 := cells_down ls
  have fs6 := cells_stay ls
  have fs7 := cells_settled ls
  have fs8 : ∀ x_1, x_1 ∈ s.cells → x_1.plain = true ∨ x_1.isOwn = true := fun _ h => .inl (fs3 _ h)
  have ft : List.take 31 s.cells = s.cells := rfl
  have k18 := has_eq (b0 := b5) k5 (fun x hx => hl x (ofS_mem hx)) hs (by omega) (ofS_keys l).1
  rw [hasS_of] at k18
  have k19 := rhas_eq (b0 := b0) (n0 := 31) (.inr rfl) hl hs (by omega)
  clear olen
  generalize hasS l s = p at *
  simp only [opsOf, D.r5_1]
  rcases h5 with rfl | rfl <;> cases p
  all_goals
    iterate 8
      apply fin_cons
      · first
          | (simp [runFun, LMode.isPure, LVal.pfs, LVal.pf, Go.L.initVars, codeW_seq, codeW_region, codeW_regionD, codeW_cond, codeW_ret, codeW_skip, codeW_exit, codeW_block, codeW_fence, thenW, outW, fenceOut, kill, LVal.withins, LVal.within, runOps, runOpsD, Go.L.step, stepD, semD, sem, RS.peek, RS.put, RS.give, RS.take, RS.takes, RS.takeElems, RS.takeParts, RS.peeks, RS.peekO, RS.setVar, RS.noPk, RS.settle, RS.alloc, callOut, LVal.arg, LVal.isAgg, LVal.cells, LVal.unpk, LVal.copy, LVal.down, binL, binInt, binStr, unL, resL, resOne, res1, resAll, LVal.isTup, outL, LOp.quiet, LOp.acts, LOp.peeks, LOper.fix, calmOk, loadCalm, awayOk, dstFree, LVal.free, LVal.calm, LVal.calm1, LOp.opds, optL, RS.acquire, appendL, elemsL, bound, inRange, intL, loadL, storeL, setElems, setParts, fitsElem, lenL, isNilL, partL, chunks, e7, e7', e8, fs1, fs2, eq_true fs3, eq_true fs7, eq_true fs8, fs4, fs5, fs6, ft, k18, k19]; done)
          | (simp [runFun, LMode.isPure, LVal.pfs, LVal.pf, Go.L.initVars, codeW_seq, codeW_region, codeW_regionD, codeW_cond, codeW_ret, codeW_skip, codeW_exit, codeW_block, codeW_fence, thenW, outW, fenceOut, kill, LVal.withins, LVal.within, runOps, runOpsD, Go.L.step, stepD, semD, sem, RS.peek, RS.put, RS.give, RS.take, RS.takes, RS.takeElems, RS.takeParts, RS.peeks, RS.peekO, RS.setVar, RS.noPk, RS.settle, RS.alloc, callOut, LVal.arg, LVal.isAgg, LVal.cells, LVal.unpk, LVal.copy, LVal.down, binL, binInt, binStr, unL, resL, resOne, res1, resAll, LVal.isTup, outL, LOp.quiet, LOp.acts, LOp.peeks, LOper.fix, calmOk, loadCalm, awayOk, dstFree, LVal.free, LVal.calm, LVal.calm1, LOp.opds, optL, RS.acquire, appendL, elemsL, bound, inRange, intL, loadL, storeL, setElems, setParts, fitsElem, lenL, isNilL, partL, chunks, e7, e7', e8, fs1, fs2, eq_true fs3, eq_true fs7, eq_true fs8, fs4, fs5, fs6, ft, k18, k19]; rfl)
    exact r5p2 b0 b1 l m s hl hm hs nl nm b7 n7 _ v6 v7 h7 k7 _ _ _ _ _ _ _

set_option maxHeartbeats 40000000 in
theorem r5b (b0 b1 : Bool) (l m : List StateS) (s : StateS) (hl : ∀ s ∈ l, s.ok ∧ s.few) (hm : ∀ s ∈ m, s.ok ∧ s.few) (hs : s.ok ∧ s.few) (nl : l.length ≤ 40) (nm : m.length ≤ 40)
    (b5 : Bool) (n5 : Nat) (b6 : Bool) (n6 : Nat) (b7 : Bool) (n7 : Nat) (v5 v6 v7 : LVal) (h5 : Hd v5 b5 n5 (ofS l)) (k5 : ofS l = [] ∨ n5 = 31) (h6 : Hd v6 b6 n6 (ofS m)) (h7 : Hd v7 b7 n7 (setS (ofS l ++ ofS m))) (k7 : setS (ofS l ++ ofS m) = [] ∨ n7 = 31) :
    codeW D.T D.r5_1 (R5 b0 b1 l m s false v5 v6 v7 []) = some (.normal, R5 b0 b1 l m s true v5 v6 v7 []) := by
  obtain ⟨rs', h⟩ := r5p1 b0 b1 l m s hl hm hs nl nm b5 n5 b7 n7 v5 v6 v7 h5 k5 h7 k7
  have ls : s.lies := ⟨hs.1.2.2.2.2.2.2.1, hs.1.2.2.2.2.2.2.2⟩
  have fs6 := cells_stay ls
  have hr : D.r5_1 = .region 32 (opsOf D.r5_1) true := rfl
  rw [hr]
  have hset : { (R5 b0 b1 l m s false v5 v6 v7 []).settle with rs := List.replicate 32 .undef } = R5 b0 b1 l m s false v5 v6 v7 (List.replicate 32 .undef) := by
    rcases h5 with rfl | rfl <;> rcases h6 with rfl | rfl <;> rcases h7 with rfl | rfl
    all_goals simp [RS.settle, LObj.settle, LVal.stay, fs6]
  apply regD (rs := rs')
  rw [hset]
  exact h
end Go.Proofs.Ytbljgbojkifoiaa
end
