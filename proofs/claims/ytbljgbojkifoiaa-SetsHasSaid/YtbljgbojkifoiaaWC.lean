/- SetsHas: the plain law, and what the law asks of its lists. -/
import Derived.Test.YtbljgbojkifoiaaWB
section
set_option linter.unusedVariables false
set_option linter.unusedSimpArgs false
namespace Go.Proofs.Ytbljgbojkifoiaa
open Go Go.L

theorem hasS_iff {l : List StateS} {s : StateS} : hasS l s = true ↔ keyB s ∈ l.map keyB := by
  simp only [hasS, List.any_eq_true, beq_iff_eq, List.mem_map]
theorem hasS_of (l : List StateS) (s : StateS) : hasS (ofS l) s = hasS l s := by
  rw [Bool.eq_iff_iff, hasS_iff, hasS_iff, (ofS_keys l).2]
theorem setS_SS (l : List StateS) : SS ((setS l).map keyB) := by rw [setS_keys]; exact (ofS_keys l).1
theorem setS_mem_iff (l : List StateS) (k : List UInt8) : k ∈ (setS l).map keyB ↔ k ∈ l.map keyB := by rw [setS_keys]; exact (ofS_keys l).2 k
theorem hasS_set (l : List StateS) (s : StateS) : hasS (setS l) s = hasS l s := by
  rw [Bool.eq_iff_iff, hasS_iff, hasS_iff, setS_mem_iff]
theorem hasS_append (l m : List StateS) (s : StateS) : hasS (l ++ m) s = (hasS l s || hasS m s) := by simp [hasS]
theorem join_law (l m : List StateS) (s : StateS) : hasS (setS (ofS l ++ ofS m)) s = (hasS l s || hasS m s) := by
  rw [hasS_set, hasS_append, hasS_of, hasS_of]
theorem same_law (l m : List StateS) : sameS (setS (ofS l ++ ofS m)) (ofS (l ++ m)) = true := by
  simp only [sameS, beq_iff_eq]
  refine SS.eq (setS_SS _) (ofS_keys _).1 fun k => ?_
  rw [setS_mem_iff, (ofS_keys _).2]
  simp only [List.map_append, List.mem_append, (ofS_keys _).2]

set_option maxHeartbeats 8000000 in
/-- Of, at a list of one's own. -/
theorem rof_own {e : Bool} {l : List StateS} (hok : ∀ x ∈ l, x.ok ∧ x.few) (hl : l.length ≤ 900) :
    ∃ v', callW D.T 13 [.vs false (.own 31 e) 31 (statesL l)] [] = some (v', none) ∧ Sl v' (ofS l) := by
  obtain ⟨out', w, hS, c1⟩ := loop13 false 31 l (.inr rfl) hok hl l.length 0 (.own 31 e) (.inr ⟨_, rfl⟩) [] (.vs true .sh 0 []) (.vs true .sh 0 []) .undef rfl rfl (by omega) (.inl ⟨rfl, rfl⟩) (by simp) (by simp)
  have z0 : ((0 : Nat) : Int) = 0 := rfl
  rw [z0] at c1
  simp only [List.drop_zero] at hS
  have e7 : ∀ l : List StateS, LVal.pfs (statesL l) = true := statesL_pfs
  rcases hS with ⟨h1, rfl⟩ | ⟨h1, o2, rfl, rfl | rfl⟩
  · refine ⟨_, ?_, .inl ⟨h1, rfl⟩⟩
    rw [callW_fn fn13]
    simp [D.l13, D.c13, runFun, LMode.isPure, LVal.pfs, LVal.pf, Go.L.initVars, codeW_seq, codeW_region, codeW_regionD, codeW_cond, codeW_ret, codeW_skip, codeW_exit, codeW_block, codeW_fence, thenW, outW, fenceOut, kill, LVal.withins, LVal.within, runOps, runOpsD, Go.L.step, stepD, semD, sem, RS.peek, RS.put, RS.give, RS.take, RS.takes, RS.takeElems, RS.takeParts, RS.peeks, RS.peekO, RS.setVar, RS.noPk, RS.settle, RS.alloc, callOut, LVal.arg, LVal.isAgg, LVal.cells, LVal.unpk, LVal.copy, LVal.down, LVal.plain, LVal.settled, binL, binInt, binStr, unL, resL, resOne, res1, resAll, LVal.isTup, outL, LOp.quiet, LOp.acts, LOp.peeks, LOper.fix, calmOk, loadCalm, awayOk, dstFree, LVal.free, LVal.calm, LVal.calm1, LOp.opds, optL, RS.acquire, appendL, elemsL, bound, inRange, intL, loadL, storeL, setElems, setParts, fitsElem, lenL, isNilL, partL, chunks, e7]
    rw [c1]
    simp [runFun, LMode.isPure, LVal.pfs, LVal.pf, Go.L.initVars, codeW_seq, codeW_region, codeW_regionD, codeW_cond, codeW_ret, codeW_skip, codeW_exit, codeW_block, codeW_fence, thenW, outW, fenceOut, kill, LVal.withins, LVal.within, runOps, runOpsD, Go.L.step, stepD, semD, sem, RS.peek, RS.put, RS.give, RS.take, RS.takes, RS.takeElems, RS.takeParts, RS.peeks, RS.peekO, RS.setVar, RS.noPk, RS.settle, RS.alloc, callOut, LVal.arg, LVal.isAgg, LVal.cells, LVal.unpk, LVal.copy, LVal.down, LVal.plain, LVal.settled, binL, binInt, binStr, unL, resL, resOne, res1, resAll, LVal.isTup, outL, LOp.quiet, LOp.acts, LOp.peeks, LOper.fix, calmOk, loadCalm, awayOk, dstFree, LVal.free, LVal.calm, LVal.calm1, LOp.opds, optL, RS.acquire, appendL, elemsL, bound, inRange, intL, loadL, storeL, setElems, setParts, fitsElem, lenL, isNilL, partL, chunks, e7]
  · refine ⟨_, ?_, .inr ⟨h1, .sh, rfl, .inl rfl⟩⟩
    rw [callW_fn fn13]
    simp [D.l13, D.c13, runFun, LMode.isPure, LVal.pfs, LVal.pf, Go.L.initVars, codeW_seq, codeW_region, codeW_regionD, codeW_cond, codeW_ret, codeW_skip, codeW_exit, codeW_block, codeW_fence, thenW, outW, fenceOut, kill, LVal.withins, LVal.within, runOps, runOpsD, Go.L.step, stepD, semD, sem, RS.peek, RS.put, RS.give, RS.take, RS.takes, RS.takeElems, RS.takeParts, RS.peeks, RS.peekO, RS.setVar, RS.noPk, RS.settle, RS.alloc, callOut, LVal.arg, LVal.isAgg, LVal.cells, LVal.unpk, LVal.copy, LVal.down, LVal.plain, LVal.settled, binL, binInt, binStr, unL, resL, resOne, res1, resAll, LVal.isTup, outL, LOp.quiet, LOp.acts, LOp.peeks, LOper.fix, calmOk, loadCalm, awayOk, dstFree, LVal.free, LVal.calm, LVal.calm1, LOp.opds, optL, RS.acquire, appendL, elemsL, bound, inRange, intL, loadL, storeL, setElems, setParts, fitsElem, lenL, isNilL, partL, chunks, e7]
    rw [c1]
    simp [runFun, LMode.isPure, LVal.pfs, LVal.pf, Go.L.initVars, codeW_seq, codeW_region, codeW_regionD, codeW_cond, codeW_ret, codeW_skip, codeW_exit, codeW_block, codeW_fence, thenW, outW, fenceOut, kill, LVal.withins, LVal.within, runOps, runOpsD, Go.L.step, stepD, semD, sem, RS.peek, RS.put, RS.give, RS.take, RS.takes, RS.takeElems, RS.takeParts, RS.peeks, RS.peekO, RS.setVar, RS.noPk, RS.settle, RS.alloc, callOut, LVal.arg, LVal.isAgg, LVal.cells, LVal.unpk, LVal.copy, LVal.down, LVal.plain, LVal.settled, binL, binInt, binStr, unL, resL, resOne, res1, resAll, LVal.isTup, outL, LOp.quiet, LOp.acts, LOp.peeks, LOper.fix, calmOk, loadCalm, awayOk, dstFree, LVal.free, LVal.calm, LVal.calm1, LOp.opds, optL, RS.acquire, appendL, elemsL, bound, inRange, intL, loadL, storeL, setElems, setParts, fitsElem, lenL, isNilL, partL, chunks, e7, ofS]
  · refine ⟨_, ?_, .inr ⟨h1, .full, rfl, .inr rfl⟩⟩
    rw [callW_fn fn13]
    simp [D.l13, D.c13, runFun, LMode.isPure, LVal.pfs, LVal.pf, Go.L.initVars, codeW_seq, codeW_region, codeW_regionD, codeW_cond, codeW_ret, codeW_skip, codeW_exit, codeW_block, codeW_fence, thenW, outW, fenceOut, kill, LVal.withins, LVal.within, runOps, runOpsD, Go.L.step, stepD, semD, sem, RS.peek, RS.put, RS.give, RS.take, RS.takes, RS.takeElems, RS.takeParts, RS.peeks, RS.peekO, RS.setVar, RS.noPk, RS.settle, RS.alloc, callOut, LVal.arg, LVal.isAgg, LVal.cells, LVal.unpk, LVal.copy, LVal.down, LVal.plain, LVal.settled, binL, binInt, binStr, unL, resL, resOne, res1, resAll, LVal.isTup, outL, LOp.quiet, LOp.acts, LOp.peeks, LOper.fix, calmOk, loadCalm, awayOk, dstFree, LVal.free, LVal.calm, LVal.calm1, LOp.opds, optL, RS.acquire, appendL, elemsL, bound, inRange, intL, loadL, storeL, setElems, setParts, fitsElem, lenL, isNilL, partL, chunks, e7]
    rw [c1]
    simp [runFun, LMode.isPure, LVal.pfs, LVal.pf, Go.L.initVars, codeW_seq, codeW_region, codeW_regionD, codeW_cond, codeW_ret, codeW_skip, codeW_exit, codeW_block, codeW_fence, thenW, outW, fenceOut, kill, LVal.withins, LVal.within, runOps, runOpsD, Go.L.step, stepD, semD, sem, RS.peek, RS.put, RS.give, RS.take, RS.takes, RS.takeElems, RS.takeParts, RS.peeks, RS.peekO, RS.setVar, RS.noPk, RS.settle, RS.alloc, callOut, LVal.arg, LVal.isAgg, LVal.cells, LVal.unpk, LVal.copy, LVal.down, LVal.plain, LVal.settled, binL, binInt, binStr, unL, resL, resOne, res1, resAll, LVal.isTup, outL, LOp.quiet, LOp.acts, LOp.peeks, LOper.fix, calmOk, loadCalm, awayOk, dstFree, LVal.free, LVal.calm, LVal.calm1, LOp.opds, optL, RS.acquire, appendL, elemsL, bound, inRange, intL, loadL, storeL, setElems, setParts, fitsElem, lenL, isNilL, partL, chunks, e7, ofS]

theorem fn5 : D.T.fns 5 = some (.fn D.l5) := rfl

set_option maxHeartbeats 8000000 in
/-- The law's first region: whether the lists are few. -/
theorem r5a (b0 b1 : Bool) (l m : List StateS) (s : StateS) (hl : ∀ s ∈ l, s.given) (hm : ∀ s ∈ m, s.given) (hs : s.given) :
    codeW D.T D.r5_0 { vars := [.vs b0 .sh 31 (statesL l), .vs b1 .sh 31 (statesL m), .agg s.cells, .ptr 0 0, .bool false, .undef, .undef, .undef, .undef], st := [.cells 31 s.cells], rs := [] } =
      some (.normal, { vars := [.vs b0 .sh 31 (statesL l), .vs b1 .sh 31 (statesL m), .agg s.cells, .ptr 0 0, .bool false, .undef, .undef, .undef, .bool (!(fewL l && fewL m && fewL [s]))], st := [.cells 31 s.cells], rs := [] }) := by
  have hf := few_eq b0 l (fun s hs => given_lies (hl s hs))
  have hg := few_eq b1 m (fun s hs => given_lies (hm s hs))
  have hh := few_eq false [s] (fun x hx => by simp at hx; exact hx ▸ given_lies hs)
  have hst : statesL [s] = [.agg s.cells] := rfl
  rw [hst] at hh
  have e7 : ∀ l : List StateS, LVal.pfs (statesL l) = true := statesL_pfs
  have ls := given_lies hs
  obtain ⟨fs1, fs2, fs3⟩ := fits_state ls
  have fs4 := cells_own ls
  have fs5 := cells_down ls
  have ft : List.take 31 s.cells = s.cells := rfl
  have fs6 : ¬ ∃ x, x ∈ s.cells ∧ x.isOwn = true := by
    rintro ⟨x, h1, h2⟩
    rw [List.any_eq_false] at fs4
    exact fs4 x h1 h2
  unfold D.r5_0
  generalize fewL l = p at *
  generalize fewL m = q at *
  generalize fewL [s] = r at *
  cases p <;> cases q <;> cases r
  all_goals
    apply regN
    simp only [List.replicate]
    repeat
      apply run_cons
      · first
          | (simp [runFun, LMode.isPure, LVal.pfs, LVal.pf, Go.L.initVars, codeW_seq, codeW_region, codeW_regionD, codeW_cond, codeW_ret, codeW_skip, codeW_exit, codeW_block, codeW_fence, thenW, outW, fenceOut, kill, LVal.withins, LVal.within, runOps, runOpsD, Go.L.step, stepD, semD, sem, RS.peek, RS.put, RS.give, RS.take, RS.takes, RS.takeElems, RS.takeParts, RS.peeks, RS.peekO, RS.setVar, RS.noPk, RS.settle, RS.alloc, callOut, LVal.arg, LVal.isAgg, LVal.cells, LVal.unpk, LVal.copy, LVal.down, LVal.settled, binL, binInt, binStr, unL, resL, resOne, res1, resAll, LVal.isTup, outL, LOp.quiet, LOp.acts, LOp.peeks, LOper.fix, calmOk, loadCalm, awayOk, dstFree, LVal.free, LVal.calm, LVal.calm1, LOp.opds, optL, RS.acquire, appendL, elemsL, bound, inRange, intL, loadL, storeL, setElems, setParts, fitsElem, lenL, isNilL, partL, chunks, awake_eq, hf, hg, hh, e7, fs1, fs2, eq_true fs3, fs4, fs5, eq_false fs6, ft]; done)
          | (simp [runFun, LMode.isPure, LVal.pfs, LVal.pf, Go.L.initVars, codeW_seq, codeW_region, codeW_regionD, codeW_cond, codeW_ret, codeW_skip, codeW_exit, codeW_block, codeW_fence, thenW, outW, fenceOut, kill, LVal.withins, LVal.within, runOps, runOpsD, Go.L.step, stepD, semD, sem, RS.peek, RS.put, RS.give, RS.take, RS.takes, RS.takeElems, RS.takeParts, RS.peeks, RS.peekO, RS.setVar, RS.noPk, RS.settle, RS.alloc, callOut, LVal.arg, LVal.isAgg, LVal.cells, LVal.unpk, LVal.copy, LVal.down, LVal.settled, binL, binInt, binStr, unL, resL, resOne, res1, resAll, LVal.isTup, outL, LOp.quiet, LOp.acts, LOp.peeks, LOper.fix, calmOk, loadCalm, awayOk, dstFree, LVal.free, LVal.calm, LVal.calm1, LOp.opds, optL, RS.acquire, appendL, elemsL, bound, inRange, intL, loadL, storeL, setElems, setParts, fitsElem, lenL, isNilL, partL, chunks, awake_eq, hf, hg, hh, e7, fs1, fs2, eq_true fs3, fs4, fs5, eq_false fs6, ft]; rfl)
    exact run_nil
end Go.Proofs.Ytbljgbojkifoiaa
end
section
set_option linter.unusedVariables false
set_option linter.unusedSimpArgs false
namespace Go.Proofs.Ytbljgbojkifoiaa
open Go Go.L

def opsOf : LCode → List LOper
  | .region _ ops _ => ops
  | _ => []

/-- A drawn region's last state, whatever its results. -/
def Fin (v : List LVal) (st : List LObj) (x : Option RS) : Prop := ∃ rs', x = some { vars := v, st := st, rs := rs' }
theorem fin_cons {C : CallL} {im : TypeId → String → Option FuncId} {im2 : TypeId → TypeId → Bool} {o : LOper} {r : List LOper} {s s1 : RS} {v : List LVal} {st : List LObj} (h1 : stepD C im im2 s o = some s1) (h2 : Fin v st (runOpsD C im im2 r s1)) : Fin v st (runOpsD C im im2 (o :: r) s) := by
  obtain ⟨rs', h2⟩ := h2
  exact ⟨rs', by simp only [runOpsD, h1, Option.bind_some, h2]⟩
theorem fin_nil {C : CallL} {im : TypeId → String → Option FuncId} {im2 : TypeId → TypeId → Bool} {v : List LVal} {st : List LObj} {rs : List LVal} : Fin v st (runOpsD C im im2 [] { vars := v, st := st, rs := rs }) := ⟨rs, rfl⟩

/-- A list of states, where it may be handed on. -/
def Hd (v : LVal) (b : Bool) (n : Nat) (l : List StateS) : Prop := v = .vs b .sh n (statesL l) ∨ v = .vs b .full n (statesL l)

theorem hd_of {v : LVal} {l : List StateS} (h : Sl v l) : ∃ b n, Hd v b n l ∧ (l = [] ∨ n = 31) := by
  rcases h with ⟨h1, rfl⟩ | ⟨h1, o, rfl, rfl | rfl⟩
  · exact ⟨true, 0, .inl (by rw [h1]; rfl), .inl h1⟩
  · exact ⟨false, 31, .inl rfl, .inr rfl⟩
  · exact ⟨false, 31, .inr rfl, .inr rfl⟩

/-- A region's last state, whatever its results. -/
theorem finN_cons {C : CallL} {im : TypeId → String → Option FuncId} {im2 : TypeId → TypeId → Bool} {o : LOper} {r : List LOper} {s s1 : RS} {v : List LVal} {st : List LObj} (h1 : Go.L.step C im im2 s o = some s1) (h2 : Fin v st (runOps C im im2 r s1)) : Fin v st (runOps C im im2 (o :: r) s) := by
  obtain ⟨rs', h2⟩ := h2
  exact ⟨rs', by simp only [runOps, h1, Option.bind_some, h2]⟩
theorem finN_nil {C : CallL} {im : TypeId → String → Option FuncId} {im2 : TypeId → TypeId → Bool} {v : List LVal} {st : List LObj} {rs : List LVal} : Fin v st (runOps C im im2 [] { vars := v, st := st, rs := rs }) := ⟨rs, rfl⟩
theorem step_peek {C : CallL} {im : TypeId → String → Option FuncId} {im2 : TypeId → TypeId → Bool} {s : RS} {ix k : Nat} {g : Opd} {st : Bool} {aw : List (Opd × Nat)} {v : LVal} {b : Bool} {n : Nat} {l : List StateS} (hv : Hd v b n l) (hg : s.peek g = some (.bool true)) (hk : s.vars[k]? = some v) :
    Go.L.step C im im2 s ⟨ix, none, some (g, true), .mv (.var k) true, st, aw⟩ = some { s with rs := s.rs.set ix v } := by
  rcases hv with rfl | rfl <;> simp [Go.L.step, hg, sem, hk, RS.put]

end Go.Proofs.Ytbljgbojkifoiaa
end
