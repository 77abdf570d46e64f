/- Texts 27. -/
import Derived.Test.YtbljgbojkifoiaaKVI
set_option linter.unusedVariables false
set_option linter.unusedSimpArgs false
namespace Go.Proofs.Ytbljgbojkifoiaa
open Go Go.L

theorem linkB_len {l : LinkS} (h : l.ok) (ho : l.opts.length ≤ 500) : (linkB l).length ≤ 1200 := by
  obtain ⟨h1, h2, h3, h4⟩ := h
  have n1 := numB_len h1; have n2 := numB_len h2; have n3 := numB_len h3; have n4 := numB_len h4; have n5 := truthB_len l.sent; have n6 := truthB_len l.answered; have n7 := textB_len l.opts
  simp only [linkB, List.length_append]; omega
theorem loginB_len {l : LoginS} (h : l.ok) (ho : l.value.length ≤ 500) : (loginB l).length ≤ 1200 := by
  obtain ⟨h1, h2, h3, h4⟩ := h
  have n1 := numB_len h1; have n2 := numB_len h2; have n3 := numB_len h3; have n4 := numB_len h4; have n5 := truthB_len l.oursOk; have n6 := truthB_len l.theirsOk; have n8 := truthB_len l.open_; have n9 := truthB_len l.asked; have n7 := textB_len l.value
  simp only [loginB, List.length_append]; omega
theorem keyB_len {s : StateS} (h : s.ok) (hf : s.few) : (keyB s).length ≤ 100000 := by
  obtain ⟨q0, q1, q2, q3, q4, q5, qo, qm⟩ := h
  obtain ⟨f1, f2, f3, f4, f5, f6⟩ := hf
  have n1 := linkB_len q0 f3; have n2 := linkB_len q1 f4; have n3 := linkB_len q2 f5; have n4 := loginB_len q3 f2
  have n5 := duesB_len s.due q4 f6
  have n6 : (numB (s.due.length : Int)).length ≤ 22 := numB_len ⟨by omega, by omega⟩
  simp only [keyB, List.length_append]; omega

/-- The map's entries. -/
def entL (l : List StateS) : List (LVal × LVal) := l.map fun s => (.str (keyB s), .agg s.cells)
/-- One more state is put. -/
def putS (s : StateS) : List StateS → List StateS
  | [] => [s]
  | x :: l => if keyB s = keyB x then s :: l else x :: putS s l
def getS (k : List UInt8) : List StateS → Option StateS
  | [] => none
  | x :: l => if k = keyB x then some x else getS k l

theorem putL_ent (s : StateS) : ∀ (l : List StateS), putL (.str (keyB s)) (.agg s.cells) (entL l) = some (entL (putS s l))
  | [] => rfl
  | x :: l => by
    have ih := putL_ent s l
    simp only [entL] at ih
    simp only [entL, List.map_cons, putL, keyEq, Option.bind_some, putS]
    by_cases h : keyB s = keyB x
    · simp [h]
    · simp [h, ih]

theorem findL_ent (k : List UInt8) : ∀ (l : List StateS), findL (.str k) (entL l) = some ((getS k l).map fun s => .agg s.cells)
  | [] => rfl
  | x :: l => by
    have ih := findL_ent k l
    simp only [entL] at ih
    simp only [entL, List.map_cons, findL, keyEq, Option.bind_some, getS]
    by_cases h : k = keyB x
    · simp [h]
    · simp [h, ih]

theorem keysOf_ent : ∀ (l : List StateS), (∀ s ∈ l, s.ok ∧ s.few) → D.keysOf (entL l) = some (l.map keyB)
  | [], _ => rfl
  | x :: l, h => by
    have ih := keysOf_ent l (fun s hs => h s (List.mem_cons_of_mem _ hs))
    have hk := keyB_len (h x (List.mem_cons_self ..)).1 (h x (List.mem_cons_self ..)).2
    simp only [entL] at ih
    simp only [entL, List.map_cons, D.keysOf]
    rw [if_pos (by omega), ih]
    rfl

theorem entL_within (n : Nat) : ∀ (l : List StateS), LVal.withins n ((entL l).map (·.1)) = true ∧ LVal.withins n ((entL l).map (·.2)) = true
  | [] => ⟨rfl, rfl⟩
  | x :: l => by
    obtain ⟨h1, h2⟩ := entL_within n l
    simp only [entL] at h1 h2
    constructor
    · simp only [entL, List.map_cons, LVal.withins, LVal.within]
      simpa using h1
    · simp only [entL, List.map_cons, LVal.withins, LVal.within]
      simp only [Bool.and_eq_true]
      exact ⟨cells_within n, h2⟩

theorem entL_len (l : List StateS) : (entL l).length = l.length := by simp [entL]

theorem fn41 : D.T.fns 41 = some (.fn D.l41) := rfl
theorem fn40 : D.T.fns 40 = some (.hook D.hSorted) := rfl
theorem fn29 : D.T.fns 29 = some (.fn D.l29) := rfl

theorem keys_eq (es : List (LVal × LVal)) : callW D.T 41 [.map 0] [.map es] = some (.func 49 [.ptr 1 0], some [.map es, .cells 59 [.map 0]]) := by
  rw [callW_fn fn41]
  simp [D.l41, D.c41, runFun, LMode.isPure, LVal.pfs, LVal.pf, Go.L.initVars, codeW_seq, codeW_region, codeW_regionD, codeW_cond, codeW_ret, codeW_skip, codeW_exit, codeW_block, codeW_fence, thenW, outW, fenceOut, kill, LVal.withins, LVal.within, runOps, runOpsD, Go.L.step, stepD, semD, sem, RS.peek, RS.put, RS.give, RS.take, RS.takes, RS.takeElems, RS.takeParts, RS.peeks, RS.peekO, RS.setVar, RS.noPk, RS.settle, RS.alloc, callOut, LVal.arg, LVal.isAgg, LVal.cells, LVal.unpk, LVal.copy, LVal.down, LVal.plain, LVal.settled, binL, binInt, binStr, unL, resL, resOne, res1, resAll, LVal.isTup, outL, LOp.quiet, LOp.acts, LOp.peeks, LOper.fix, calmOk, loadCalm, awayOk, dstFree, LVal.free, LVal.calm, LVal.calm1, LOp.opds, optL, RS.acquire, appendL, elemsL, bound, inRange, intL, loadL, storeL, setElems, setParts, fitsElem, lenL, isNilL, partL, chunks]

theorem sorted_eq (l : List StateS) (h : ∀ s ∈ l, s.ok ∧ s.few) (hl : l.length ≤ 1000000) :
    callW D.T 40 [.func 49 [.ptr 1 0]] [.map (entL l), .cells 59 [.map 0]] = some (if l.isEmpty then .vs true .sh 1 [] else .vs false .sh 1 ((D.sortK (l.map keyB)).map .str), none) := by
  rw [callW_hook fn40]
  have h1 := keysOf_ent l h
  have h2 : (entL l).isEmpty = l.isEmpty := by cases l <;> rfl
  have h3 := entL_len l
  simp [D.hSorted, h1, h2, h3, hl]
end Go.Proofs.Ytbljgbojkifoiaa
