/- Sets by the document: Of. -/
import Derived.Test.YtbljgbojkifoiaaSy23
set_option linter.unusedVariables false
set_option linter.unusedSimpArgs false
namespace Go.Proofs.Ytbljgbojkifoiaa
open Go Go.L

theorem fn13 : D.T.fns 13 = some (.fn D.l13) := rfl
/-- The set of a list. -/
def ofS (l : List StateS) : List StateS := l.foldl withS []

/-- States, however they lie. -/
def In (v : LVal) (l : List StateS) : Prop := ∃ b o n, v = .vs b o n (statesL l) ∧ (l = [] ∨ n = 31) ∧ (o = .sh ∨ o = .full ∨ ∃ e, o = .own 31 e)

theorem Sl.in {v : LVal} {l : List StateS} (h : Sl v l) : In v l := by
  rcases h with ⟨rfl, rfl⟩ | ⟨h1, o, rfl, ho⟩
  · exact ⟨true, .sh, 0, rfl, .inl rfl, .inl rfl⟩
  · exact ⟨false, o, 31, rfl, .inr rfl, ho.elim .inl fun h => .inr (.inl h)⟩

theorem scanW_mem {s : StateS} : ∀ (l : List StateS) (d : Bool) (acc : List StateS) (d' : Bool) (o : List StateS), scanW s l d acc = some (d', o) → ∀ x ∈ o, x ∈ acc ∨ x ∈ l ∨ x = s
  | [], d, acc, d', o, h, x, hx => by
    simp only [scanW, Option.some.injEq, Prod.mk.injEq] at h
    obtain ⟨_, rfl⟩ := h
    exact .inl hx
  | y :: l, d, acc, d', o, h, x, hx => by
    simp only [scanW] at h
    split at h
    · exact absurd h (by simp)
    · split at h
      · rcases scanW_mem l _ _ _ _ h x hx with h1 | h1 | h1
        · simp at h1
          rcases h1 with h1 | h1 | h1 <;> simp [h1]
        · simp [h1]
        · simp [h1]
      · rcases scanW_mem l _ _ _ _ h x hx with h1 | h1 | h1
        · simp at h1
          rcases h1 with h1 | h1 <;> simp [h1]
        · simp [h1]
        · simp [h1]

theorem scanW_len {s : StateS} : ∀ (l : List StateS) (d : Bool) (acc : List StateS) (d' : Bool) (o : List StateS), scanW s l d acc = some (d', o) → o.length + (if d then 1 else 0) = acc.length + l.length + (if d' then 1 else 0)
  | [], d, acc, d', o, h => by
    simp only [scanW, Option.some.injEq, Prod.mk.injEq] at h
    obtain ⟨rfl, rfl⟩ := h
    simp
  | y :: l, d, acc, d', o, h => by
    simp only [scanW] at h
    split at h
    · exact absurd h (by simp)
    · split at h
      · rename_i h1
        have := scanW_len l _ _ _ _ h
        simp [h1.1] at this ⊢
        omega
      · have := scanW_len l _ _ _ _ h
        simp at this ⊢
        omega

theorem withS_mem {l : List StateS} {s x : StateS} (h : x ∈ withS l s) : x ∈ l ∨ x = s := by
  simp only [withS] at h
  split at h
  · exact .inl h
  · rename_i d o hs
    have hm := scanW_mem l false [] d o hs
    split at h
    · rcases hm x h with h1 | h1 | h1
      · simp at h1
      · exact .inl h1
      · exact .inr h1
    · simp at h
      rcases h with h | h
      · rcases hm x h with h1 | h1 | h1
        · simp at h1
        · exact .inl h1
        · exact .inr h1
      · exact .inr h

theorem withS_len (l : List StateS) (s : StateS) : (withS l s).length ≤ l.length + 1 := by
  simp only [withS]
  split
  · omega
  · rename_i d o hs
    have := scanW_len l false [] d o hs
    cases d <;> simp at this ⊢ <;> omega

theorem foldW_mem : ∀ (l acc : List StateS) (x : StateS), x ∈ l.foldl withS acc → x ∈ acc ∨ x ∈ l
  | [], acc, x, h => .inl h
  | y :: l, acc, x, h => by
    rcases foldW_mem l (withS acc y) x h with h1 | h1
    · rcases withS_mem h1 with h2 | h2
      · exact .inl h2
      · exact .inr (by simp [h2])
    · exact .inr (by simp [h1])

theorem ofS_mem {l : List StateS} {x : StateS} (h : x ∈ ofS l) : x ∈ l := by
  rcases foldW_mem l [] x h with h1 | h1
  · simp at h1
  · exact h1

theorem foldW_len : ∀ (l acc : List StateS), (l.foldl withS acc).length ≤ acc.length + l.length
  | [], acc => by simp
  | y :: l, acc => by
    have h1 := foldW_len l (withS acc y)
    have h2 := withS_len acc y
    simp only [List.foldl_cons, List.length_cons]
    omega

theorem ofS_len (l : List StateS) : (ofS l).length ≤ l.length := by
  have := foldW_len l []
  simpa [ofS] using this

abbrev W13 (b : Bool) (o0 : Own) (n : Nat) (l : List StateS) (v1 out : LVal) (i : Int) (v4 : LVal) : RS :=
  { vars := [.vs b o0 n (statesL l), v1, out, .int .i64 i, v4], st := [], rs := [] }

set_option maxHeartbeats 8000000 in
theorem loop13 (b : Bool) (n : Nat) (l : List StateS) (hn : l = [] ∨ n = 31) (hok : ∀ x ∈ l, x.ok ∧ x.few) (hl : l.length ≤ 900) : ∀ (j i : Nat) (o0 : Own) (ho : o0 = .sh ∨ ∃ e, o0 = .own 31 e) (acc : List StateS) (out v1 v4 : LVal),
    v1.isOwn = false → v4.isOwn = false → i + j = l.length → Sl out acc → (∀ x ∈ acc, x ∈ l) → acc.length ≤ i →
    ∃ (out' : LVal) (w : Nat → LVal), Sl out' ((l.drop i).foldl withS acc) ∧ codeW D.T (.loop D.b13_0) (W13 b o0 n l v1 out i v4) =
      some (.exit 0, { vars := [w 0, w 1, out', w 3, w 4], st := [], rs := [] })
  | 0, i, o0, ho, acc, out, v1, v4, o1, o4, hij, hacc, hmem, hlen => by
    have hi : i = l.length := by omega
    subst hi
    have e5 : (statesL l).length = l.length := statesL_len l
    rw [List.drop_length]
    refine ⟨out, fun j => ([.vs b o0 n (statesL l), v1, .undef, .int .i64 l.length, .bool false] : List LVal).getD j .undef, hacc, ?_⟩
    rw [codeW_loop]
    rcases ho with rfl | ⟨e, rfl⟩
    all_goals simp [D.b13_0, runFun, LMode.isPure, LVal.pfs, LVal.pf, Go.L.initVars, codeW_seq, codeW_region, codeW_regionD, codeW_cond, codeW_ret, codeW_skip, codeW_exit, codeW_block, codeW_fence, thenW, outW, fenceOut, kill, LVal.withins, LVal.within, runOps, runOpsD, Go.L.step, stepD, semD, sem, RS.peek, RS.put, RS.give, RS.take, RS.takes, RS.takeElems, RS.takeParts, RS.peeks, RS.peekO, RS.setVar, RS.noPk, RS.settle, RS.alloc, callOut, LVal.arg, LVal.isAgg, LVal.cells, LVal.unpk, LVal.copy, LVal.down, LVal.plain, LVal.settled, binL, binInt, binStr, unL, resL, resOne, res1, resAll, LVal.isTup, outL, LOp.quiet, LOp.acts, LOp.peeks, LOper.fix, calmOk, loadCalm, awayOk, dstFree, LVal.free, LVal.calm, LVal.calm1, LOp.opds, optL, RS.acquire, appendL, elemsL, bound, inRange, intL, loadL, storeL, setElems, setParts, fitsElem, lenL, isNilL, partL, chunks, o4, e5]
  | j + 1, i, o0, ho, acc, out, v1, v4, o1, o4, hij, hacc, hmem, hlen => by
    have hi : i < l.length := by omega
    obtain ⟨x, hx⟩ : ∃ x, l[i]? = some x := ⟨_, List.getElem?_eq_getElem hi⟩
    have hxm : x ∈ l := List.mem_of_getElem? hx
    have hdrop : l.drop i = x :: l.drop (i + 1) := by
      rw [List.drop_eq_getElem_cons hi]
      rw [List.getElem?_eq_getElem hi] at hx; injection hx with hx; rw [hx]
    have hn' : n = 31 := by
      rcases hn with rfl | h
      · simp at hi
      · exact h
    subst hn'
    have e1 : (i : Int) < (l.length : Int) := by omega
    have e0 : 0 ≤ (i : Int) ∧ (i : Int) < (l.length : Int) := by omega
    have e3 : IntKind.i64.wrap ((i : Int) + 1) = (i : Int) + 1 := wi64 (by omega) (by omega)
    have e5 : (statesL l).length = l.length := statesL_len l
    have e6 : (statesL l)[i]? = some (.agg x.cells) := by rw [statesL_get, hx]; rfl
    have e7 : ∀ l : List StateS, LVal.pfs (statesL l) = true := statesL_pfs
    have lx : x.lies := ⟨(hok x hxm).1.2.2.2.2.2.2.1, (hok x hxm).1.2.2.2.2.2.2.2⟩
    obtain ⟨fx1, fx2, fx3⟩ := fits_state lx
    obtain ⟨v', c28, hS⟩ := with_eq (fun y hy => hok y (hmem y hy)) (hok x hxm) (by omega)
    have hS' := hS
    rw [hdrop, List.foldl_cons]
    have hmem' : ∀ y ∈ withS acc x, y ∈ l := fun y hy => by
      rcases withS_mem hy with h | h
      · exact hmem y h
      · exact h ▸ hxm
    have hlen' : (withS acc x).length ≤ i + 1 := Nat.le_trans (withS_len acc x) (by omega)
    obtain ⟨o', ho', hw⟩ : ∃ o', (o' = .sh ∨ ∃ e, o' = .own 31 e) ∧ codeW D.T (.loop D.b13_0) (W13 b o0 31 l v1 out i v4) = codeW D.T (.loop D.b13_0) (W13 b o' 31 l .undef v' (i + 1 : Nat) .undef) := by
      conv => enter [1, o', 2, 1]; rw [codeW_loop]
      generalize hK : thenW (codeW D.T (.loop D.b13_0)) = K
      rcases ho with rfl | ⟨e, rfl⟩
      · refine ⟨.sh, .inl rfl, ?_⟩
        rcases hacc with ⟨rfl, rfl⟩ | ⟨hne, o, rfl, rfl | rfl⟩ <;> (first | (simp only [sArg, if_neg hne] at c28) | (simp only [sArg, if_true] at c28)) <;> rcases hS' with ⟨-, rfl⟩ | ⟨-, o2, rfl, rfl | rfl⟩
        all_goals
          simp [D.b13_0, runFun, LMode.isPure, LVal.pfs, LVal.pf, Go.L.initVars, codeW_seq, codeW_region, codeW_regionD, codeW_cond, codeW_ret, codeW_skip, codeW_exit, codeW_block, codeW_fence, thenW, outW, fenceOut, kill, LVal.withins, LVal.within, runOps, runOpsD, Go.L.step, stepD, semD, sem, RS.peek, RS.put, RS.give, RS.take, RS.takes, RS.takeElems, RS.takeParts, RS.peeks, RS.peekO, RS.setVar, RS.noPk, RS.settle, RS.alloc, callOut, LVal.arg, LVal.isAgg, LVal.cells, LVal.unpk, LVal.copy, LVal.down, LVal.plain, LVal.settled, binL, binInt, binStr, unL, resL, resOne, res1, resAll, LVal.isTup, outL, LOp.quiet, LOp.acts, LOp.peeks, LOper.fix, calmOk, loadCalm, awayOk, dstFree, LVal.free, LVal.calm, LVal.calm1, LOp.opds, optL, RS.acquire, appendL, elemsL, bound, inRange, intL, loadL, storeL, setElems, setParts, fitsElem, lenL, isNilL, partL, chunks, o1, o4, e0, e1, e3, e5, e6, e7, fx1, fx2, fx3, c28]
          subst hK
          rfl
      · refine ⟨.own 31 false, .inr ⟨_, rfl⟩, ?_⟩
        rcases hacc with ⟨rfl, rfl⟩ | ⟨hne, o, rfl, rfl | rfl⟩ <;> (first | (simp only [sArg, if_neg hne] at c28) | (simp only [sArg, if_true] at c28)) <;> rcases hS' with ⟨-, rfl⟩ | ⟨-, o2, rfl, rfl | rfl⟩
        all_goals
          simp [D.b13_0, runFun, LMode.isPure, LVal.pfs, LVal.pf, Go.L.initVars, codeW_seq, codeW_region, codeW_regionD, codeW_cond, codeW_ret, codeW_skip, codeW_exit, codeW_block, codeW_fence, thenW, outW, fenceOut, kill, LVal.withins, LVal.within, runOps, runOpsD, Go.L.step, stepD, semD, sem, RS.peek, RS.put, RS.give, RS.take, RS.takes, RS.takeElems, RS.takeParts, RS.peeks, RS.peekO, RS.setVar, RS.noPk, RS.settle, RS.alloc, callOut, LVal.arg, LVal.isAgg, LVal.cells, LVal.unpk, LVal.copy, LVal.down, LVal.plain, LVal.settled, binL, binInt, binStr, unL, resL, resOne, res1, resAll, LVal.isTup, outL, LOp.quiet, LOp.acts, LOp.peeks, LOper.fix, calmOk, loadCalm, awayOk, dstFree, LVal.free, LVal.calm, LVal.calm1, LOp.opds, optL, RS.acquire, appendL, elemsL, bound, inRange, intL, loadL, storeL, setElems, setParts, fitsElem, lenL, isNilL, partL, chunks, o1, o4, e0, e1, e3, e5, e6, e7, fx1, fx2, fx3, c28]
          subst hK
          rfl
    rw [hw]
    exact loop13 b 31 l (.inr rfl) hok hl j (i + 1) o' ho' _ v' .undef .undef rfl rfl (by omega) hS hmem' hlen'

set_option maxHeartbeats 8000000 in
/-- Of. -/
theorem rof_eq {b : Bool} {n : Nat} {l : List StateS} (hn : l = [] ∨ n = 31) (hok : ∀ x ∈ l, x.ok ∧ x.few) (hl : l.length ≤ 900) :
    ∃ v', callW D.T 13 [.vs b .sh n (statesL l)] [] = some (v', none) ∧ Sl v' (ofS l) := by
  obtain ⟨out', w, hS, c1⟩ := loop13 b n l hn hok hl l.length 0 .sh (.inl rfl) [] (.vs true .sh 0 []) (.vs true .sh 0 []) .undef rfl rfl (by omega) (.inl ⟨rfl, rfl⟩) (by simp) (by simp)
  have z0 : ((0 : Nat) : Int) = 0 := rfl
  rw [z0] at c1
  simp only [List.drop_zero] at hS
  have e7 : ∀ l : List StateS, LVal.pfs (statesL l) = true := statesL_pfs
  have key : ∀ v', Sl v' (ofS l) → ∃ v2, Sl v2 (ofS l) ∧ True := fun v' h => ⟨v', h, trivial⟩
  rcases hS with ⟨h1, rfl⟩ | ⟨h1, o2, rfl, rfl | rfl⟩
  · refine ⟨_, ?_, .inl ⟨h1, rfl⟩⟩
    rw [callW_fn fn13]
    simp [D.l13, D.c13, runFun, LMode.isPure, LVal.pfs, LVal.pf, Go.L.initVars, codeW_seq, codeW_region, codeW_regionD, codeW_cond, codeW_ret, codeW_skip, codeW_exit, codeW_block, codeW_fence, thenW, outW, fenceOut, kill, LVal.withins, LVal.within, runOps, runOpsD, Go.L.step, stepD, semD, sem, RS.peek, RS.put, RS.give, RS.take, RS.takes, RS.takeElems, RS.takeParts, RS.peeks, RS.peekO, RS.setVar, RS.noPk, RS.settle, RS.alloc, callOut, LVal.arg, LVal.isAgg, LVal.cells, LVal.unpk, LVal.copy, LVal.down, LVal.plain, LVal.settled, binL, binInt, binStr, unL, resL, resOne, res1, resAll, LVal.isTup, outL, LOp.quiet, LOp.acts, LOp.peeks, LOper.fix, calmOk, loadCalm, awayOk, dstFree, LVal.free, LVal.calm, LVal.calm1, LOp.opds, optL, RS.acquire, appendL, elemsL, bound, inRange, intL, loadL, storeL, setElems, setParts, fitsElem, lenL, isNilL, partL, chunks, e7]
    rw [c1]
    simp [runFun, LMode.isPure, LVal.pfs, LVal.pf, Go.L.initVars, codeW_seq, codeW_region, codeW_regionD, codeW_cond, codeW_ret, codeW_skip, codeW_exit, codeW_block, codeW_fence, thenW, outW, fenceOut, kill, LVal.withins, LVal.within, runOps, runOpsD, Go.L.step, stepD, semD, sem, RS.peek, RS.put, RS.give, RS.take, RS.takes, RS.takeElems, RS.takeParts, RS.peeks, RS.peekO, RS.setVar, RS.noPk, RS.settle, RS.alloc, callOut, LVal.arg, LVal.isAgg, LVal.cells, LVal.unpk, LVal.copy, LVal.down, LVal.plain, LVal.settled, binL, binInt, binStr, unL, resL, resOne, res1, resAll, LVal.isTup, outL, LOp.quiet, LOp.acts, LOp.peeks, LOper.fix, calmOk, loadCalm, awayOk, dstFree, LVal.free, LVal.calm, LVal.calm1, LOp.opds, optL, RS.acquire, appendL, elemsL, bound, inRange, intL, loadL, storeL, setElems, setParts, fitsElem, lenL, isNilL, partL, chunks, e7]
  · refine ⟨_, ?_, .inr ⟨h1, .sh, rfl, .inl rfl⟩⟩
    rw [callW_fn fn13]
    simp [D.l13, D.c13, runFun, LMode.isPure, LVal.pfs, LVal.pf, Go.L.initVars, codeW_seq, codeW_region, codeW_regionD, codeW_cond, codeW_ret, codeW_skip, codeW_exit, codeW_block, codeW_fence, thenW, outW, fenceOut, kill, LVal.withins, LVal.within, runOps, runOpsD, Go.L.step, stepD, semD, sem, RS.peek, RS.put, RS.give, RS.take, RS.takes, RS.takeElems, RS.takeParts, RS.peeks, RS.peekO, RS.setVar, RS.noPk, RS.settle, RS.alloc, callOut, LVal.arg, LVal.isAgg, LVal.cells, LVal.unpk, LVal.copy, LVal.down, LVal.plain, LVal.settled, binL, binInt, binStr, unL, resL, resOne, res1, resAll, LVal.isTup, outL, LOp.quiet, LOp.acts, LOp.peeks, LOper.fix, calmOk, loadCalm, awayOk, dstFree, LVal.free, LVal.calm, LVal.calm1, LOp.opds, optL, RS.acquire, appendL, elemsL, bound, inRange, intL, loadL, storeL, setElems, setParts, fitsElem, lenL, isNilL, partL, chunks, e7]
    rw [c1]
    simp [runFun, LMode.isPure, LVal.pfs, LVal.pf, Go.L.initVars, codeW_seq, codeW_region, codeW_regionD, codeW_cond, codeW_ret, codeW_skip, codeW_exit, codeW_block, codeW_fence, thenW, outW, fenceOut, kill, LVal.withins, LVal.within, runOps, runOpsD, Go.L.step, stepD, semD, sem, RS.peek, RS.put, RS.give, RS.take, RS.takes, RS.takeElems, RS.takeParts, RS.peeks, RS.peekO, RS.setVar, RS.noPk, RS.settle, RS.alloc, callOut, LVal.arg, LVal.isAgg, LVal.cells, LVal.unpk, LVal.copy, LVal.down, LVal.plain, LVal.settled, binL, binInt, binStr, unL, resL, resOne, res1, resAll, LVal.isTup, outL, LOp.quiet, LOp.acts, LOp.peeks, LOper.fix, calmOk, loadCalm, awayOk, dstFree, LVal.free, LVal.calm, LVal.calm1, LOp.opds, optL, RS.acquire, appendL, elemsL, bound, inRange, intL, loadL, storeL, setElems, setParts, fitsElem, lenL, isNilL, partL, chunks, e7, ofS]
  · refine ⟨_, ?_, .inr ⟨h1, .full, rfl, .inr rfl⟩⟩
    rw [callW_fn fn13]
    simp [D.l13, D.c13, runFun, LMode.isPure, LVal.pfs, LVal.pf, Go.L.initVars, codeW_seq, codeW_region, codeW_regionD, codeW_cond, codeW_ret, codeW_skip, codeW_exit, codeW_block, codeW_fence, thenW, outW, fenceOut, kill, LVal.withins, LVal.within, runOps, runOpsD, Go.L.step, stepD, semD, sem, RS.peek, RS.put, RS.give, RS.take, RS.takes, RS.takeElems, RS.takeParts, RS.peeks, RS.peekO, RS.setVar, RS.noPk, RS.settle, RS.alloc, callOut, LVal.arg, LVal.isAgg, LVal.cells, LVal.unpk, LVal.copy, LVal.down, LVal.plain, LVal.settled, binL, binInt, binStr, unL, resL, resOne, res1, resAll, LVal.isTup, outL, LOp.quiet, LOp.acts, LOp.peeks, LOper.fix, calmOk, loadCalm, awayOk, dstFree, LVal.free, LVal.calm, LVal.calm1, LOp.opds, optL, RS.acquire, appendL, elemsL, bound, inRange, intL, loadL, storeL, setElems, setParts, fitsElem, lenL, isNilL, partL, chunks, e7]
    rw [c1]
    simp [runFun, LMode.isPure, LVal.pfs, LVal.pf, Go.L.initVars, codeW_seq, codeW_region, codeW_regionD, codeW_cond, codeW_ret, codeW_skip, codeW_exit, codeW_block, codeW_fence, thenW, outW, fenceOut, kill, LVal.withins, LVal.within, runOps, runOpsD, Go.L.step, stepD, semD, sem, RS.peek, RS.put, RS.give, RS.take, RS.takes, RS.takeElems, RS.takeParts, RS.peeks, RS.peekO, RS.setVar, RS.noPk, RS.settle, RS.alloc, callOut, LVal.arg, LVal.isAgg, LVal.cells, LVal.unpk, LVal.copy, LVal.down, LVal.plain, LVal.settled, binL, binInt, binStr, unL, resL, resOne, res1, resAll, LVal.isTup, outL, LOp.quiet, LOp.acts, LOp.peeks, LOper.fix, calmOk, loadCalm, awayOk, dstFree, LVal.free, LVal.calm, LVal.calm1, LOp.opds, optL, RS.acquire, appendL, elemsL, bound, inRange, intL, loadL, storeL, setElems, setParts, fitsElem, lenL, isNilL, partL, chunks, e7, ofS]
end Go.Proofs.Ytbljgbojkifoiaa
