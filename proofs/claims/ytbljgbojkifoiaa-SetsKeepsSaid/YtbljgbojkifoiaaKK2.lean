/- SetsKeeps: by key, what is answered being one's own. -/
import Derived.Test.YtbljgbojkifoiaaKK1
import Derived.Test.YtbljgbojkifoiaaKVJ
set_option linter.unusedVariables false
set_option linter.unusedSimpArgs false
namespace Go.Proofs.Ytbljgbojkifoiaa
open Go Go.L

/-- A list that is one's own. -/
def LstO (v : LVal) (l : List StateS) : Prop := (l = [] ∧ v = .vs true .sh 0 []) ∨ (l ≠ [] ∧ v = .vs false (.own 31 true) 31 (statesL l))

def pick (ks : List (List UInt8)) (m : List StateS) : List StateS := ks.filterMap fun k => getS k m

abbrev W29 (m : List StateS) (b4 : Bool) (ks : List (List UInt8)) (v1 out v3 : LVal) (i : Int) (v7 : LVal) : RS :=
  { vars := [.map 0, v1, out, v3, .vs b4 .sh 1 (ks.map .str), .int .i64 ks.length, .int .i64 i, v7], st := [.map (entL m), .cells 59 [.map 0]], rs := [] }

theorem getS_mem {k : List UInt8} {x : StateS} : ∀ {m : List StateS}, getS k m = some x → x ∈ m ∧ keyB x = k
  | [], h => by simp [getS] at h
  | y :: m, h => by
    simp only [getS] at h
    split at h
    · rename_i hk
      injection h with h
      subst h
      exact ⟨List.mem_cons_self .., hk.symm⟩
    · have := getS_mem h
      exact ⟨List.mem_cons_of_mem _ this.1, this.2⟩

set_option maxHeartbeats 8000000 in
theorem loop29 (m : List StateS) (b4 : Bool) (ks : List (List UInt8)) (hm : ∀ x ∈ m, x.ok ∧ x.few) (hks : ∀ k ∈ ks, ∃ x, getS k m = some x) (hl : ks.length ≤ 2000) : ∀ (j i : Nat) (acc : List StateS) (out v1 v3 v7 : LVal),
    v1.isOwn = false → v3.isOwn = false → v7.isOwn = false → LVal.within 2 v1 = true → i + j = ks.length → LstO out acc → acc.length = i →
    ∃ (out' : LVal) (w : Nat → LVal), LstO out' (acc ++ pick (ks.drop i) m) ∧ codeW D.T (.loop D.b29_0) (W29 m b4 ks v1 out v3 i v7) =
      some (.exit 0, { vars := [.map 0, w 1, out', w 3, w 4, w 5, w 6, w 7], st := [.map (entL m), .cells 59 [.map 0]], rs := [] })
  | 0, i, acc, out, v1, v3, v7, o1, o3, o7, w1, hij, hacc, hlen => by
    have hi : i = ks.length := by omega
    rw [hi, List.drop_length]
    refine ⟨out, fun j => ([.map 0, v1, .undef, v3, .vs b4 .sh 1 (ks.map .str), .int .i64 ks.length, .int .i64 ks.length, .bool false] : List LVal).getD j .undef, by simpa [pick] using hacc, ?_⟩
    rw [codeW_loop]
    simp [D.b29_0, runFun, LMode.isPure, LVal.pfs, LVal.pf, Go.L.initVars, codeW_seq, codeW_region, codeW_regionD, codeW_cond, codeW_ret, codeW_skip, codeW_exit, codeW_block, codeW_fence, thenW, outW, fenceOut, kill, LVal.withins, LVal.within, runOps, runOpsD, Go.L.step, stepD, semD, sem, RS.peek, RS.put, RS.give, RS.take, RS.takes, RS.takeElems, RS.takeParts, RS.peeks, RS.peekO, RS.setVar, RS.noPk, RS.settle, RS.alloc, callOut, LVal.arg, LVal.isAgg, LVal.cells, LVal.unpk, LVal.copy, LVal.down, LVal.plain, LVal.settled, binL, binInt, binStr, unL, resL, resOne, res1, resAll, LVal.isTup, outL, LOp.quiet, LOp.acts, LOp.peeks, LOper.fix, calmOk, loadCalm, awayOk, dstFree, LVal.free, LVal.calm, LVal.calm1, LOp.opds, optL, RS.acquire, appendL, elemsL, bound, inRange, intL, loadL, storeL, setElems, setParts, fitsElem, lenL, isNilL, partL, chunks, o1, o3, o7]
  | j + 1, i, acc, out, v1, v3, v7, o1, o3, o7, w1, hij, hacc, hlen => by
    have hi : i < ks.length := by omega
    obtain ⟨k, hk⟩ : ∃ k, ks[i]? = some k := ⟨_, List.getElem?_eq_getElem hi⟩
    have hkm : k ∈ ks := List.mem_of_getElem? hk
    obtain ⟨x, hx⟩ := hks k hkm
    have hdrop : ks.drop i = k :: ks.drop (i + 1) := by
      rw [List.drop_eq_getElem_cons hi]
      rw [List.getElem?_eq_getElem hi] at hk; injection hk with hk; rw [hk]
    have hxo := hm x (getS_mem hx).1
    have e1 : (i : Int) < (ks.length : Int) := by omega
    have e0 : 0 ≤ (i : Int) ∧ (i : Int) < (ks.length : Int) := by omega
    have e3 : IntKind.i64.wrap ((i : Int) + 1) = (i : Int) + 1 := wi64 (by omega) (by omega)
    have e6 : ks[i]? = some k := hk
    have lx : x.lies := ⟨hxo.1.2.2.2.2.2.2.1, hxo.1.2.2.2.2.2.2.2⟩
    obtain ⟨fx1, fx2, fx3⟩ := fits_state lx
    have fx5 := cells_down lx
    have e7 : ∀ (n : Nat) (l : List StateS), LVal.withins n (statesL l) = true := fun n l => statesL_within n l
    have e8 : ∀ (n : Nat) (s : StateS), LVal.withins n s.cells = true := fun n s => cells_within n
    have f1 : findL (.str k) (entL m) = some (some (.agg x.cells)) := by rw [findL_ent, hx]; rfl
    obtain ⟨g1, g2⟩ := entL_within 2 m
    have g0 : LObj.within 2 (.map (entL m)) = true := by simp [LObj.within, g1, g2]
    have g3 : LObj.within 2 (.cells 59 [.map 0]) = true := rfl
    have e9 : (statesL acc).length = acc.length := statesL_len acc
    have e10 : LVal.pfs (statesL acc) = true := statesL_pfs acc
    have e12 : ∀ n, LVal.withins n (ks.map .str) = true := by
      intro n
      clear hks hl hi hk hkm hdrop e1 e0 e6 hij
      induction ks with
      | nil => rfl
      | cons a r ih => simp [LVal.withins, LVal.within] at ih ⊢; exact ih
    have hp : pick (k :: ks.drop (i + 1)) m = x :: pick (ks.drop (i + 1)) m := by simp [pick, hx]
    obtain ⟨e11, e13, m1, m2⟩ : (acc.length + 1) * 256 ≤ maxBytes ∧ acc.length + 1 ≤ maxBytes ∧ 256 ≤ maxBytes ∧ 1 ≤ maxBytes := ⟨mb (by omega), mb (by omega), mb (by omega), mb (by omega)⟩
    obtain ⟨out1, hL, hw⟩ : ∃ out1, LstO out1 (acc ++ [x]) ∧ codeW D.T (.loop D.b29_0) (W29 m b4 ks v1 out v3 i v7) = codeW D.T (.loop D.b29_0) (W29 m b4 ks .undef out1 .undef (i + 1 : Nat) .undef) := by
      conv => enter [1, out1, 2, 1]; rw [codeW_loop]
      generalize hK : thenW (codeW D.T (.loop D.b29_0)) = K
      rcases hacc with ⟨rfl, rfl⟩ | ⟨hne, rfl⟩
      · refine ⟨_, .inr ⟨by simp, rfl⟩, ?_⟩
        simp [D.b29_0, runFun, LMode.isPure, LVal.pfs, LVal.pf, Go.L.initVars, codeW_seq, codeW_region, codeW_regionD, codeW_cond, codeW_ret, codeW_skip, codeW_exit, codeW_block, codeW_fence, thenW, outW, fenceOut, kill, LVal.withins, LVal.within, runOps, runOpsD, Go.L.step, stepD, semD, sem, RS.peek, RS.put, RS.give, RS.take, RS.takes, RS.takeElems, RS.takeParts, RS.peeks, RS.peekO, RS.setVar, RS.noPk, RS.settle, RS.alloc, callOut, LVal.arg, LVal.isAgg, LVal.cells, LVal.unpk, LVal.copy, LVal.down, LVal.settled, binL, binInt, binStr, unL, resL, resOne, res1, resAll, LVal.isTup, outL, LOp.quiet, LOp.acts, LOp.peeks, LOper.fix, calmOk, loadCalm, awayOk, dstFree, LVal.free, LVal.calm, LVal.calm1, LOp.opds, optL, RS.acquire, appendL, elemsL, bound, inRange, intL, loadL, storeL, setElems, setParts, fitsElem, lenL, isNilL, partL, chunks, lookL, keyKind, o1, o3, o7, w1, e0, e1, e3, e6, e7, e8, f1, g0, g3, fx1, fx2, eq_true fx3, fx5, e9, e10, e11, e12, e13, m1, m2, statesL_append]
        subst hK
        rfl
      · refine ⟨_, .inr ⟨by simp, rfl⟩, ?_⟩
        simp [D.b29_0, runFun, LMode.isPure, LVal.pfs, LVal.pf, Go.L.initVars, codeW_seq, codeW_region, codeW_regionD, codeW_cond, codeW_ret, codeW_skip, codeW_exit, codeW_block, codeW_fence, thenW, outW, fenceOut, kill, LVal.withins, LVal.within, runOps, runOpsD, Go.L.step, stepD, semD, sem, RS.peek, RS.put, RS.give, RS.take, RS.takes, RS.takeElems, RS.takeParts, RS.peeks, RS.peekO, RS.setVar, RS.noPk, RS.settle, RS.alloc, callOut, LVal.arg, LVal.isAgg, LVal.cells, LVal.unpk, LVal.copy, LVal.down, LVal.settled, binL, binInt, binStr, unL, resL, resOne, res1, resAll, LVal.isTup, outL, LOp.quiet, LOp.acts, LOp.peeks, LOper.fix, calmOk, loadCalm, awayOk, dstFree, LVal.free, LVal.calm, LVal.calm1, LOp.opds, optL, RS.acquire, appendL, elemsL, bound, inRange, intL, loadL, storeL, setElems, setParts, fitsElem, lenL, isNilL, partL, chunks, lookL, keyKind, o1, o3, o7, w1, e0, e1, e3, e6, e7, e8, f1, g0, g3, fx1, fx2, eq_true fx3, fx5, e9, e10, e11, e12, e13, m1, m2, statesL_append]
        subst hK
        rfl
    rw [hw, hdrop, hp]
    have := loop29 m b4 ks hm hks hl j (i + 1) (acc ++ [x]) out1 .undef .undef .undef rfl rfl rfl rfl (by omega) hL (by simp [hlen])
    simpa using this
theorem mem_insK {k x : List UInt8} : ∀ {l : List (List UInt8)}, x ∈ D.insK k l ↔ x = k ∨ x ∈ l
  | [] => by simp [D.insK]
  | y :: l => by
    simp only [D.insK]
    split
    · simp
    · simp only [List.mem_cons, mem_insK (l := l)]
      constructor
      · rintro (h | h | h) <;> simp [h]
      · rintro (h | h | h) <;> simp [h]
theorem mem_sortK {x : List UInt8} : ∀ {l : List (List UInt8)}, x ∈ D.sortK l ↔ x ∈ l
  | [] => by simp [D.sortK]
  | y :: l => by simp [D.sortK, mem_insK, mem_sortK (l := l)]
theorem insK_len {k : List UInt8} : ∀ {l : List (List UInt8)}, (D.insK k l).length = l.length + 1
  | [] => rfl
  | y :: l => by
    simp only [D.insK]
    split
    · simp
    · simp [insK_len (l := l)]
theorem sortK_len : ∀ {l : List (List UInt8)}, (D.sortK l).length = l.length
  | [] => rfl
  | y :: l => by simp [D.sortK, insK_len, sortK_len (l := l)]

theorem getS_some {k : List UInt8} : ∀ {m : List StateS}, k ∈ m.map keyB → ∃ x, getS k m = some x
  | [], h => by simp at h
  | y :: m, h => by
    simp only [getS]
    by_cases hk : k = keyB y
    · exact ⟨y, by simp [hk]⟩
    · simp only [if_neg hk]
      simp only [List.map_cons, List.mem_cons] at h
      exact getS_some (h.resolve_left hk)

def byKeyS (m : List StateS) : List StateS := pick (D.sortK (m.map keyB)) m

theorem byKeyS_mem {m : List StateS} {x : StateS} (h : x ∈ byKeyS m) : x ∈ m := by
  simp only [byKeyS, pick, List.mem_filterMap] at h
  obtain ⟨k, _, hk⟩ := h
  exact (getS_mem hk).1

theorem pick_keys (m : List StateS) : ∀ (ks : List (List UInt8)), (∀ k ∈ ks, ∃ x, getS k m = some x) → (pick ks m).map keyB = ks
  | [], _ => rfl
  | k :: ks, h => by
    obtain ⟨x, hx⟩ := h k (List.mem_cons_self ..)
    have ih := pick_keys m ks (fun k hk => h k (List.mem_cons_of_mem _ hk))
    simp only [pick] at ih
    simp only [pick, List.filterMap_cons, hx, List.map_cons, ih, (getS_mem hx).2]

theorem byKeyS_keys (m : List StateS) : (byKeyS m).map keyB = D.sortK (m.map keyB) :=
  pick_keys m _ fun k hk => getS_some (mem_sortK.1 hk)

set_option maxHeartbeats 8000000 in
theorem byKey_eq (m : List StateS) (hm : ∀ x ∈ m, x.ok ∧ x.few) (hl : m.length ≤ 1000) :
    ∃ v, callW D.T 29 [.map 0] [.map (entL m)] = some (v, some [.map (entL m)]) ∧ LstO v (byKeyS m) := by
  have k1 := keys_eq (entL m)
  have k2 := sorted_eq m hm (by omega)
  obtain ⟨g1, g2⟩ := entL_within 1 m
  have g0 : LObj.within 1 (.map (entL m)) = true := by simp [LObj.within, g1, g2]
  obtain ⟨h1, h2⟩ := entL_within 2 m
  have h0 : LObj.within 2 (.map (entL m)) = true := by simp [LObj.within, h1, h2]
  have h3 : LObj.within 2 (.cells 59 [.map 0]) = true := rfl
  have e7 : ∀ (n : Nat) (l : List StateS), LVal.withins n (statesL l) = true := fun n l => statesL_within n l
  have z0 : ((0 : Nat) : Int) = 0 := rfl
  cases m with
  | nil =>
    refine ⟨_, ?_, .inl ⟨rfl, rfl⟩⟩
    rw [callW_fn fn29]
    simp [D.l29, D.c29, runFun, LMode.isPure, LVal.pfs, LVal.pf, Go.L.initVars, codeW_seq, codeW_region, codeW_regionD, codeW_cond, codeW_ret, codeW_skip, codeW_exit, codeW_block, codeW_fence, thenW, outW, fenceOut, kill, LVal.withins, LVal.within, runOps, runOpsD, Go.L.step, stepD, semD, sem, RS.peek, RS.put, RS.give, RS.take, RS.takes, RS.takeElems, RS.takeParts, RS.peeks, RS.peekO, RS.setVar, RS.noPk, RS.settle, RS.alloc, callOut, LVal.arg, LVal.isAgg, LVal.cells, LVal.unpk, LVal.copy, LVal.down, LVal.plain, LVal.settled, binL, binInt, binStr, unL, resL, resOne, res1, resAll, LVal.isTup, outL, LOp.quiet, LOp.acts, LOp.peeks, LOper.fix, calmOk, loadCalm, awayOk, dstFree, LVal.free, LVal.calm, LVal.calm1, LOp.opds, optL, RS.acquire, appendL, elemsL, bound, inRange, intL, loadL, storeL, setElems, setParts, fitsElem, lenL, isNilL, partL, chunks, k1, k2]
    rw [codeW_loop]
    simp [D.b29_0, runFun, LMode.isPure, LVal.pfs, LVal.pf, Go.L.initVars, codeW_seq, codeW_region, codeW_regionD, codeW_cond, codeW_ret, codeW_skip, codeW_exit, codeW_block, codeW_fence, thenW, outW, fenceOut, kill, LVal.withins, LVal.within, runOps, runOpsD, Go.L.step, stepD, semD, sem, RS.peek, RS.put, RS.give, RS.take, RS.takes, RS.takeElems, RS.takeParts, RS.peeks, RS.peekO, RS.setVar, RS.noPk, RS.settle, RS.alloc, callOut, LVal.arg, LVal.isAgg, LVal.cells, LVal.unpk, LVal.copy, LVal.down, LVal.plain, LVal.settled, binL, binInt, binStr, unL, resL, resOne, res1, resAll, LVal.isTup, outL, LOp.quiet, LOp.acts, LOp.peeks, LOper.fix, calmOk, loadCalm, awayOk, dstFree, LVal.free, LVal.calm, LVal.calm1, LOp.opds, optL, RS.acquire, appendL, elemsL, bound, inRange, intL, loadL, storeL, setElems, setParts, fitsElem, lenL, isNilL, partL, chunks, g0, h0, h3]
  | cons x m =>
    generalize hM : x :: m = M at *
    have hne : M.isEmpty = false := by rw [← hM]; rfl
    simp only [hne, Bool.false_eq_true, if_false] at k2
    have hlen : (D.sortK (M.map keyB)).length = M.length := by rw [sortK_len]; simp
    obtain ⟨out', w, hL, c1⟩ := loop29 M false (D.sortK (M.map keyB)) hm (fun k hk => getS_some (mem_sortK.1 hk)) (by omega) (D.sortK (M.map keyB)).length 0 [] (.vs true .sh 0 []) (.vs true .sh 0 []) .undef .undef rfl rfl rfl rfl (by omega) (.inl ⟨rfl, rfl⟩) rfl
    rw [z0] at c1
    simp only [List.drop_zero, List.nil_append] at hL
    have hb : pick (D.sortK (M.map keyB)) M = byKeyS M := rfl
    rw [hb] at hL
    rcases hL with ⟨q1, rfl⟩ | ⟨q1, rfl⟩
    · refine ⟨_, ?_, .inl ⟨q1, rfl⟩⟩
      rw [callW_fn fn29]
      simp [D.l29, D.c29, runFun, LMode.isPure, LVal.pfs, LVal.pf, Go.L.initVars, codeW_seq, codeW_region, codeW_regionD, codeW_cond, codeW_ret, codeW_skip, codeW_exit, codeW_block, codeW_fence, thenW, outW, fenceOut, kill, LVal.withins, LVal.within, runOps, runOpsD, Go.L.step, stepD, semD, sem, RS.peek, RS.put, RS.give, RS.take, RS.takes, RS.takeElems, RS.takeParts, RS.peeks, RS.peekO, RS.setVar, RS.noPk, RS.settle, RS.alloc, callOut, LVal.arg, LVal.isAgg, LVal.cells, LVal.unpk, LVal.copy, LVal.down, LVal.plain, LVal.settled, binL, binInt, binStr, unL, resL, resOne, res1, resAll, LVal.isTup, outL, LOp.quiet, LOp.acts, LOp.peeks, LOper.fix, calmOk, loadCalm, awayOk, dstFree, LVal.free, LVal.calm, LVal.calm1, LOp.opds, optL, RS.acquire, appendL, elemsL, bound, inRange, intL, loadL, storeL, setElems, setParts, fitsElem, lenL, isNilL, partL, chunks, k1, k2]
      rw [c1]
      simp [runFun, LMode.isPure, LVal.pfs, LVal.pf, Go.L.initVars, codeW_seq, codeW_region, codeW_regionD, codeW_cond, codeW_ret, codeW_skip, codeW_exit, codeW_block, codeW_fence, thenW, outW, fenceOut, kill, LVal.withins, LVal.within, runOps, runOpsD, Go.L.step, stepD, semD, sem, RS.peek, RS.put, RS.give, RS.take, RS.takes, RS.takeElems, RS.takeParts, RS.peeks, RS.peekO, RS.setVar, RS.noPk, RS.settle, RS.alloc, callOut, LVal.arg, LVal.isAgg, LVal.cells, LVal.unpk, LVal.copy, LVal.down, LVal.plain, LVal.settled, binL, binInt, binStr, unL, resL, resOne, res1, resAll, LVal.isTup, outL, LOp.quiet, LOp.acts, LOp.peeks, LOper.fix, calmOk, loadCalm, awayOk, dstFree, LVal.free, LVal.calm, LVal.calm1, LOp.opds, optL, RS.acquire, appendL, elemsL, bound, inRange, intL, loadL, storeL, setElems, setParts, fitsElem, lenL, isNilL, partL, chunks, g0, h0, h3, e7]
    · refine ⟨_, ?_, .inr ⟨q1, rfl⟩⟩
      rw [callW_fn fn29]
      simp [D.l29, D.c29, runFun, LMode.isPure, LVal.pfs, LVal.pf, Go.L.initVars, codeW_seq, codeW_region, codeW_regionD, codeW_cond, codeW_ret, codeW_skip, codeW_exit, codeW_block, codeW_fence, thenW, outW, fenceOut, kill, LVal.withins, LVal.within, runOps, runOpsD, Go.L.step, stepD, semD, sem, RS.peek, RS.put, RS.give, RS.take, RS.takes, RS.takeElems, RS.takeParts, RS.peeks, RS.peekO, RS.setVar, RS.noPk, RS.settle, RS.alloc, callOut, LVal.arg, LVal.isAgg, LVal.cells, LVal.unpk, LVal.copy, LVal.down, LVal.plain, LVal.settled, binL, binInt, binStr, unL, resL, resOne, res1, resAll, LVal.isTup, outL, LOp.quiet, LOp.acts, LOp.peeks, LOper.fix, calmOk, loadCalm, awayOk, dstFree, LVal.free, LVal.calm, LVal.calm1, LOp.opds, optL, RS.acquire, appendL, elemsL, bound, inRange, intL, loadL, storeL, setElems, setParts, fitsElem, lenL, isNilL, partL, chunks, k1, k2]
      rw [c1]
      simp [runFun, LMode.isPure, LVal.pfs, LVal.pf, Go.L.initVars, codeW_seq, codeW_region, codeW_regionD, codeW_cond, codeW_ret, codeW_skip, codeW_exit, codeW_block, codeW_fence, thenW, outW, fenceOut, kill, LVal.withins, LVal.within, runOps, runOpsD, Go.L.step, stepD, semD, sem, RS.peek, RS.put, RS.give, RS.take, RS.takes, RS.takeElems, RS.takeParts, RS.peeks, RS.peekO, RS.setVar, RS.noPk, RS.settle, RS.alloc, callOut, LVal.arg, LVal.isAgg, LVal.cells, LVal.unpk, LVal.copy, LVal.down, LVal.plain, LVal.settled, binL, binInt, binStr, unL, resL, resOne, res1, resAll, LVal.isTup, outL, LOp.quiet, LOp.acts, LOp.peeks, LOper.fix, calmOk, loadCalm, awayOk, dstFree, LVal.free, LVal.calm, LVal.calm1, LOp.opds, optL, RS.acquire, appendL, elemsL, bound, inRange, intL, loadL, storeL, setElems, setParts, fitsElem, lenL, isNilL, partL, chunks, g0, h0, h3, e7]
theorem keysM_eq (O : LObj) (es : List (LVal × LVal)) : callW D.T 41 [.map 1] [O, .map es] = some (.func 49 [.ptr 2 0], some [O, .map es, .cells 59 [.map 1]]) := by
  rw [callW_fn fn41]
  simp [D.l41, D.c41, runFun, LMode.isPure, LVal.pfs, LVal.pf, Go.L.initVars, codeW_seq, codeW_region, codeW_regionD, codeW_cond, codeW_ret, codeW_skip, codeW_exit, codeW_block, codeW_fence, thenW, outW, fenceOut, kill, LVal.withins, LVal.within, runOps, runOpsD, Go.L.step, stepD, semD, sem, RS.peek, RS.put, RS.give, RS.take, RS.takes, RS.takeElems, RS.takeParts, RS.peeks, RS.peekO, RS.setVar, RS.noPk, RS.settle, RS.alloc, callOut, LVal.arg, LVal.isAgg, LVal.cells, LVal.unpk, LVal.copy, LVal.down, LVal.plain, LVal.settled, binL, binInt, binStr, unL, resL, resOne, res1, resAll, LVal.isTup, outL, LOp.quiet, LOp.acts, LOp.peeks, LOper.fix, calmOk, loadCalm, awayOk, dstFree, LVal.free, LVal.calm, LVal.calm1, LOp.opds, optL, RS.acquire, appendL, elemsL, bound, inRange, intL, loadL, storeL, setElems, setParts, fitsElem, lenL, isNilL, partL, chunks]

theorem sortedM_eq (O : LObj) (l : List StateS) (h : ∀ s ∈ l, s.ok ∧ s.few) (hl : l.length ≤ 1000000) :
    callW D.T 40 [.func 49 [.ptr 2 0]] [O, .map (entL l), .cells 59 [.map 1]] = some (if l.isEmpty then .vs true .sh 1 [] else .vs false .sh 1 ((D.sortK (l.map keyB)).map .str), none) := by
  rw [callW_hook fn40]
  have h1 := keysOf_ent l h
  have h2 : (entL l).isEmpty = l.isEmpty := by cases l <;> rfl
  have h3 := entL_len l
  simp [D.hSorted, h1, h2, h3, hl]
abbrev W29M (O : LObj) (m : List StateS) (b4 : Bool) (ks : List (List UInt8)) (v1 out v3 : LVal) (i : Int) (v7 : LVal) : RS :=
  { vars := [.map 1, v1, out, v3, .vs b4 .sh 1 (ks.map .str), .int .i64 ks.length, .int .i64 i, v7], st := [O, .map (entL m), .cells 59 [.map 1]], rs := [] }

set_option maxHeartbeats 8000000 in
theorem loop29M (O : LObj) (hO : ∀ n, LObj.within n O = true) (m : List StateS) (b4 : Bool) (ks : List (List UInt8)) (hm : ∀ x ∈ m, x.ok ∧ x.few) (hks : ∀ k ∈ ks, ∃ x, getS k m = some x) (hl : ks.length ≤ 2000) : ∀ (j i : Nat) (acc : List StateS) (out v1 v3 v7 : LVal),
    v1.isOwn = false → v3.isOwn = false → v7.isOwn = false → LVal.within 3 v1 = true → i + j = ks.length → LstO out acc → acc.length = i →
    ∃ (out' : LVal) (w : Nat → LVal), LstO out' (acc ++ pick (ks.drop i) m) ∧ codeW D.T (.loop D.b29_0) (W29M O m b4 ks v1 out v3 i v7) =
      some (.exit 0, { vars := [.map 1, w 1, out', w 3, w 4, w 5, w 6, w 7], st := [O, .map (entL m), .cells 59 [.map 1]], rs := [] })
  | 0, i, acc, out, v1, v3, v7, o1, o3, o7, w1, hij, hacc, hlen => by
    have hi : i = ks.length := by omega
    rw [hi, List.drop_length]
    refine ⟨out, fun j => ([.map 1, v1, .undef, v3, .vs b4 .sh 1 (ks.map .str), .int .i64 ks.length, .int .i64 ks.length, .bool false] : List LVal).getD j .undef, by simpa [pick] using hacc, ?_⟩
    rw [codeW_loop]
    simp [D.b29_0, runFun, LMode.isPure, LVal.pfs, LVal.pf, Go.L.initVars, codeW_seq, codeW_region, codeW_regionD, codeW_cond, codeW_ret, codeW_skip, codeW_exit, codeW_block, codeW_fence, thenW, outW, fenceOut, kill, LVal.withins, LVal.within, runOps, runOpsD, Go.L.step, stepD, semD, sem, RS.peek, RS.put, RS.give, RS.take, RS.takes, RS.takeElems, RS.takeParts, RS.peeks, RS.peekO, RS.setVar, RS.noPk, RS.settle, RS.alloc, callOut, LVal.arg, LVal.isAgg, LVal.cells, LVal.unpk, LVal.copy, LVal.down, LVal.plain, LVal.settled, binL, binInt, binStr, unL, resL, resOne, res1, resAll, LVal.isTup, outL, LOp.quiet, LOp.acts, LOp.peeks, LOper.fix, calmOk, loadCalm, awayOk, dstFree, LVal.free, LVal.calm, LVal.calm1, LOp.opds, optL, RS.acquire, appendL, elemsL, bound, inRange, intL, loadL, storeL, setElems, setParts, fitsElem, lenL, isNilL, partL, chunks, o1, o3, o7]
  | j + 1, i, acc, out, v1, v3, v7, o1, o3, o7, w1, hij, hacc, hlen => by
    have hi : i < ks.length := by omega
    obtain ⟨k, hk⟩ : ∃ k, ks[i]? = some k := ⟨_, List.getElem?_eq_getElem hi⟩
    have hkm : k ∈ ks := List.mem_of_getElem? hk
    obtain ⟨x, hx⟩ := hks k hkm
    have hdrop : ks.drop i = k :: ks.drop (i + 1) := by
      rw [List.drop_eq_getElem_cons hi]
      rw [List.getElem?_eq_getElem hi] at hk; injection hk with hk; rw [hk]
    have hxo := hm x (getS_mem hx).1
    have e1 : (i : Int) < (ks.length : Int) := by omega
    have e0 : 0 ≤ (i : Int) ∧ (i : Int) < (ks.length : Int) := by omega
    have e3 : IntKind.i64.wrap ((i : Int) + 1) = (i : Int) + 1 := wi64 (by omega) (by omega)
    have e6 : ks[i]? = some k := hk
    have lx : x.lies := ⟨hxo.1.2.2.2.2.2.2.1, hxo.1.2.2.2.2.2.2.2⟩
    obtain ⟨fx1, fx2, fx3⟩ := fits_state lx
    have fx5 := cells_down lx
    have e7 : ∀ (n : Nat) (l : List StateS), LVal.withins n (statesL l) = true := fun n l => statesL_within n l
    have e8 : ∀ (n : Nat) (s : StateS), LVal.withins n s.cells = true := fun n s => cells_within n
    have f1 : findL (.str k) (entL m) = some (some (.agg x.cells)) := by rw [findL_ent, hx]; rfl
    obtain ⟨g1, g2⟩ := entL_within 3 m
    have g0 : LObj.within 3 (.map (entL m)) = true := by simp [LObj.within, g1, g2]
    have g3 : LObj.within 3 (.cells 59 [.map 1]) = true := rfl
    have e9 : (statesL acc).length = acc.length := statesL_len acc
    have e10 : LVal.pfs (statesL acc) = true := statesL_pfs acc
    have e12 : ∀ n, LVal.withins n (ks.map .str) = true := by
      intro n
      clear hks hl hi hk hkm hdrop e1 e0 e6 hij
      induction ks with
      | nil => rfl
      | cons a r ih => simp [LVal.withins, LVal.within] at ih ⊢; exact ih
    have hp : pick (k :: ks.drop (i + 1)) m = x :: pick (ks.drop (i + 1)) m := by simp [pick, hx]
    obtain ⟨e11, e13, m1, m2⟩ : (acc.length + 1) * 256 ≤ maxBytes ∧ acc.length + 1 ≤ maxBytes ∧ 256 ≤ maxBytes ∧ 1 ≤ maxBytes := ⟨mb (by omega), mb (by omega), mb (by omega), mb (by omega)⟩
    obtain ⟨out1, hL, hw⟩ : ∃ out1, LstO out1 (acc ++ [x]) ∧ codeW D.T (.loop D.b29_0) (W29M O m b4 ks v1 out v3 i v7) = codeW D.T (.loop D.b29_0) (W29M O m b4 ks .undef out1 .undef (i + 1 : Nat) .undef) := by
      conv => enter [1, out1, 2, 1]; rw [codeW_loop]
      generalize hK : thenW (codeW D.T (.loop D.b29_0)) = K
      rcases hacc with ⟨rfl, rfl⟩ | ⟨hne, rfl⟩
      · refine ⟨_, .inr ⟨by simp, rfl⟩, ?_⟩
        simp [D.b29_0, runFun, LMode.isPure, LVal.pfs, LVal.pf, Go.L.initVars, codeW_seq, codeW_region, codeW_regionD, codeW_cond, codeW_ret, codeW_skip, codeW_exit, codeW_block, codeW_fence, thenW, outW, fenceOut, kill, LVal.withins, LVal.within, runOps, runOpsD, Go.L.step, stepD, semD, sem, RS.peek, RS.put, RS.give, RS.take, RS.takes, RS.takeElems, RS.takeParts, RS.peeks, RS.peekO, RS.setVar, RS.noPk, RS.settle, RS.alloc, callOut, LVal.arg, LVal.isAgg, LVal.cells, LVal.unpk, LVal.copy, LVal.down, LVal.settled, binL, binInt, binStr, unL, resL, resOne, res1, resAll, LVal.isTup, outL, LOp.quiet, LOp.acts, LOp.peeks, LOper.fix, calmOk, loadCalm, awayOk, dstFree, LVal.free, LVal.calm, LVal.calm1, LOp.opds, optL, RS.acquire, appendL, elemsL, bound, inRange, intL, loadL, storeL, setElems, setParts, fitsElem, lenL, isNilL, partL, chunks, lookL, keyKind, o1, o3, o7, w1, e0, e1, e3, e6, e7, e8, f1, g0, g3, hO, fx1, fx2, eq_true fx3, fx5, e9, e10, e11, e12, e13, m1, m2, statesL_append]
        subst hK
        rfl
      · refine ⟨_, .inr ⟨by simp, rfl⟩, ?_⟩
        simp [D.b29_0, runFun, LMode.isPure, LVal.pfs, LVal.pf, Go.L.initVars, codeW_seq, codeW_region, codeW_regionD, codeW_cond, codeW_ret, codeW_skip, codeW_exit, codeW_block, codeW_fence, thenW, outW, fenceOut, kill, LVal.withins, LVal.within, runOps, runOpsD, Go.L.step, stepD, semD, sem, RS.peek, RS.put, RS.give, RS.take, RS.takes, RS.takeElems, RS.takeParts, RS.peeks, RS.peekO, RS.setVar, RS.noPk, RS.settle, RS.alloc, callOut, LVal.arg, LVal.isAgg, LVal.cells, LVal.unpk, LVal.copy, LVal.down, LVal.settled, binL, binInt, binStr, unL, resL, resOne, res1, resAll, LVal.isTup, outL, LOp.quiet, LOp.acts, LOp.peeks, LOper.fix, calmOk, loadCalm, awayOk, dstFree, LVal.free, LVal.calm, LVal.calm1, LOp.opds, optL, RS.acquire, appendL, elemsL, bound, inRange, intL, loadL, storeL, setElems, setParts, fitsElem, lenL, isNilL, partL, chunks, lookL, keyKind, o1, o3, o7, w1, e0, e1, e3, e6, e7, e8, f1, g0, g3, hO, fx1, fx2, eq_true fx3, fx5, e9, e10, e11, e12, e13, m1, m2, statesL_append]
        subst hK
        rfl
    rw [hw, hdrop, hp]
    have := loop29M O hO m b4 ks hm hks hl j (i + 1) (acc ++ [x]) out1 .undef .undef .undef rfl rfl rfl rfl (by omega) hL (by simp [hlen])
    simpa using this
set_option maxHeartbeats 8000000 in
theorem byKeyM_eq (O : LObj) (hO : ∀ n, LObj.within n O = true) (m : List StateS) (hm : ∀ x ∈ m, x.ok ∧ x.few) (hl : m.length ≤ 1000) :
    ∃ v, callW D.T 29 [.map 1] [O, .map (entL m)] = some (v, some [O, .map (entL m)]) ∧ LstO v (byKeyS m) := by
  have k1 := keysM_eq O (entL m)
  have k2 := sortedM_eq O m hm (by omega)
  obtain ⟨g1, g2⟩ := entL_within 2 m
  have g0 : LObj.within 2 (.map (entL m)) = true := by simp [LObj.within, g1, g2]
  obtain ⟨h1, h2⟩ := entL_within 3 m
  have h0 : LObj.within 3 (.map (entL m)) = true := by simp [LObj.within, h1, h2]
  have h3 : LObj.within 3 (.cells 59 [.map 1]) = true := rfl
  have e7 : ∀ (n : Nat) (l : List StateS), LVal.withins n (statesL l) = true := fun n l => statesL_within n l
  have z0 : ((0 : Nat) : Int) = 0 := rfl
  cases m with
  | nil =>
    refine ⟨_, ?_, .inl ⟨rfl, rfl⟩⟩
    rw [callW_fn fn29]
    simp [D.l29, D.c29, runFun, LMode.isPure, LVal.pfs, LVal.pf, Go.L.initVars, codeW_seq, codeW_region, codeW_regionD, codeW_cond, codeW_ret, codeW_skip, codeW_exit, codeW_block, codeW_fence, thenW, outW, fenceOut, kill, LVal.withins, LVal.within, runOps, runOpsD, Go.L.step, stepD, semD, sem, RS.peek, RS.put, RS.give, RS.take, RS.takes, RS.takeElems, RS.takeParts, RS.peeks, RS.peekO, RS.setVar, RS.noPk, RS.settle, RS.alloc, callOut, LVal.arg, LVal.isAgg, LVal.cells, LVal.unpk, LVal.copy, LVal.down, LVal.plain, LVal.settled, binL, binInt, binStr, unL, resL, resOne, res1, resAll, LVal.isTup, outL, LOp.quiet, LOp.acts, LOp.peeks, LOper.fix, calmOk, loadCalm, awayOk, dstFree, LVal.free, LVal.calm, LVal.calm1, LOp.opds, optL, RS.acquire, appendL, elemsL, bound, inRange, intL, loadL, storeL, setElems, setParts, fitsElem, lenL, isNilL, partL, chunks, k1, k2]
    rw [codeW_loop]
    simp [D.b29_0, runFun, LMode.isPure, LVal.pfs, LVal.pf, Go.L.initVars, codeW_seq, codeW_region, codeW_regionD, codeW_cond, codeW_ret, codeW_skip, codeW_exit, codeW_block, codeW_fence, thenW, outW, fenceOut, kill, LVal.withins, LVal.within, runOps, runOpsD, Go.L.step, stepD, semD, sem, RS.peek, RS.put, RS.give, RS.take, RS.takes, RS.takeElems, RS.takeParts, RS.peeks, RS.peekO, RS.setVar, RS.noPk, RS.settle, RS.alloc, callOut, LVal.arg, LVal.isAgg, LVal.cells, LVal.unpk, LVal.copy, LVal.down, LVal.plain, LVal.settled, binL, binInt, binStr, unL, resL, resOne, res1, resAll, LVal.isTup, outL, LOp.quiet, LOp.acts, LOp.peeks, LOper.fix, calmOk, loadCalm, awayOk, dstFree, LVal.free, LVal.calm, LVal.calm1, LOp.opds, optL, RS.acquire, appendL, elemsL, bound, inRange, intL, loadL, storeL, setElems, setParts, fitsElem, lenL, isNilL, partL, chunks, g0, h0, h3, hO]
  | cons x m =>
    generalize hM : x :: m = M at *
    have hne : M.isEmpty = false := by rw [← hM]; rfl
    simp only [hne, Bool.false_eq_true, if_false] at k2
    have hlen : (D.sortK (M.map keyB)).length = M.length := by rw [sortK_len]; simp
    obtain ⟨out', w, hL, c1⟩ := loop29M O hO M false (D.sortK (M.map keyB)) hm (fun k hk => getS_some (mem_sortK.1 hk)) (by omega) (D.sortK (M.map keyB)).length 0 [] (.vs true .sh 0 []) (.vs true .sh 0 []) .undef .undef rfl rfl rfl rfl (by omega) (.inl ⟨rfl, rfl⟩) rfl
    rw [z0] at c1
    simp only [List.drop_zero, List.nil_append] at hL
    have hb : pick (D.sortK (M.map keyB)) M = byKeyS M := rfl
    rw [hb] at hL
    rcases hL with ⟨q1, rfl⟩ | ⟨q1, rfl⟩
    · refine ⟨_, ?_, .inl ⟨q1, rfl⟩⟩
      rw [callW_fn fn29]
      simp [D.l29, D.c29, runFun, LMode.isPure, LVal.pfs, LVal.pf, Go.L.initVars, codeW_seq, codeW_region, codeW_regionD, codeW_cond, codeW_ret, codeW_skip, codeW_exit, codeW_block, codeW_fence, thenW, outW, fenceOut, kill, LVal.withins, LVal.within, runOps, runOpsD, Go.L.step, stepD, semD, sem, RS.peek, RS.put, RS.give, RS.take, RS.takes, RS.takeElems, RS.takeParts, RS.peeks, RS.peekO, RS.setVar, RS.noPk, RS.settle, RS.alloc, callOut, LVal.arg, LVal.isAgg, LVal.cells, LVal.unpk, LVal.copy, LVal.down, LVal.plain, LVal.settled, binL, binInt, binStr, unL, resL, resOne, res1, resAll, LVal.isTup, outL, LOp.quiet, LOp.acts, LOp.peeks, LOper.fix, calmOk, loadCalm, awayOk, dstFree, LVal.free, LVal.calm, LVal.calm1, LOp.opds, optL, RS.acquire, appendL, elemsL, bound, inRange, intL, loadL, storeL, setElems, setParts, fitsElem, lenL, isNilL, partL, chunks, k1, k2]
      rw [c1]
      simp [runFun, LMode.isPure, LVal.pfs, LVal.pf, Go.L.initVars, codeW_seq, codeW_region, codeW_regionD, codeW_cond, codeW_ret, codeW_skip, codeW_exit, codeW_block, codeW_fence, thenW, outW, fenceOut, kill, LVal.withins, LVal.within, runOps, runOpsD, Go.L.step, stepD, semD, sem, RS.peek, RS.put, RS.give, RS.take, RS.takes, RS.takeElems, RS.takeParts, RS.peeks, RS.peekO, RS.setVar, RS.noPk, RS.settle, RS.alloc, callOut, LVal.arg, LVal.isAgg, LVal.cells, LVal.unpk, LVal.copy, LVal.down, LVal.plain, LVal.settled, binL, binInt, binStr, unL, resL, resOne, res1, resAll, LVal.isTup, outL, LOp.quiet, LOp.acts, LOp.peeks, LOper.fix, calmOk, loadCalm, awayOk, dstFree, LVal.free, LVal.calm, LVal.calm1, LOp.opds, optL, RS.acquire, appendL, elemsL, bound, inRange, intL, loadL, storeL, setElems, setParts, fitsElem, lenL, isNilL, partL, chunks, g0, h0, h3, hO, e7]
    · refine ⟨_, ?_, .inr ⟨q1, rfl⟩⟩
      rw [callW_fn fn29]
      simp [D.l29, D.c29, runFun, LMode.isPure, LVal.pfs, LVal.pf, Go.L.initVars, codeW_seq, codeW_region, codeW_regionD, codeW_cond, codeW_ret, codeW_skip, codeW_exit, codeW_block, codeW_fence, thenW, outW, fenceOut, kill, LVal.withins, LVal.within, runOps, runOpsD, Go.L.step, stepD, semD, sem, RS.peek, RS.put, RS.give, RS.take, RS.takes, RS.takeElems, RS.takeParts, RS.peeks, RS.peekO, RS.setVar, RS.noPk, RS.settle, RS.alloc, callOut, LVal.arg, LVal.isAgg, LVal.cells, LVal.unpk, LVal.copy, LVal.down, LVal.plain, LVal.settled, binL, binInt, binStr, unL, resL, resOne, res1, resAll, LVal.isTup, outL, LOp.quiet, LOp.acts, LOp.peeks, LOper.fix, calmOk, loadCalm, awayOk, dstFree, LVal.free, LVal.calm, LVal.calm1, LOp.opds, optL, RS.acquire, appendL, elemsL, bound, inRange, intL, loadL, storeL, setElems, setParts, fitsElem, lenL, isNilL, partL, chunks, k1, k2]
      rw [c1]
      simp [runFun, LMode.isPure, LVal.pfs, LVal.pf, Go.L.initVars, codeW_seq, codeW_region, codeW_regionD, codeW_cond, codeW_ret, codeW_skip, codeW_exit, codeW_block, codeW_fence, thenW, outW, fenceOut, kill, LVal.withins, LVal.within, runOps, runOpsD, Go.L.step, stepD, semD, sem, RS.peek, RS.put, RS.give, RS.take, RS.takes, RS.takeElems, RS.takeParts, RS.peeks, RS.peekO, RS.setVar, RS.noPk, RS.settle, RS.alloc, callOut, LVal.arg, LVal.isAgg, LVal.cells, LVal.unpk, LVal.copy, LVal.down, LVal.plain, LVal.settled, binL, binInt, binStr, unL, resL, resOne, res1, resAll, LVal.isTup, outL, LOp.quiet, LOp.acts, LOp.peeks, LOper.fix, calmOk, loadCalm, awayOk, dstFree, LVal.free, LVal.calm, LVal.calm1, LOp.opds, optL, RS.acquire, appendL, elemsL, bound, inRange, intL, loadL, storeL, setElems, setParts, fitsElem, lenL, isNilL, partL, chunks, g0, h0, h3, hO, e7]
end Go.Proofs.Ytbljgbojkifoiaa
