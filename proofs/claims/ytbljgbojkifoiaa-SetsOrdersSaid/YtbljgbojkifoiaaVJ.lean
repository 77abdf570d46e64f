/- Sets: the map by key. -/
import Derived.Test.YtbljgbojkifoiaaVI
section
set_option linter.unusedVariables false
set_option linter.unusedSimpArgs false
namespace Go.Proofs.Ytbljgbojkifoiaa
open Go Go.L

theorem linkB_len {l : LinkS} (h : l.ok) (ho : l.opts.length ≤ 500) : (linkB l).length ≤ 1200 := by
  obtain ⟨h1, h2, h3, h4⟩ := h
  have n1 := numB_len h1; have n2 := numB_len h2; have n3 := numB_len h3; have n4 := numB_len h4; have n5 := truthB_len l.sent; have n6 := truthB_len l.answered; have n7 := textB_len l.opts
  simp only [linkB, List.length_append]; omega
theorem loginB_len {l : LoginS} (h : l.ok) (ho : l.value.length ≤ 500) : (loginB l).length ≤ 1200 := by
  obtain ⟨h1, h2, h3, h4⟩ := h
  have n1 := numB_len h1; have n2 := numB_len h2; have n3 := numB_len h3; have n4 := numB_len h4; have n5 := truthB_len l.oursOk; have n6 := truthB_len l.theirsOk; have n8 := truthB_len l.open_; have n9 := truthB_len l.asked; have n7 := textB_len l.value
  simp only [loginB, List.length_append]; omega
theorem keyB_len {s : StateS} (h : s.ok) (hf : s.few) : (keyB s).length ≤ 100000 := by
  obtain ⟨q0, q1, q2, q3, q4, q5, qo, qm⟩ := h
  obtain ⟨f1, f2, f3, f4, f5, f6⟩ := hf
  have n1 := linkB_len q0 f3; have n2 := linkB_len q1 f4; have n3 := linkB_len q2 f5; have n4 := loginB_len q3 f2
  have n5 := duesB_len s.due q4 f6
  have n6 : (numB (s.due.length : Int)).length ≤ 22 := numB_len ⟨by omega, by omega⟩
  simp only [keyB, List.length_append]; omega

/-- The map's entries. -/
def entL (l : List StateS) : List (LVal × LVal) := l.map fun s => (.str (keyB s), .agg s.cells)
/-- One more state is put. -/
def putS (s : StateS) : List StateS → List StateS
  | [] => [s]
  | x :: l => if keyB s = keyB x then s :: l else x :: putS s l
def getS (k : List UInt8) : List StateS → Option StateS
  | [] => none
  | x :: l => if k = keyB x then some x else getS k l

theorem putL_ent (s : StateS) : ∀ (l : List StateS), putL (.str (keyB s)) (.agg s.cells) (entL l) = some (entL (putS s l))
  | [] => rfl
  | x :: l => by
    have ih := putL_ent s l
    simp only [entL] at ih
    simp only [entL, List.map_cons, putL, keyEq, Option.bind_some, putS]
    by_cases h : keyB s = keyB x
    · simp [h]
    · simp [h, ih]

theorem findL_ent (k : List UInt8) : ∀ (l : List StateS), findL (.str k) (entL l) = some ((getS k l).map fun s => .agg s.cells)
  | [] => rfl
  | x :: l => by
    have ih := findL_ent k l
    simp only [entL] at ih
    simp only [entL, List.map_cons, findL, keyEq, Option.bind_some, getS]
    by_cases h : k = keyB x
    · simp [h]
    · simp [h, ih]

theorem keysOf_ent : ∀ (l : List StateS), (∀ s ∈ l, s.ok ∧ s.few) → D.keysOf (entL l) = some (l.map keyB)
  | [], _ => rfl
  | x :: l, h => by
    have ih := keysOf_ent l (fun s hs => h s (List.mem_cons_of_mem _ hs))
    have hk := keyB_len (h x (List.mem_cons_self ..)).1 (h x (List.mem_cons_self ..)).2
    simp only [entL] at ih
    simp only [entL, List.map_cons, D.keysOf]
    rw [if_pos (by omega), ih]
    rfl

theorem entL_within (n : Nat) : ∀ (l : List StateS), LVal.withins n ((entL l).map (·.1)) = true ∧ LVal.withins n ((entL l).map (·.2)) = true
  | [] => ⟨rfl, rfl⟩
  | x :: l => by
    obtain ⟨h1, h2⟩ := entL_within n l
    simp only [entL] at h1 h2
    constructor
    · simp only [entL, List.map_cons, LVal.withins, LVal.within]
      simpa using h1
    · simp only [entL, List.map_cons, LVal.withins, LVal.within]
      simp only [Bool.and_eq_true]
      exact ⟨cells_within n, h2⟩

theorem entL_len (l : List StateS) : (entL l).length = l.length := by simp [entL]

theorem fn41 : D.T.fns 41 = some (.fn D.l41) := rfl
theorem fn40 : D.T.fns 40 = some (.hook D.hSorted) := rfl
theorem fn29 : D.T.fns 29 = some (.fn D.l29) := rfl

theorem keys_eq (es : List (LVal × LVal)) : callW D.T 41 [.map 0] [.map es] = some (.func 49 [.ptr 1 0], some [.map es, .cells 59 [.map 0]]) := by
  rw [callW_fn fn41]
  simp [D.l41, D.c41, runFun, LMode.isPure, LVal.pfs, LVal.pf, Go.L.initVars, codeW_seq, codeW_region, codeW_regionD, codeW_cond, codeW_ret, codeW_skip, codeW_exit, codeW_block, codeW_fence, thenW, outW, fenceOut, kill, LVal.withins, LVal.within, runOps, runOpsD, Go.L.step, stepD, semD, sem, RS.peek, RS.put, RS.give, RS.take, RS.takes, RS.takeElems, RS.takeParts, RS.peeks, RS.peekO, RS.setVar, RS.noPk, RS.settle, RS.alloc, callOut, LVal.arg, LVal.isAgg, LVal.cells, LVal.unpk, LVal.copy, LVal.down, LVal.plain, LVal.settled, binL, binInt, binStr, unL, resL, resOne, res1, resAll, LVal.isTup, outL, LOp.quiet, LOp.acts, LOp.peeks, LOper.fix, calmOk, loadCalm, awayOk, dstFree, LVal.free, LVal.calm, LVal.calm1, LOp.opds, optL, RS.acquire, appendL, elemsL, bound, inRange, intL, loadL, storeL, setElems, setParts, fitsElem, lenL, isNilL, partL, chunks]

theorem sorted_eq (l : List StateS) (h : ∀ s ∈ l, s.ok ∧ s.few) (hl : l.length ≤ 1000000) :
    callW D.T 40 [.func 49 [.ptr 1 0]] [.map (entL l), .cells 59 [.map 0]] = some (if l.isEmpty then .vs true .sh 1 [] else .vs false .sh 1 ((D.sortK (l.map keyB)).map .str), none) := by
  rw [callW_hook fn40]
  have h1 := keysOf_ent l h
  have h2 : (entL l).isEmpty = l.isEmpty := by cases l <;> rfl
  have h3 := entL_len l
  simp [D.hSorted, h1, h2, h3, hl]
end Go.Proofs.Ytbljgbojkifoiaa
end
section
set_option linter.unusedVariables false
set_option linter.unusedSimpArgs false
namespace Go.Proofs.Ytbljgbojkifoiaa
open Go Go.L

def pick (ks : List (List UInt8)) (m : List StateS) : List StateS := ks.filterMap fun k => getS k m

abbrev W29 (m : List StateS) (b4 : Bool) (ks : List (List UInt8)) (v1 out v3 : LVal) (i : Int) (v7 : LVal) : RS :=
  { vars := [.map 0, v1, out, v3, .vs b4 .sh 1 (ks.map .str), .int .i64 ks.length, .int .i64 i, v7], st := [.map (entL m), .cells 59 [.map 0]], rs := [] }

theorem getS_mem {k : List UInt8} {x : StateS} : ∀ {m : List StateS}, getS k m = some x → x ∈ m ∧ keyB x = k
  | [], h => by simp [getS] at h
  | y :: m, h => by
    simp only [getS] at h
    split at h
    · rename_i hk
      injection h with h
      subst h
      exact ⟨List.mem_cons_self .., hk.symm⟩
    · have := getS_mem h
      exact ⟨List.mem_cons_of_mem _ this.1, this.2⟩

set_option maxHeartbeats 8000000 in
theorem loop29 (m : List StateS) (b4 : Bool) (ks : List (List UInt8)) (hm : ∀ x ∈ m, x.ok ∧ x.few) (hks : ∀ k ∈ ks, ∃ x, getS k m = some x) (hl : ks.length ≤ 2000) : ∀ (j i : Nat) (acc : List StateS) (out v1 v3 v7 : LVal),
    v1.isOwn = false → v3.isOwn = false → v7.isOwn = false → LVal.within 2 v1 = true → i + j = ks.length → Lst out acc → acc.length = i →
    ∃ (out' : LVal) (w : Nat → LVal), Lst out' (acc ++ pick (ks.drop i) m) ∧ codeW D.T (.loop D.b29_0) (W29 m b4 ks v1 out v3 i v7) =
      some (.exit 0, { vars := [.map 0, w 1, out', w 3, w 4, w 5, w 6, w 7], st := [.map (entL m), .cells 59 [.map 0]], rs := [] })
  | 0, i, acc, out, v1, v3, v7, o1, o3, o7, w1, hij, hacc, hlen => by
    have hi : i = ks.length := by omega
    rw [hi, List.drop_length]
    refine ⟨out, fun j => ([.map 0, v1, .undef, v3, .vs b4 .sh 1 (ks.map .str), .int .i64 ks.length, .int .i64 ks.length, .bool false] : List LVal).getD j .undef, by simpa [pick] using hacc, ?_⟩
    rw [codeW_loop]
    simp [D.b29_0, runFun, LMode.isPure, LVal.pfs, LVal.pf, Go.L.initVars, codeW_seq, codeW_region, codeW_regionD, codeW_cond, codeW_ret, codeW_skip, codeW_exit, codeW_block, codeW_fence, thenW, outW, fenceOut, kill, LVal.withins, LVal.within, runOps, runOpsD, Go.L.step, stepD, semD, sem, RS.peek, RS.put, RS.give, RS.take, RS.takes, RS.takeElems, RS.takeParts, RS.peeks, RS.peekO, RS.setVar, RS.noPk, RS.settle, RS.alloc, callOut, LVal.arg, LVal.isAgg, LVal.cells, LVal.unpk, LVal.copy, LVal.down, LVal.plain, LVal.settled, binL, binInt, binStr, unL, resL, resOne, res1, resAll, LVal.isTup, outL, LOp.quiet, LOp.acts, LOp.peeks, LOper.fix, calmOk, loadCalm, awayOk, dstFree, LVal.free, LVal.calm, LVal.calm1, LOp.opds, optL, RS.acquire, appendL, elemsL, bound, inRange, intL, loadL, storeL, setElems, setParts, fitsElem, lenL, isNilL, partL, chunks, o1, o3, o7]
  | j + 1, i, acc, out, v1, v3, v7, o1, o3, o7, w1, hij, hacc, hlen => by
    have hi : i < ks.length := by omega
    obtain ⟨k, hk⟩ : ∃ k, ks[i]? = some k := ⟨_, List.getElem?_eq_getElem hi⟩
    have hkm : k ∈ ks := List.mem_of_getElem? hk
    obtain ⟨x, hx⟩ := hks k hkm
    have hdrop : ks.drop i = k :: ks.drop (i + 1) := by
      rw [List.drop_eq_getElem_cons hi]
      rw [List.getElem?_eq_getElem hi] at hk; injection hk with hk; rw [hk]
    have hxo := hm x (getS_mem hx).1
    have e1 : (i : Int) < (ks.length : Int) := by omega
    have e0 : 0 ≤ (i : Int) ∧ (i : Int) < (ks.length : Int) := by omega
    have e3 : IntKind.i64.wrap ((i : Int) + 1) = (i : Int) + 1 := wi64 (by omega) (by omega)
    have e6 : ks[i]? = some k := hk
    have lx : x.lies := ⟨hxo.1.2.2.2.2.2.2.1, hxo.1.2.2.2.2.2.2.2⟩
    obtain ⟨fx1, fx2, fx3⟩ := fits_state lx
    have fx5 := cells_down lx
    have e7 : ∀ (n : Nat) (l : List StateS), LVal.withins n (statesL l) = true := fun n l => statesL_within n l
    have e8 : ∀ (n : Nat) (s : StateS), LVal.withins n s.cells = true := fun n s => cells_within n
    have f1 : findL (.str k) (entL m) = some (some (.agg x.cells)) := by rw [findL_ent, hx]; rfl
    obtain ⟨g1, g2⟩ := entL_within 2 m
    have g0 : LObj.within 2 (.map (entL m)) = true := by simp [LObj.within, g1, g2]
    have g3 : LObj.within 2 (.cells 59 [.map 0]) = true := rfl
    have e9 : (statesL acc).length = acc.length := statesL_len acc
    have e10 : LVal.pfs (statesL acc) = true := statesL_pfs acc
    have e12 : ∀ n, LVal.withins n (ks.map .str) = true := by
      intro n
      clear hks hl hi hk hkm hdrop e1 e0 e6 hij
      induction ks with
      | nil => rfl
      | cons a r ih => simp [LVal.withins, LVal.within] at ih ⊢; exact ih
    have hp : pick (k :: ks.drop (i + 1)) m = x :: pick (ks.drop (i + 1)) m := by simp [pick, hx]
    obtain ⟨e11, e13, m1, m2⟩ : (acc.length + 1) * 256 ≤ maxBytes ∧ acc.length + 1 ≤ maxBytes ∧ 256 ≤ maxBytes ∧ 1 ≤ maxBytes := ⟨mb (by omega), mb (by omega), mb (by omega), mb (by omega)⟩
    obtain ⟨out1, hL, hw⟩ : ∃ out1, Lst out1 (acc ++ [x]) ∧ codeW D.T (.loop D.b29_0) (W29 m b4 ks v1 out v3 i v7) = codeW D.T (.loop D.b29_0) (W29 m b4 ks .undef out1 .undef (i + 1 : Nat) .undef) := by
      conv => enter [1, out1, 2, 1]; rw [codeW_loop]
      generalize hK : thenW (codeW D.T (.loop D.b29_0)) = K
      rcases lst_cases hacc with ⟨rfl, rfl⟩ | ⟨hne, o, rfl, rfl | rfl⟩
      · refine ⟨_, .inr ⟨by simp, .inr rfl⟩, ?_⟩
        simp [D.b29_0, runFun, LMode.isPure, LVal.pfs, LVal.pf, Go.L.initVars, codeW_seq, codeW_region, codeW_regionD, codeW_cond, codeW_ret, codeW_skip, codeW_exit, codeW_block, codeW_fence, thenW, outW, fenceOut, kill, LVal.withins, LVal.within, runOps, runOpsD, Go.L.step, stepD, semD, sem, RS.peek, RS.put, RS.give, RS.take, RS.takes, RS.takeElems, RS.takeParts, RS.peeks, RS.peekO, RS.setVar, RS.noPk, RS.settle, RS.alloc, callOut, LVal.arg, LVal.isAgg, LVal.cells, LVal.unpk, LVal.copy, LVal.down, LVal.settled, binL, binInt, binStr, unL, resL, resOne, res1, resAll, LVal.isTup, outL, LOp.quiet, LOp.acts, LOp.peeks, LOper.fix, calmOk, loadCalm, awayOk, dstFree, LVal.free, LVal.calm, LVal.calm1, LOp.opds, optL, RS.acquire, appendL, elemsL, bound, inRange, intL, loadL, storeL, setElems, setParts, fitsElem, lenL, isNilL, partL, chunks, lookL, keyKind, o1, o3, o7, w1, e0, e1, e3, e6, e7, e8, f1, g0, g3, fx1, fx2, eq_true fx3, fx5, e9, e10, e11, e12, e13, m1, m2, statesL_append]
        subst hK
        rfl
      · refine ⟨_, .inr ⟨by simp, .inr rfl⟩, ?_⟩
        simp [D.b29_0, runFun, LMode.isPure, LVal.pfs, LVal.pf, Go.L.initVars, codeW_seq, codeW_region, codeW_regionD, codeW_cond, codeW_ret, codeW_skip, codeW_exit, codeW_block, codeW_fence, thenW, outW, fenceOut, kill, LVal.withins, LVal.within, runOps, runOpsD, Go.L.step, stepD, semD, sem, RS.peek, RS.put, RS.give, RS.take, RS.takes, RS.takeElems, RS.takeParts, RS.peeks, RS.peekO, RS.setVar, RS.noPk, RS.settle, RS.alloc, callOut, LVal.arg, LVal.isAgg, LVal.cells, LVal.unpk, LVal.copy, LVal.down, LVal.settled, binL, binInt, binStr, unL, resL, resOne, res1, resAll, LVal.isTup, outL, LOp.quiet, LOp.acts, LOp.peeks, LOper.fix, calmOk, loadCalm, awayOk, dstFree, LVal.free, LVal.calm, LVal.calm1, LOp.opds, optL, RS.acquire, appendL, elemsL, bound, inRange, intL, loadL, storeL, setElems, setParts, fitsElem, lenL, isNilL, partL, chunks, lookL, keyKind, o1, o3, o7, w1, e0, e1, e3, e6, e7, e8, f1, g0, g3, fx1, fx2, eq_true fx3, fx5, e9, e10, e11, e12, e13, m1, m2, statesL_append]
        subst hK
        rfl
      · refine ⟨_, .inr ⟨by simp, .inr rfl⟩, ?_⟩
        simp [D.b29_0, runFun, LMode.isPure, LVal.pfs, LVal.pf, Go.L.initVars, codeW_seq, codeW_region, codeW_regionD, codeW_cond, codeW_ret, codeW_skip, codeW_exit, codeW_block, codeW_fence, thenW, outW, fenceOut, kill, LVal.withins, LVal.within, runOps, runOpsD, Go.L.step, stepD, semD, sem, RS.peek, RS.put, RS.give, RS.take, RS.takes, RS.takeElems, RS.takeParts, RS.peeks, RS.peekO, RS.setVar, RS.noPk, RS.settle, RS.alloc, callOut, LVal.arg, LVal.isAgg, LVal.cells, LVal.unpk, LVal.copy, LVal.down, LVal.settled, binL, binInt, binStr, unL, resL, resOne, res1, resAll, LVal.isTup, outL, LOp.quiet, LOp.acts, LOp.peeks, LOper.fix, calmOk, loadCalm, awayOk, dstFree, LVal.free, LVal.calm, LVal.calm1, LOp.opds, optL, RS.acquire, appendL, elemsL, bound, inRange, intL, loadL, storeL, setElems, setParts, fitsElem, lenL, isNilL, partL, chunks, lookL, keyKind, o1, o3, o7, w1, e0, e1, e3, e6, e7, e8, f1, g0, g3, fx1, fx2, eq_true fx3, fx5, e9, e10, e11, e12, e13, m1, m2, statesL_append]
        subst hK
        rfl
    rw [hw, hdrop, hp]
    have := loop29 m b4 ks hm hks hl j (i + 1) (acc ++ [x]) out1 .undef .undef .undef rfl rfl rfl rfl (by omega) hL (by simp [hlen])
    simpa using this
end Go.Proofs.Ytbljgbojkifoiaa
end
section
set_option linter.unusedVariables false
set_option linter.unusedSimpArgs false
namespace Go.Proofs.Ytbljgbojkifoiaa
open Go Go.L

theorem mem_insK {k x : List UInt8} : ∀ {l : List (List UInt8)}, x ∈ D.insK k l ↔ x = k ∨ x ∈ l
  | [] => by simp [D.insK]
  | y :: l => by
    simp only [D.insK]
    split
    · simp
    · simp only [List.mem_cons, mem_insK (l := l)]
      constructor
      · rintro (h | h | h) <;> simp [h]
      · rintro (h | h | h) <;> simp [h]
theorem mem_sortK {x : List UInt8} : ∀ {l : List (List UInt8)}, x ∈ D.sortK l ↔ x ∈ l
  | [] => by simp [D.sortK]
  | y :: l => by simp [D.sortK, mem_insK, mem_sortK (l := l)]
theorem insK_len {k : List UInt8} : ∀ {l : List (List UInt8)}, (D.insK k l).length = l.length + 1
  | [] => rfl
  | y :: l => by
    simp only [D.insK]
    split
    · simp
    · simp [insK_len (l := l)]
theorem sortK_len : ∀ {l : List (List UInt8)}, (D.sortK l).length = l.length
  | [] => rfl
  | y :: l => by simp [D.sortK, insK_len, sortK_len (l := l)]

theorem getS_some {k : List UInt8} : ∀ {m : List StateS}, k ∈ m.map keyB → ∃ x, getS k m = some x
  | [], h => by simp at h
  | y :: m, h => by
    simp only [getS]
    by_cases hk : k = keyB y
    · exact ⟨y, by simp [hk]⟩
    · simp only [if_neg hk]
      simp only [List.map_cons, List.mem_cons] at h
      exact getS_some (h.resolve_left hk)

def byKeyS (m : List StateS) : List StateS := pick (D.sortK (m.map keyB)) m

theorem byKeyS_mem {m : List StateS} {x : StateS} (h : x ∈ byKeyS m) : x ∈ m := by
  simp only [byKeyS, pick, List.mem_filterMap] at h
  obtain ⟨k, _, hk⟩ := h
  exact (getS_mem hk).1

theorem pick_keys (m : List StateS) : ∀ (ks : List (List UInt8)), (∀ k ∈ ks, ∃ x, getS k m = some x) → (pick ks m).map keyB = ks
  | [], _ => rfl
  | k :: ks, h => by
    obtain ⟨x, hx⟩ := h k (List.mem_cons_self ..)
    have ih := pick_keys m ks (fun k hk => h k (List.mem_cons_of_mem _ hk))
    simp only [pick] at ih
    simp only [pick, List.filterMap_cons, hx, List.map_cons, ih, (getS_mem hx).2]

theorem byKeyS_keys (m : List StateS) : (byKeyS m).map keyB = D.sortK (m.map keyB) :=
  pick_keys m _ fun k hk => getS_some (mem_sortK.1 hk)

set_option maxHeartbeats 8000000 in
theorem byKey_eq (m : List StateS) (hm : ∀ x ∈ m, x.ok ∧ x.few) (hl : m.length ≤ 1000) :
    ∃ v, callW D.T 29 [.map 0] [.map (entL m)] = some (v, some [.map (entL m)]) ∧ Sl v (byKeyS m) := by
  have k1 := keys_eq (entL m)
  have k2 := sorted_eq m hm (by omega)
  obtain ⟨g1, g2⟩ := entL_within 1 m
  have g0 : LObj.within 1 (.map (entL m)) = true := by simp [LObj.within, g1, g2]
  obtain ⟨h1, h2⟩ := entL_within 2 m
  have h0 : LObj.within 2 (.map (entL m)) = true := by simp [LObj.within, h1, h2]
  have h3 : LObj.within 2 (.cells 59 [.map 0]) = true := rfl
  have e7 : ∀ (n : Nat) (l : List StateS), LVal.withins n (statesL l) = true := fun n l => statesL_within n l
  have z0 : ((0 : Nat) : Int) = 0 := rfl
  cases m with
  | nil =>
    refine ⟨_, ?_, .inl ⟨rfl, rfl⟩⟩
    rw [callW_fn fn29]
    simp [D.l29, D.c29, runFun, LMode.isPure, LVal.pfs, LVal.pf, Go.L.initVars, codeW_seq, codeW_region, codeW_regionD, codeW_cond, codeW_ret, codeW_skip, codeW_exit, codeW_block, codeW_fence, thenW, outW, fenceOut, kill, LVal.withins, LVal.within, runOps, runOpsD, Go.L.step, stepD, semD, sem, RS.peek, RS.put, RS.give, RS.take, RS.takes, RS.takeElems, RS.takeParts, RS.peeks, RS.peekO, RS.setVar, RS.noPk, RS.settle, RS.alloc, callOut, LVal.arg, LVal.isAgg, LVal.cells, LVal.unpk, LVal.copy, LVal.down, LVal.plain, LVal.settled, binL, binInt, binStr, unL, resL, resOne, res1, resAll, LVal.isTup, outL, LOp.quiet, LOp.acts, LOp.peeks, LOper.fix, calmOk, loadCalm, awayOk, dstFree, LVal.free, LVal.calm, LVal.calm1, LOp.opds, optL, RS.acquire, appendL, elemsL, bound, inRange, intL, loadL, storeL, setElems, setParts, fitsElem, lenL, isNilL, partL, chunks, k1, k2]
    rw [codeW_loop]
    simp [D.b29_0, runFun, LMode.isPure, LVal.pfs, LVal.pf, Go.L.initVars, codeW_seq, codeW_region, codeW_regionD, codeW_cond, codeW_ret, codeW_skip, codeW_exit, codeW_block, codeW_fence, thenW, outW, fenceOut, kill, LVal.withins, LVal.within, runOps, runOpsD, Go.L.step, stepD, semD, sem, RS.peek, RS.put, RS.give, RS.take, RS.takes, RS.takeElems, RS.takeParts, RS.peeks, RS.peekO, RS.setVar, RS.noPk, RS.settle, RS.alloc, callOut, LVal.arg, LVal.isAgg, LVal.cells, LVal.unpk, LVal.copy, LVal.down, LVal.plain, LVal.settled, binL, binInt, binStr, unL, resL, resOne, res1, resAll, LVal.isTup, outL, LOp.quiet, LOp.acts, LOp.peeks, LOper.fix, calmOk, loadCalm, awayOk, dstFree, LVal.free, LVal.calm, LVal.calm1, LOp.opds, optL, RS.acquire, appendL, elemsL, bound, inRange, intL, loadL, storeL, setElems, setParts, fitsElem, lenL, isNilL, partL, chunks, g0, h0, h3]
  | cons x m =>
    generalize hM : x :: m = M at *
    have hne : M.isEmpty = false := by rw [← hM]; rfl
    simp only [hne, Bool.false_eq_true, if_false] at k2
    have hlen : (D.sortK (M.map keyB)).length = M.length := by rw [sortK_len]; simp
    obtain ⟨out', w, hL, c1⟩ := loop29 M false (D.sortK (M.map keyB)) hm (fun k hk => getS_some (mem_sortK.1 hk)) (by omega) (D.sortK (M.map keyB)).length 0 [] (.vs true .sh 0 []) (.vs true .sh 0 []) .undef .undef rfl rfl rfl rfl (by omega) (.inl ⟨rfl, rfl⟩) rfl
    rw [z0] at c1
    simp only [List.drop_zero, List.nil_append] at hL
    have hb : pick (D.sortK (M.map keyB)) M = byKeyS M := rfl
    rw [hb] at hL
    rcases lst_cases hL with ⟨q1, rfl⟩ | ⟨q1, o, rfl, rfl | rfl⟩
    · refine ⟨_, ?_, .inl ⟨q1, rfl⟩⟩
      rw [callW_fn fn29]
      simp [D.l29, D.c29, runFun, LMode.isPure, LVal.pfs, LVal.pf, Go.L.initVars, codeW_seq, codeW_region, codeW_regionD, codeW_cond, codeW_ret, codeW_skip, codeW_exit, codeW_block, codeW_fence, thenW, outW, fenceOut, kill, LVal.withins, LVal.within, runOps, runOpsD, Go.L.step, stepD, semD, sem, RS.peek, RS.put, RS.give, RS.take, RS.takes, RS.takeElems, RS.takeParts, RS.peeks, RS.peekO, RS.setVar, RS.noPk, RS.settle, RS.alloc, callOut, LVal.arg, LVal.isAgg, LVal.cells, LVal.unpk, LVal.copy, LVal.down, LVal.plain, LVal.settled, binL, binInt, binStr, unL, resL, resOne, res1, resAll, LVal.isTup, outL, LOp.quiet, LOp.acts, LOp.peeks, LOper.fix, calmOk, loadCalm, awayOk, dstFree, LVal.free, LVal.calm, LVal.calm1, LOp.opds, optL, RS.acquire, appendL, elemsL, bound, inRange, intL, loadL, storeL, setElems, setParts, fitsElem, lenL, isNilL, partL, chunks, k1, k2]
      rw [c1]
      simp [runFun, LMode.isPure, LVal.pfs, LVal.pf, Go.L.initVars, codeW_seq, codeW_region, codeW_regionD, codeW_cond, codeW_ret, codeW_skip, codeW_exit, codeW_block, codeW_fence, thenW, outW, fenceOut, kill, LVal.withins, LVal.within, runOps, runOpsD, Go.L.step, stepD, semD, sem, RS.peek, RS.put, RS.give, RS.take, RS.takes, RS.takeElems, RS.takeParts, RS.peeks, RS.peekO, RS.setVar, RS.noPk, RS.settle, RS.alloc, callOut, LVal.arg, LVal.isAgg, LVal.cells, LVal.unpk, LVal.copy, LVal.down, LVal.plain, LVal.settled, binL, binInt, binStr, unL, resL, resOne, res1, resAll, LVal.isTup, outL, LOp.quiet, LOp.acts, LOp.peeks, LOper.fix, calmOk, loadCalm, awayOk, dstFree, LVal.free, LVal.calm, LVal.calm1, LOp.opds, optL, RS.acquire, appendL, elemsL, bound, inRange, intL, loadL, storeL, setElems, setParts, fitsElem, lenL, isNilL, partL, chunks, g0, h0, h3, e7]
    · refine ⟨_, ?_, .inr ⟨q1, .full, rfl, .inr rfl⟩⟩
      rw [callW_fn fn29]
      simp [D.l29, D.c29, runFun, LMode.isPure, LVal.pfs, LVal.pf, Go.L.initVars, codeW_seq, codeW_region, codeW_regionD, codeW_cond, codeW_ret, codeW_skip, codeW_exit, codeW_block, codeW_fence, thenW, outW, fenceOut, kill, LVal.withins, LVal.within, runOps, runOpsD, Go.L.step, stepD, semD, sem, RS.peek, RS.put, RS.give, RS.take, RS.takes, RS.takeElems, RS.takeParts, RS.peeks, RS.peekO, RS.setVar, RS.noPk, RS.settle, RS.alloc, callOut, LVal.arg, LVal.isAgg, LVal.cells, LVal.unpk, LVal.copy, LVal.down, LVal.plain, LVal.settled, binL, binInt, binStr, unL, resL, resOne, res1, resAll, LVal.isTup, outL, LOp.quiet, LOp.acts, LOp.peeks, LOper.fix, calmOk, loadCalm, awayOk, dstFree, LVal.free, LVal.calm, LVal.calm1, LOp.opds, optL, RS.acquire, appendL, elemsL, bound, inRange, intL, loadL, storeL, setElems, setParts, fitsElem, lenL, isNilL, partL, chunks, k1, k2]
      rw [c1]
      simp [runFun, LMode.isPure, LVal.pfs, LVal.pf, Go.L.initVars, codeW_seq, codeW_region, codeW_regionD, codeW_cond, codeW_ret, codeW_skip, codeW_exit, codeW_block, codeW_fence, thenW, outW, fenceOut, kill, LVal.withins, LVal.within, runOps, runOpsD, Go.L.step, stepD, semD, sem, RS.peek, RS.put, RS.give, RS.take, RS.takes, RS.takeElems, RS.takeParts, RS.peeks, RS.peekO, RS.setVar, RS.noPk, RS.settle, RS.alloc, callOut, LVal.arg, LVal.isAgg, LVal.cells, LVal.unpk, LVal.copy, LVal.down, LVal.plain, LVal.settled, binL, binInt, binStr, unL, resL, resOne, res1, resAll, LVal.isTup, outL, LOp.quiet, LOp.acts, LOp.peeks, LOper.fix, calmOk, loadCalm, awayOk, dstFree, LVal.free, LVal.calm, LVal.calm1, LOp.opds, optL, RS.acquire, appendL, elemsL, bound, inRange, intL, loadL, storeL, setElems, setParts, fitsElem, lenL, isNilL, partL, chunks, g0, h0, h3, e7]
    · refine ⟨_, ?_, .inr ⟨q1, .sh, rfl, .inl rfl⟩⟩
      rw [callW_fn fn29]
      simp [D.l29, D.c29, runFun, LMode.isPure, LVal.pfs, LVal.pf, Go.L.initVars, codeW_seq, codeW_region, codeW_regionD, codeW_cond, codeW_ret, codeW_skip, codeW_exit, codeW_block, codeW_fence, thenW, outW, fenceOut, kill, LVal.withins, LVal.within, runOps, runOpsD, Go.L.step, stepD, semD, sem, RS.peek, RS.put, RS.give, RS.take, RS.takes, RS.takeElems, RS.takeParts, RS.peeks, RS.peekO, RS.setVar, RS.noPk, RS.settle, RS.alloc, callOut, LVal.arg, LVal.isAgg, LVal.cells, LVal.unpk, LVal.copy, LVal.down, LVal.plain, LVal.settled, binL, binInt, binStr, unL, resL, resOne, res1, resAll, LVal.isTup, outL, LOp.quiet, LOp.acts, LOp.peeks, LOper.fix, calmOk, loadCalm, awayOk, dstFree, LVal.free, LVal.calm, LVal.calm1, LOp.opds, optL, RS.acquire, appendL, elemsL, bound, inRange, intL, loadL, storeL, setElems, setParts, fitsElem, lenL, isNilL, partL, chunks, k1, k2]
      rw [c1]
      simp [runFun, LMode.isPure, LVal.pfs, LVal.pf, Go.L.initVars, codeW_seq, codeW_region, codeW_regionD, codeW_cond, codeW_ret, codeW_skip, codeW_exit, codeW_block, codeW_fence, thenW, outW, fenceOut, kill, LVal.withins, LVal.within, runOps, runOpsD, Go.L.step, stepD, semD, sem, RS.peek, RS.put, RS.give, RS.take, RS.takes, RS.takeElems, RS.takeParts, RS.peeks, RS.peekO, RS.setVar, RS.noPk, RS.settle, RS.alloc, callOut, LVal.arg, LVal.isAgg, LVal.cells, LVal.unpk, LVal.copy, LVal.down, LVal.plain, LVal.settled, binL, binInt, binStr, unL, resL, resOne, res1, resAll, LVal.isTup, outL, LOp.quiet, LOp.acts, LOp.peeks, LOper.fix, calmOk, loadCalm, awayOk, dstFree, LVal.free, LVal.calm, LVal.calm1, LOp.opds, optL, RS.acquire, appendL, elemsL, bound, inRange, intL, loadL, storeL, setElems, setParts, fitsElem, lenL, isNilL, partL, chunks, g0, h0, h3, e7]
end Go.Proofs.Ytbljgbojkifoiaa
end
section
set_option linter.unusedVariables false
set_option linter.unusedSimpArgs false
namespace Go.Proofs.Ytbljgbojkifoiaa
open Go Go.L

theorem fn15 : D.T.fns 15 = some (.fn D.l15) := rfl
abbrev W15 (m : List StateS) (v0 v1 : LVal) (b : Bool) (n : Nat) (l : List StateS) (i : Int) : RS :=
  { vars := [v0, v1, .map 0, .undef, .vs b .sh n (statesL l), .int .i64 l.length, .int .i64 i, .undef], st := [.map (entL m)], rs := [] }

theorem putS_mem {s x : StateS} : ∀ {m : List StateS}, x ∈ putS s m → x = s ∨ x ∈ m
  | [], h => by simp [putS] at h; exact .inl h
  | y :: m, h => by
    simp only [putS] at h
    split at h
    · simp only [List.mem_cons] at h ⊢
      rcases h with h | h <;> simp [h]
    · simp only [List.mem_cons] at h ⊢
      rcases h with h | h
      · simp [h]
      · rcases putS_mem h with h | h <;> simp [h]
theorem putS_len {s : StateS} : ∀ {m : List StateS}, (putS s m).length ≤ m.length + 1
  | [] => by simp [putS]
  | y :: m => by
    simp only [putS]
    split
    · simp
    · have := putS_len (s := s) (m := m)
      simp; omega

theorem cells_settled {s : StateS} (h : s.lies) : ∀ x, x ∈ s.cells → LVal.settled x = true := by
  have : s.cells.all LVal.settled = true := by
    simp only [StateS.cells]; rcases h.1 with ho | ho <;> rw [ho] <;> rfl
  exact List.all_eq_true.1 this

def zc : List LVal := [(.int .i64 0), (.int .i64 0), (.int .i64 0), (.bool false), (.bool false), (.int .i64 0), (.str []), (.int .i64 0), (.int .i64 0), (.int .i64 0), (.bool false), (.bool false), (.int .i64 0), (.str []), (.int .i64 0), (.int .i64 0), (.int .i64 0), (.bool false), (.bool false), (.int .i64 0), (.str []), (.int .i64 0), (.int .i64 0), (.bool false), (.bool false), (.bool false), (.int .i64 0), (.str []), (.bool false), (.int .i64 0), (.vs true .sh 0 [])]

set_option maxHeartbeats 8000000 in
theorem loop15 (b : Bool) (n : Nat) (l : List StateS) (hn : l = [] ∨ n = 31) (hok : ∀ x ∈ l, x.ok ∧ x.few) (hl : l.length ≤ 900) : ∀ (j i : Nat) (m : List StateS) (v0 v1 : LVal),
    v0.isOwn = false → v1.isOwn = false → v0.stay = v0 → v1.stay = v1 → i + j = l.length → (∀ x ∈ m, x ∈ l) → m.length ≤ i →
    ∃ (w : Nat → LVal), codeW D.T (.loop D.b15_0) (W15 m v0 v1 b n l i) =
      some (.exit 0, { vars := [w 0, w 1, .map 0, w 3, w 4, w 5, w 6, w 7], st := [.map (entL ((l.drop i).foldl (fun m s => putS s m) m))], rs := [] })
  | 0, i, m, v0, v1, o0, o1, s0, s1, hij, hmem, hlen => by
    have hi : i = l.length := by omega
    rw [hi, List.drop_length]
    refine ⟨fun j => ([v0, v1, .undef, .undef, .vs b .sh n (statesL l), .int .i64 l.length, .int .i64 l.length, .bool false] : List LVal).getD j .undef, ?_⟩
    rw [codeW_loop]
    simp [D.b15_0, runFun, LMode.isPure, LVal.pfs, LVal.pf, Go.L.initVars, codeW_seq, codeW_region, codeW_regionD, codeW_cond, codeW_ret, codeW_skip, codeW_exit, codeW_block, codeW_fence, thenW, outW, fenceOut, kill, LVal.withins, LVal.within, runOps, runOpsD, Go.L.step, stepD, semD, sem, RS.peek, RS.put, RS.give, RS.take, RS.takes, RS.takeElems, RS.takeParts, RS.peeks, RS.peekO, RS.setVar, RS.noPk, RS.settle, RS.alloc, callOut, LVal.arg, LVal.isAgg, LVal.cells, LVal.unpk, LVal.copy, LVal.down, LVal.plain, LVal.settled, binL, binInt, binStr, unL, resL, resOne, res1, resAll, LVal.isTup, outL, LOp.quiet, LOp.acts, LOp.peeks, LOper.fix, calmOk, loadCalm, awayOk, dstFree, LVal.free, LVal.calm, LVal.calm1, LOp.opds, optL, RS.acquire, appendL, elemsL, bound, inRange, intL, loadL, storeL, setElems, setParts, fitsElem, lenL, isNilL, partL, chunks, o0, o1]
  | j + 1, i, m, v0, v1, o0, o1, s0, s1, hij, hmem, hlen => by
    have hi : i < l.length := by omega
    obtain ⟨x, hx⟩ : ∃ x, l[i]? = some x := ⟨_, List.getElem?_eq_getElem hi⟩
    have hxm : x ∈ l := List.mem_of_getElem? hx
    have hdrop : l.drop i = x :: l.drop (i + 1) := by
      rw [List.drop_eq_getElem_cons hi]
      rw [List.getElem?_eq_getElem hi] at hx; injection hx with hx; rw [hx]
    have hn' : n = 31 := by
      rcases hn with rfl | h
      · simp at hi
      · exact h
    subst hn'
    have hxo := hok x hxm
    have e1 : (i : Int) < (l.length : Int) := by omega
    have e0 : 0 ≤ (i : Int) ∧ (i : Int) < (l.length : Int) := by omega
    have e3 : IntKind.i64.wrap ((i : Int) + 1) = (i : Int) + 1 := wi64 (by omega) (by omega)
    have e5 : (statesL l).length = l.length := statesL_len l
    have e6 : (statesL l)[i]? = some (.agg x.cells) := by rw [statesL_get, hx]; rfl
    have e7 : ∀ (n : Nat) (l : List StateS), LVal.withins n (statesL l) = true := fun n l => statesL_within n l
    have e8 : ∀ (n : Nat) (s : StateS), LVal.withins n s.cells = true := fun n s => cells_within n
    have lx : x.lies := ⟨hxo.1.2.2.2.2.2.2.1, hxo.1.2.2.2.2.2.2.2⟩
    obtain ⟨fx1, fx2, fx3⟩ := fits_state lx
    have fx4 := cells_own lx
    have fx5 := cells_down lx
    have fx6 := cells_stay lx
    have fx7 := cells_settled lx
    have fx8 : ∀ x_1, x_1 ∈ x.cells → x_1.plain = true ∨ x_1.isOwn = true := fun _ h => .inl (fx3 _ h)
    have ft : List.take 31 x.cells = x.cells := rfl
    have k10 := key_eq x hxo.1 hxo.2
    have p1 := putL_ent x m
    obtain ⟨g1, g2⟩ := entL_within 1 (putS x m)
    have g0 : LObj.within 1 (.map (entL (putS x m))) = true := by simp [LObj.within, g1, g2]
    obtain ⟨w, IH⟩ := loop15 b 31 l hn hok hl j (i + 1) (putS x m) .undef .undef rfl rfl rfl rfl (by omega) (fun y hy => by
      rcases putS_mem hy with h | h
      · exact h ▸ hxm
      · exact hmem y h) (Nat.le_trans putS_len (by omega))
    rw [hdrop]
    refine ⟨w, ?_⟩
    rw [codeW_loop]
    generalize hK : thenW (codeW D.T (.loop D.b15_0)) = K
    simp [D.b15_0, runFun, LMode.isPure, LVal.pfs, LVal.pf, Go.L.initVars, codeW_seq, codeW_region, codeW_regionD, codeW_cond, codeW_ret, codeW_skip, codeW_exit, codeW_block, codeW_fence, thenW, outW, fenceOut, kill, LVal.withins, LVal.within, runOps, runOpsD, Go.L.step, stepD, semD, sem, RS.peek, RS.put, RS.give, RS.take, RS.takes, RS.takeElems, RS.takeParts, RS.peeks, RS.peekO, RS.setVar, RS.noPk, RS.settle, RS.alloc, callOut, LVal.arg, LVal.isAgg, LVal.cells, LVal.unpk, LVal.copy, LVal.down, binL, binInt, binStr, unL, resL, resOne, res1, resAll, LVal.isTup, outL, LOp.quiet, LOp.acts, LOp.peeks, LOper.fix, calmOk, loadCalm, awayOk, dstFree, LVal.free, LVal.calm, LVal.calm1, LOp.opds, optL, RS.acquire, appendL, elemsL, bound, inRange, intL, loadL, storeL, setElems, setParts, fitsElem, lenL, isNilL, partL, chunks, storeL, keyKind, o0, o1, s0, s1, e0, e1, e3, e5, e6, e7, e8, fx1, fx2, eq_true fx3, eq_true fx7, eq_true fx8, fx4, fx5, fx6, ft, k10, p1, g0]
    subst hK
    exact IH

def mapS (l : List StateS) : List StateS := l.foldl (fun m s => putS s m) []
def setS (l : List StateS) : List StateS := byKeyS (mapS l)

theorem foldP_mem : ∀ (l acc : List StateS) (x : StateS), x ∈ l.foldl (fun m s => putS s m) acc → x ∈ acc ∨ x ∈ l
  | [], acc, x, h => .inl h
  | y :: l, acc, x, h => by
    rcases foldP_mem l (putS y acc) x h with h1 | h1
    · rcases putS_mem h1 with h2 | h2
      · exact .inr (by simp [h2])
      · exact .inl h2
    · exact .inr (by simp [h1])
theorem foldP_len : ∀ (l acc : List StateS), (l.foldl (fun m s => putS s m) acc).length ≤ acc.length + l.length
  | [], acc => by simp
  | y :: l, acc => by
    have h1 := foldP_len l (putS y acc)
    have h2 := putS_len (s := y) (m := acc)
    simp only [List.foldl_cons, List.length_cons]
    omega
theorem mapS_mem {l : List StateS} {x : StateS} (h : x ∈ mapS l) : x ∈ l := by
  rcases foldP_mem l [] x h with h1 | h1
  · simp at h1
  · exact h1
theorem mapS_len (l : List StateS) : (mapS l).length ≤ l.length := by
  have := foldP_len l []
  simpa [mapS] using this
theorem setS_mem {l : List StateS} {x : StateS} (h : x ∈ setS l) : x ∈ l := mapS_mem (byKeyS_mem h)
theorem setS_len (l : List StateS) : (setS l).length ≤ l.length := by
  have h1 : (setS l).length = (mapS l).length := by
    have := congrArg List.length (byKeyS_keys (mapS l))
    simpa [sortK_len, setS] using this
  have := mapS_len l
  omega

set_option maxHeartbeats 8000000 in
/-- Of. -/
theorem of_eq {b : Bool} {n : Nat} {l : List StateS} (hn : l = [] ∨ n = 31) (hok : ∀ x ∈ l, x.ok ∧ x.few) (hl : l.length ≤ 900) :
    ∃ v', callW D.T 15 [.vs b .sh n (statesL l)] [] = some (v', none) ∧ Sl v' (setS l) := by
  obtain ⟨w, c1⟩ := loop15 b n l hn hok hl l.length 0 [] (.vs b .sh n (statesL l)) (.vs true .sh 0 []) rfl rfl rfl rfl (by omega) (by simp) (by simp)
  have z0 : ((0 : Nat) : Int) = 0 := rfl
  rw [z0] at c1
  have hM : l.foldl (fun m s => putS s m) [] = mapS l := rfl
  have hE : entL [] = [] := rfl
  simp only [W15, List.drop_zero, hM, hE] at c1
  have e5 : (statesL l).length = l.length := statesL_len l
  have e7 : ∀ l : List StateS, LVal.pfs (statesL l) = true := statesL_pfs
  obtain ⟨v, k29, hS⟩ := byKey_eq (mapS l) (fun x hx => hok x (mapS_mem hx)) (Nat.le_trans (mapS_len l) (by omega))
  obtain ⟨g1, g2⟩ := entL_within 1 (mapS l)
  have g0 : LObj.within 1 (.map (entL (mapS l))) = true := by simp [LObj.within, g1, g2]
  have hS' : Sl v (setS l) := hS
  have e0 : (0 : Int) ≤ (l.length : Int) := by omega
  rcases hS' with ⟨q1, rfl⟩ | ⟨q1, o, rfl, rfl | rfl⟩
  · refine ⟨_, ?_, .inl ⟨q1, rfl⟩⟩
    rw [callW_fn fn15]
    simp [D.l15, D.c15, runFun, LMode.isPure, LVal.pfs, LVal.pf, Go.L.initVars, codeW_seq, codeW_region, codeW_regionD, codeW_cond, codeW_ret, codeW_skip, codeW_exit, codeW_block, codeW_fence, thenW, outW, fenceOut, kill, LVal.withins, LVal.within, runOps, runOpsD, Go.L.step, stepD, semD, sem, RS.peek, RS.put, RS.give, RS.take, RS.takes, RS.takeElems, RS.takeParts, RS.peeks, RS.peekO, RS.setVar, RS.noPk, RS.settle, RS.alloc, callOut, LVal.arg, LVal.isAgg, LVal.cells, LVal.unpk, LVal.copy, LVal.down, LVal.plain, LVal.settled, binL, binInt, binStr, unL, resL, resOne, res1, resAll, LVal.isTup, outL, LOp.quiet, LOp.acts, LOp.peeks, LOper.fix, calmOk, loadCalm, awayOk, dstFree, LVal.free, LVal.calm, LVal.calm1, LOp.opds, optL, RS.acquire, appendL, elemsL, bound, inRange, intL, loadL, storeL, setElems, setParts, fitsElem, lenL, isNilL, partL, chunks, e0, e5, e7]
    rw [c1]
    simp [runFun, LMode.isPure, LVal.pfs, LVal.pf, Go.L.initVars, codeW_seq, codeW_region, codeW_regionD, codeW_cond, codeW_ret, codeW_skip, codeW_exit, codeW_block, codeW_fence, thenW, outW, fenceOut, kill, LVal.withins, LVal.within, runOps, runOpsD, Go.L.step, stepD, semD, sem, RS.peek, RS.put, RS.give, RS.take, RS.takes, RS.takeElems, RS.takeParts, RS.peeks, RS.peekO, RS.setVar, RS.noPk, RS.settle, RS.alloc, callOut, LVal.arg, LVal.isAgg, LVal.cells, LVal.unpk, LVal.copy, LVal.down, LVal.plain, LVal.settled, binL, binInt, binStr, unL, resL, resOne, res1, resAll, LVal.isTup, outL, LOp.quiet, LOp.acts, LOp.peeks, LOper.fix, calmOk, loadCalm, awayOk, dstFree, LVal.free, LVal.calm, LVal.calm1, LOp.opds, optL, RS.acquire, appendL, elemsL, bound, inRange, intL, loadL, storeL, setElems, setParts, fitsElem, lenL, isNilL, partL, chunks, g0, k29, e7]
  · refine ⟨_, ?_, .inr ⟨q1, .sh, rfl, .inl rfl⟩⟩
    rw [callW_fn fn15]
    simp [D.l15, D.c15, runFun, LMode.isPure, LVal.pfs, LVal.pf, Go.L.initVars, codeW_seq, codeW_region, codeW_regionD, codeW_cond, codeW_ret, codeW_skip, codeW_exit, codeW_block, codeW_fence, thenW, outW, fenceOut, kill, LVal.withins, LVal.within, runOps, runOpsD, Go.L.step, stepD, semD, sem, RS.peek, RS.put, RS.give, RS.take, RS.takes, RS.takeElems, RS.takeParts, RS.peeks, RS.peekO, RS.setVar, RS.noPk, RS.settle, RS.alloc, callOut, LVal.arg, LVal.isAgg, LVal.cells, LVal.unpk, LVal.copy, LVal.down, LVal.plain, LVal.settled, binL, binInt, binStr, unL, resL, resOne, res1, resAll, LVal.isTup, outL, LOp.quiet, LOp.acts, LOp.peeks, LOper.fix, calmOk, loadCalm, awayOk, dstFree, LVal.free, LVal.calm, LVal.calm1, LOp.opds, optL, RS.acquire, appendL, elemsL, bound, inRange, intL, loadL, storeL, setElems, setParts, fitsElem, lenL, isNilL, partL, chunks, e0, e5, e7]
    rw [c1]
    simp [runFun, LMode.isPure, LVal.pfs, LVal.pf, Go.L.initVars, codeW_seq, codeW_region, codeW_regionD, codeW_cond, codeW_ret, codeW_skip, codeW_exit, codeW_block, codeW_fence, thenW, outW, fenceOut, kill, LVal.withins, LVal.within, runOps, runOpsD, Go.L.step, stepD, semD, sem, RS.peek, RS.put, RS.give, RS.take, RS.takes, RS.takeElems, RS.takeParts, RS.peeks, RS.peekO, RS.setVar, RS.noPk, RS.settle, RS.alloc, callOut, LVal.arg, LVal.isAgg, LVal.cells, LVal.unpk, LVal.copy, LVal.down, LVal.plain, LVal.settled, binL, binInt, binStr, unL, resL, resOne, res1, resAll, LVal.isTup, outL, LOp.quiet, LOp.acts, LOp.peeks, LOper.fix, calmOk, loadCalm, awayOk, dstFree, LVal.free, LVal.calm, LVal.calm1, LOp.opds, optL, RS.acquire, appendL, elemsL, bound, inRange, intL, loadL, storeL, setElems, setParts, fitsElem, lenL, isNilL, partL, chunks, g0, k29, e7]
  · refine ⟨_, ?_, .inr ⟨q1, .full, rfl, .inr rfl⟩⟩
    rw [callW_fn fn15]
    simp [D.l15, D.c15, runFun, LMode.isPure, LVal.pfs, LVal.pf, Go.L.initVars, codeW_seq, codeW_region, codeW_regionD, codeW_cond, codeW_ret, codeW_skip, codeW_exit, codeW_block, codeW_fence, thenW, outW, fenceOut, kill, LVal.withins, LVal.within, runOps, runOpsD, Go.L.step, stepD, semD, sem, RS.peek, RS.put, RS.give, RS.take, RS.takes, RS.takeElems, RS.takeParts, RS.peeks, RS.peekO, RS.setVar, RS.noPk, RS.settle, RS.alloc, callOut, LVal.arg, LVal.isAgg, LVal.cells, LVal.unpk, LVal.copy, LVal.down, LVal.plain, LVal.settled, binL, binInt, binStr, unL, resL, resOne, res1, resAll, LVal.isTup, outL, LOp.quiet, LOp.acts, LOp.peeks, LOper.fix, calmOk, loadCalm, awayOk, dstFree, LVal.free, LVal.calm, LVal.calm1, LOp.opds, optL, RS.acquire, appendL, elemsL, bound, inRange, intL, loadL, storeL, setElems, setParts, fitsElem, lenL, isNilL, partL, chunks, e0, e5, e7]
    rw [c1]
    simp [runFun, LMode.isPure, LVal.pfs, LVal.pf, Go.L.initVars, codeW_seq, codeW_region, codeW_regionD, codeW_cond, codeW_ret, codeW_skip, codeW_exit, codeW_block, codeW_fence, thenW, outW, fenceOut, kill, LVal.withins, LVal.within, runOps, runOpsD, Go.L.step, stepD, semD, sem, RS.peek, RS.put, RS.give, RS.take, RS.takes, RS.takeElems, RS.takeParts, RS.peeks, RS.peekO, RS.setVar, RS.noPk, RS.settle, RS.alloc, callOut, LVal.arg, LVal.isAgg, LVal.cells, LVal.unpk, LVal.copy, LVal.down, LVal.plain, LVal.settled, binL, binInt, binStr, unL, resL, resOne, res1, resAll, LVal.isTup, outL, LOp.quiet, LOp.acts, LOp.peeks, LOper.fix, calmOk, loadCalm, awayOk, dstFree, LVal.free, LVal.calm, LVal.calm1, LOp.opds, optL, RS.acquire, appendL, elemsL, bound, inRange, intL, loadL, storeL, setElems, setParts, fitsElem, lenL, isNilL, partL, chunks, g0, k29, e7]
end Go.Proofs.Ytbljgbojkifoiaa
end
