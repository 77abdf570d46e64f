/- SetsOrders: the plain law. -/
import Derived.Test.YtbljgbojkifoiaaWC
section
set_option linter.unusedVariables false
set_option linter.unusedSimpArgs false
namespace Go.Proofs.Ytbljgbojkifoiaa
open Go Go.L

/-- Each of a list, twice. -/
def dbl : List StateS → List StateS
  | [] => []
  | x :: r => x :: x :: dbl r
theorem dbl_append : ∀ (l m : List StateS), dbl (l ++ m) = dbl l ++ dbl m
  | [], m => rfl
  | x :: l, m => by simp [dbl, dbl_append l m]
theorem dbl_len : ∀ (l : List StateS), (dbl l).length = 2 * l.length
  | [] => rfl
  | x :: l => by simp [dbl, dbl_len l]; omega
theorem dbl_mem {x : StateS} : ∀ {l : List StateS}, x ∈ dbl l ↔ x ∈ l
  | [] => by simp [dbl]
  | y :: l => by simp [dbl, dbl_mem (l := l)]
theorem setS_iff {l : List StateS} {k : List UInt8} : k ∈ (setS l).map keyB ↔ ∃ x ∈ l, keyB x = k := by rw [setS_mem_iff]; simp
/-- A list in order, and a set with the same members. -/
theorem same_of {a l : List StateS} (ha : SS (a.map keyB)) (h : ∀ k, k ∈ a.map keyB ↔ k ∈ l.map keyB) : sameS a (setS l) = true := by
  simp only [sameS, beq_iff_eq]
  exact SS.eq ha (setS_SS _) fun k => by rw [setS_mem_iff]; exact h k
theorem same_turned (l : List StateS) : sameS (setS l) (setS (dbl l.reverse)) = true :=
  same_of (setS_SS _) fun k => by rw [setS_mem_iff]; simp [dbl_mem]
theorem same_swap (a b : List StateS) : sameS (setS (a ++ b)) (setS (b ++ a)) = true :=
  same_of (setS_SS _) fun k => by rw [setS_mem_iff]; simp [Or.comm]
theorem same_self {a : List StateS} (h : SS (a.map keyB)) : sameS a (setS (a ++ a)) = true :=
  same_of h fun k => by simp
theorem same_nil {a : List StateS} (h : SS (a.map keyB)) : sameS a (setS (a ++ [])) = true :=
  same_of h fun k => by simp
theorem isS_setS (l : List StateS) : isS (setS l) = true := isS_iff.2 (setS_SS l)
theorem hasS_mem {l : List StateS} {s : StateS} (h : s ∈ l) : hasS l s = true := by
  simp only [hasS, List.any_eq_true, beq_iff_eq]
  exact ⟨s, h, rfl⟩
theorem has_first {l : List StateS} {s : StateS} (h : s ∈ l) : hasS (setS l) s = true := by rw [hasS_set]; exact hasS_mem h
theorem has_both {l m : List StateS} {s : StateS} (h : s ∈ l) : hasS (setS (setS l ++ setS m)) s = true := by
  rw [hasS_set, hasS_append, hasS_set, hasS_mem h]; rfl
/-- Lists in order: the one whose members the other has is no longer. -/
theorem SS.len_le : ∀ {a b : List (List UInt8)}, SS a → SS b → (∀ x, x ∈ a → x ∈ b) → a.length ≤ b.length
  | [], b, _, _, _ => by simp
  | x :: a, [], _, _, h => absurd (h x (List.mem_cons_self ..)) (by simp)
  | x :: a, y :: b, ha, hb, h => by
    obtain ⟨a1, a2⟩ := List.pairwise_cons.1 ha
    obtain ⟨b1, b2⟩ := List.pairwise_cons.1 hb
    have : a.length ≤ b.length := by
      refine SS.len_le a2 b2 fun z hz => ?_
      rcases List.mem_cons.1 (h z (List.mem_cons_of_mem _ hz)) with h1 | h1
      · -- then x, which is below z, is below y
        rcases List.mem_cons.1 (h x (List.mem_cons_self ..)) with h2 | h2
        · exact absurd (h2.trans h1.symm) (lt_ne (a1 z hz))
        · exact absurd (List.lt_trans (b1 x h2) (h1 ▸ a1 z hz)) (List.lt_irrefl _)
      · exact h1
    simp only [List.length_cons]
    omega
theorem len_first (l m : List StateS) : (setS l).length ≤ (setS (setS l ++ setS m)).length := by
  have := SS.len_le (setS_SS l) (setS_SS (setS l ++ setS m)) (fun x hx => by
    rw [setS_mem_iff]; simp only [List.map_append, List.mem_append]; exact .inl hx)
  simpa using this
theorem len_both (l m : List StateS) : (setS (setS l ++ setS m)).length ≤ (setS l).length + (setS m).length := by
  have := setS_len (setS l ++ setS m)
  simpa using this

/-- What is asked of a list that may be handed on, however it lies. -/
theorem Hd.fx {v : LVal} {b : Bool} {n : Nat} {l : List StateS} (h : Hd v b n l) :
    v.copy = some v ∧ v.isOwn = false ∧ v.arg = .vs b .sh n (statesL l) ∧ v.pf = true ∧ v.unpk = v ∧ v.stay = v ∧ v.down = v ∧ (∀ k, v.within k = true) ∧ (∀ st, lenL 1 st v = some l.length) := by
  rcases h with rfl | rfl
  · exact ⟨rfl, rfl, rfl, rfl, rfl, rfl, rfl, fun _ => rfl, fun st => by simp only [lenL, statesL_len]⟩
  · exact ⟨rfl, rfl, rfl, rfl, rfl, rfl, rfl, fun _ => rfl, fun st => by simp only [lenL, statesL_len]⟩
end Go.Proofs.Ytbljgbojkifoiaa
end
section
set_option linter.unusedVariables false
set_option linter.unusedSimpArgs false
namespace Go.Proofs.Ytbljgbojkifoiaa
open Go Go.L

theorem fn6 : D.T.fns 6 = some (.fn D.l6) := rfl
/-- What was put together, one of one's own. -/
def AccT (v : LVal) (l : List StateS) : Prop := (l = [] ∧ v = .vs true .sh 0 []) ∨ (l ≠ [] ∧ v = .vs false (.own 31 false) 31 (statesL l))

abbrev W60 (b0 b1 : Bool) (l m : List StateS) (v2 v3 : LVal) (i : Int) (v9 v10 : LVal) : RS :=
  { vars := [.vs b0 .sh 31 (statesL l), .vs b1 .sh 31 (statesL m), v2, v3, .int .i64 i, .undef, .undef, .undef, .undef, v9, v10, .undef, .undef], st := [], rs := [] }

set_option maxHeartbeats 40000000 in
theorem loop60 (b0 b1 : Bool) (l m : List StateS) (hl1 : ∀ x ∈ l, x.ok ∧ x.few) (hl : l.length ≤ 40) : ∀ (j : Nat) (i : Int) (acc : List StateS) (v2 v3 v9 v10 : LVal), i = (j : Int) - 1 →
    v2.isOwn = false → v9.isOwn = false → v10.isOwn = false → j ≤ l.length → AccT v3 acc → acc.length + 2 * j ≤ 100 →
    ∃ (v3' : LVal) (w : Nat → LVal), AccT v3' (acc ++ dbl (l.take j).reverse) ∧ codeW D.T (.loop D.b6_0) (W60 b0 b1 l m v2 v3 i v9 v10) =
      some (.exit 0, { vars := [.vs b0 .sh 31 (statesL l), .vs b1 .sh 31 (statesL m), w 2, v3', w 4, .undef, .undef, .undef, .undef, w 9, w 10, .undef, .undef], st := [], rs := [] })
  | 0, i, acc, v2, v3, v9, v10, hi, o2, o9, o10, hj, hA, hlen => by
    subst hi
    refine ⟨v3, fun k => ([.undef, .undef, v2, .undef, .int .i64 (((0 : Nat) : Int) - 1), .undef, .undef, .undef, .undef, v9, .bool false] : List LVal).getD k .undef, ?_, ?_⟩
    · simpa [dbl] using hA
    · rw [codeW_loop]
      simp [D.b6_0, runFun, LMode.isPure, LVal.pfs, LVal.pf, Go.L.initVars, codeW_seq, codeW_region, codeW_regionD, codeW_cond, codeW_ret, codeW_skip, codeW_exit, codeW_block, codeW_fence, thenW, outW, fenceOut, kill, LVal.withins, LVal.within, runOps, runOpsD, Go.L.step, stepD, semD, sem, RS.peek, RS.put, RS.give, RS.take, RS.takes, RS.takeElems, RS.takeParts, RS.peeks, RS.peekO, RS.setVar, RS.noPk, RS.settle, RS.alloc, callOut, LVal.arg, LVal.isAgg, LVal.cells, LVal.unpk, LVal.copy, LVal.down, LVal.plain, LVal.settled, binL, binInt, binStr, unL, resL, resOne, res1, resAll, LVal.isTup, outL, LOp.quiet, LOp.acts, LOp.peeks, LOper.fix, calmOk, loadCalm, awayOk, dstFree, LVal.free, LVal.calm, LVal.calm1, LOp.opds, optL, RS.acquire, appendL, elemsL, bound, inRange, intL, loadL, storeL, setElems, setParts, fitsElem, lenL, isNilL, partL, chunks, o2, o9, o10]
  | j + 1, i, acc, v2, v3, v9, v10, hi, o2, o9, o10, hj, hA, hlen => by
    have hi' : i = (j : Int) := by omega
    subst hi'
    have hjl : j < l.length := by omega
    obtain ⟨x, hx⟩ : ∃ x, l[j]? = some x := ⟨_, List.getElem?_eq_getElem hjl⟩
    have htake : l.take (j + 1) = l.take j ++ [x] := by
      rw [List.take_add_one, hx]; rfl
    have e0 : 0 ≤ (j : Int) ∧ (j : Int) < (l.length : Int) := by omega
    have e2 : 0 ≤ (j : Int) := by omega
    have e3 : IntKind.i64.wrap ((j : Int) - 1) = (j : Int) - 1 := wi64 (by omega) (by omega)
    have e5 : (statesL l).length = l.length := statesL_len l
    have e5' : (statesL acc).length = acc.length := statesL_len acc
    have e6 : (statesL l)[j]? = some (.agg x.cells) := by rw [statesL_get, hx]; rfl
    have hxo := hl1 x (List.mem_of_getElem? hx)
    have e7 : ∀ l : List StateS, LVal.pfs (statesL l) = true := statesL_pfs
    have e7' : ∀ (n : Nat) (l : List StateS), LVal.withins n (statesL l) = true := fun n l => statesL_within n l
    have e8 : ∀ (n : Nat) (s : StateS), LVal.withins n s.cells = true := fun n s => cells_within n
    have lx : x.lies := ⟨hxo.1.2.2.2.2.2.2.1, hxo.1.2.2.2.2.2.2.2⟩
    obtain ⟨fx1, fx2, fx3⟩ := fits_state lx
    have fs4 := cells_own lx
    have fs5 := cells_down lx
    have fs6 := cells_stay lx
    have fs7 := cells_settled lx
    have fs8 : ∀ x_1, x_1 ∈ x.cells → x_1.plain = true ∨ x_1.isOwn = true := fun _ h => .inl (fx3 _ h)
    have ft : List.take 31 x.cells = x.cells := rfl
    obtain ⟨m1, m2, m3, m4⟩ : (acc.length + 2) * 256 ≤ maxBytes ∧ acc.length + 2 ≤ maxBytes ∧ 2 * 256 ≤ maxBytes ∧ 2 ≤ maxBytes := ⟨mb (by omega), mb (by omega), mb (by omega), mb (by omega)⟩
    have m3' : 512 ≤ maxBytes := m3
    have hacc' : AccT (.vs false (.own 31 false) 31 (statesL (acc ++ [x, x]))) (acc ++ [x, x]) := .inr ⟨by simp, rfl⟩
    obtain ⟨v3', w, k1, IH⟩ := loop60 b0 b1 l m hl1 hl j ((j : Int) - 1) (acc ++ [x, x]) .undef (.vs false (.own 31 false) 31 (statesL (acc ++ [x, x]))) .undef .undef rfl rfl rfl rfl (by omega) hacc' (by simp; clear m1 m2 m3 m4 m3'; omega)
    refine ⟨v3', w, ?_, ?_⟩
    · rw [htake]
      simp only [List.reverse_append, List.reverse_cons, List.reverse_nil, List.nil_append, dbl_append, dbl] at k1 ⊢
      simpa using k1
    · have hst : statesL (acc ++ [x, x]) = statesL acc ++ [.agg x.cells, .agg x.cells] := by rw [statesL_append]; rfl
      rw [hst] at IH
      rw [codeW_loop]
      generalize hK : thenW (codeW D.T (.loop D.b6_0)) = K
      rcases hA with ⟨rfl, rfl⟩ | ⟨h1, rfl⟩
      · have h0 : statesL [] = [] := rfl
        rw [h0] at IH
        simp only [List.nil_append] at IH
        simp [D.b6_0, runFun, LMode.isPure, LVal.pfs, LVal.pf, Go.L.initVars, codeW_seq, codeW_region, codeW_regionD, codeW_cond, codeW_ret, codeW_skip, codeW_exit, codeW_block, codeW_fence, thenW, outW, fenceOut, kill, LVal.withins, LVal.within, runOps, runOpsD, Go.L.step, stepD, semD, sem, RS.peek, RS.put, RS.give, RS.take, RS.takes, RS.takeElems, RS.takeParts, RS.peeks, RS.peekO, RS.setVar, RS.noPk, RS.settle, RS.alloc, callOut, LVal.arg, LVal.isAgg, LVal.cells, LVal.unpk, LVal.copy, LVal.down, binL, binInt, binStr, unL, resL, resOne, res1, resAll, LVal.isTup, outL, LOp.quiet, LOp.acts, LOp.peeks, LOper.fix, calmOk, loadCalm, awayOk, dstFree, LVal.free, LVal.calm, LVal.calm1, LOp.opds, optL, RS.acquire, appendL, elemsL, bound, inRange, intL, loadL, storeL, setElems, setParts, fitsElem, lenL, isNilL, partL, chunks, o2, o9, o10, e0, e2, e3, e5, e6, e7, e7', e8, fx1, fx2, eq_true fx3, eq_true fs7, eq_true fs8, fs4, fs5, fs6, ft, m3, m3', m4]
        subst hK
        exact IH
      · simp [D.b6_0, runFun, LMode.isPure, LVal.pfs, LVal.pf, Go.L.initVars, codeW_seq, codeW_region, codeW_regionD, codeW_cond, codeW_ret, codeW_skip, codeW_exit, codeW_block, codeW_fence, thenW, outW, fenceOut, kill, LVal.withins, LVal.within, runOps, runOpsD, Go.L.step, stepD, semD, sem, RS.peek, RS.put, RS.give, RS.take, RS.takes, RS.takeElems, RS.takeParts, RS.peeks, RS.peekO, RS.setVar, RS.noPk, RS.settle, RS.alloc, callOut, LVal.arg, LVal.isAgg, LVal.cells, LVal.unpk, LVal.copy, LVal.down, binL, binInt, binStr, unL, resL, resOne, res1, resAll, LVal.isTup, outL, LOp.quiet, LOp.acts, LOp.peeks, LOper.fix, calmOk, loadCalm, awayOk, dstFree, LVal.free, LVal.calm, LVal.calm1, LOp.opds, optL, RS.acquire, appendL, elemsL, bound, inRange, intL, loadL, storeL, setElems, setParts, fitsElem, lenL, isNilL, partL, chunks, o2, o9, o10, e0, e2, e3, e5, e5', e6, e7, e7', e8, fx1, fx2, eq_true fx3, eq_true fs7, eq_true fs8, fs4, fs5, fs6, ft, m1, m2]
        subst hK
        exact IH
end Go.Proofs.Ytbljgbojkifoiaa
end
section
set_option linter.unusedVariables false
set_option linter.unusedSimpArgs false
namespace Go.Proofs.Ytbljgbojkifoiaa
open Go Go.L

abbrev W62 (b0 : Bool) (l : List StateS) (v1 v2 v3 v4 va vb vx : LVal) (i : Int) (v9 v10 v11 v12 : LVal) : RS :=
  { vars := [.vs b0 .sh 31 (statesL l), v1, v2, v3, v4, va, vb, vx, .int .i64 i, v9, v10, v11, v12], st := [], rs := [] }

set_option maxHeartbeats 40000000 in
theorem loop62 (b0 : Bool) (l : List StateS) (hl1 : ∀ x ∈ l, x.ok ∧ x.few) (hl : l.length ≤ 40) (va vb vx v3 : LVal) (ba bb bx : Bool) (na nb nx : Nat) (A B X : List StateS) (ha : Hd va ba na A) (hb : Hd vb bb nb B) (hx : Hd vx bx nx X)
    (w3 : ∀ k, v3.within k = true)
    (kA : ∀ x ∈ l, callW D.T 18 [.vs ba .sh na (statesL A), .agg x.cells] [] = some (.bool true, none)) (kX : ∀ x ∈ l, callW D.T 18 [.vs bx .sh nx (statesL X), .agg x.cells] [] = some (.bool true, none)) :
    ∀ (j i : Nat) (v1 v2 v4 v9 v10 v11 v12 : LVal), v11.isOwn = false → v12.isOwn = false → i + j = l.length →
    ∃ (w : Nat → LVal), codeW D.T (.loop D.b6_2) (W62 b0 l v1 v2 v3 v4 va vb vx i v9 v10 v11 v12) =
      some (.exit 2, { vars := [w 0, w 1, w 2, v3, w 4, va, vb, vx, w 8, w 9, w 10, w 11, w 12], st := [], rs := [] })
  | 0, i, v1, v2, v4, v9, v10, v11, v12, o11, o12, hij => by
    have hi : i = l.length := by omega
    subst hi
    have e5 : (statesL l).length = l.length := statesL_len l
    refine ⟨fun k => ([.vs b0 .sh 31 (statesL l), v1, v2, .undef, v4, .undef, .undef, .undef, .int .i64 l.length, v9, v10, .bool false, v12] : List LVal).getD k .undef, ?_⟩
    rw [codeW_loop]
    rcases ha with rfl | rfl <;> rcases hb with rfl | rfl <;> rcases hx with rfl | rfl <;> simp [D.b6_2, runFun, LMode.isPure, LVal.pfs, LVal.pf, Go.L.initVars, codeW_seq, codeW_region, codeW_regionD, codeW_cond, codeW_ret, codeW_skip, codeW_exit, codeW_block, codeW_fence, thenW, outW, fenceOut, kill, LVal.withins, LVal.within, runOps, runOpsD, Go.L.step, stepD, semD, sem, RS.peek, RS.put, RS.give, RS.take, RS.takes, RS.takeElems, RS.takeParts, RS.peeks, RS.peekO, RS.setVar, RS.noPk, RS.settle, RS.alloc, callOut, LVal.arg, LVal.isAgg, LVal.cells, LVal.unpk, LVal.copy, LVal.down, LVal.plain, LVal.settled, binL, binInt, binStr, unL, resL, resOne, res1, resAll, LVal.isTup, outL, LOp.quiet, LOp.acts, LOp.peeks, LOper.fix, calmOk, loadCalm, awayOk, dstFree, LVal.free, LVal.calm, LVal.calm1, LOp.opds, optL, RS.acquire, appendL, elemsL, bound, inRange, intL, loadL, storeL, setElems, setParts, fitsElem, lenL, isNilL, partL, chunks, o11, o12, e5]
  | j + 1, i, v1, v2, v4, v9, v10, v11, v12, o11, o12, hij => by
    have hi : i < l.length := by omega
    obtain ⟨x, hx'⟩ : ∃ x, l[i]? = some x := ⟨_, List.getElem?_eq_getElem hi⟩
    have hmem := List.mem_of_getElem? hx'
    have e0 : 0 ≤ (i : Int) ∧ (i : Int) < (l.length : Int) := by omega
    have e2 : (i : Int) < (l.length : Int) := by omega
    have e3 : IntKind.i64.wrap ((i : Int) + 1) = (i : Int) + 1 := wi64 (by omega) (by omega)
    have e5 : (statesL l).length = l.length := statesL_len l
    have e6 : (statesL l)[i]? = some (.agg x.cells) := by rw [statesL_get, hx']; rfl
    have hxo := hl1 x hmem
    have e7 : ∀ l : List StateS, LVal.pfs (statesL l) = true := statesL_pfs
    have e7' : ∀ (n : Nat) (l : List StateS), LVal.withins n (statesL l) = true := fun n l => statesL_within n l
    have e8 : ∀ (n : Nat) (s : StateS), LVal.withins n s.cells = true := fun n s => cells_within n
    have lx : x.lies := ⟨hxo.1.2.2.2.2.2.2.1, hxo.1.2.2.2.2.2.2.2⟩
    obtain ⟨fx1, fx2, fx3⟩ := fits_state lx
    have k1 := kA x hmem
    have k2 := kX x hmem
    obtain ⟨w, IH⟩ := loop62 b0 l hl1 hl va vb vx v3 ba bb bx na nb nx A B X ha hb hx w3 kA kX j (i + 1) .undef .undef .undef .undef .undef .undef .undef rfl rfl (by omega)
    refine ⟨w, ?_⟩
    rw [codeW_loop]
    generalize hK : thenW (codeW D.T (.loop D.b6_2)) = K
    have hr : codeW D.T D.r6_1 (W62 b0 l v1 v2 v3 v4 va vb vx i v9 v10 (.bool true) v12) = some (.normal, W62 b0 l v1 v2 v3 v4 va vb vx i v9 v10 (.bool true) (.bool false)) := by
      unfold D.r6_1
      rcases ha with rfl | rfl <;> rcases hx with rfl | rfl
      all_goals
        apply regN
        simp only [List.replicate]
        repeat
          apply run_cons
          · first
              | (simp [runFun, LMode.isPure, LVal.pfs, LVal.pf, Go.L.initVars, codeW_seq, codeW_region, codeW_regionD, codeW_cond, codeW_ret, codeW_skip, codeW_exit, codeW_block, codeW_fence, thenW, outW, fenceOut, kill, LVal.withins, LVal.within, runOps, runOpsD, Go.L.step, stepD, semD, sem, RS.peek, RS.put, RS.give, RS.take, RS.takes, RS.takeElems, RS.takeParts, RS.peeks, RS.peekO, RS.setVar, RS.noPk, RS.settle, RS.alloc, callOut, LVal.arg, LVal.isAgg, LVal.cells, LVal.unpk, LVal.copy, LVal.down, LVal.plain, LVal.settled, binL, binInt, binStr, unL, resL, resOne, res1, resAll, LVal.isTup, outL, LOp.quiet, LOp.acts, LOp.peeks, LOper.fix, calmOk, loadCalm, awayOk, dstFree, LVal.free, LVal.calm, LVal.calm1, LOp.opds, optL, RS.acquire, appendL, elemsL, bound, inRange, intL, loadL, storeL, setElems, setParts, fitsElem, lenL, isNilL, partL, chunks, o12, e0, e5, e6, e7, fx1, fx2, e7, k1, k2]; done)
              | (simp [runFun, LMode.isPure, LVal.pfs, LVal.pf, Go.L.initVars, codeW_seq, codeW_region, codeW_regionD, codeW_cond, codeW_ret, codeW_skip, codeW_exit, codeW_block, codeW_fence, thenW, outW, fenceOut, kill, LVal.withins, LVal.within, runOps, runOpsD, Go.L.step, stepD, semD, sem, RS.peek, RS.put, RS.give, RS.take, RS.takes, RS.takeElems, RS.takeParts, RS.peeks, RS.peekO, RS.setVar, RS.noPk, RS.settle, RS.alloc, callOut, LVal.arg, LVal.isAgg, LVal.cells, LVal.unpk, LVal.copy, LVal.down, LVal.plain, LVal.settled, binL, binInt, binStr, unL, resL, resOne, res1, resAll, LVal.isTup, outL, LOp.quiet, LOp.acts, LOp.peeks, LOper.fix, calmOk, loadCalm, awayOk, dstFree, LVal.free, LVal.calm, LVal.calm1, LOp.opds, optL, RS.acquire, appendL, elemsL, bound, inRange, intL, loadL, storeL, setElems, setParts, fitsElem, lenL, isNilL, partL, chunks, o12, e0, e5, e6, e7, fx1, fx2, e7, k1, k2]; rfl)
        exact run_nil
    rcases ha with rfl | rfl <;> rcases hb with rfl | rfl <;> rcases hx with rfl | rfl
    all_goals
      simp [D.b6_2, runFun, LMode.isPure, LVal.pfs, LVal.pf, Go.L.initVars, codeW_seq, codeW_region, codeW_regionD, codeW_cond, codeW_ret, codeW_skip, codeW_exit, codeW_block, codeW_fence, thenW, outW, fenceOut, kill, LVal.withins, LVal.within, runOps, runOpsD, Go.L.step, stepD, semD, sem, RS.peek, RS.put, RS.give, RS.take, RS.takes, RS.takeElems, RS.takeParts, RS.peeks, RS.peekO, RS.setVar, RS.noPk, RS.settle, RS.alloc, callOut, LVal.arg, LVal.isAgg, LVal.cells, LVal.unpk, LVal.copy, LVal.down, LVal.plain, LVal.settled, binL, binInt, binStr, unL, resL, resOne, res1, resAll, LVal.isTup, outL, LOp.quiet, LOp.acts, LOp.peeks, LOper.fix, calmOk, loadCalm, awayOk, dstFree, LVal.free, LVal.calm, LVal.calm1, LOp.opds, optL, RS.acquire, appendL, elemsL, bound, inRange, intL, loadL, storeL, setElems, setParts, fitsElem, lenL, isNilL, partL, chunks, o11, o12, e0, e2, e3, e5, e7', e8, w3]
      rw [hr]
      simp [runFun, LMode.isPure, LVal.pfs, LVal.pf, Go.L.initVars, codeW_seq, codeW_region, codeW_regionD, codeW_cond, codeW_ret, codeW_skip, codeW_exit, codeW_block, codeW_fence, thenW, outW, fenceOut, kill, LVal.withins, LVal.within, runOps, runOpsD, Go.L.step, stepD, semD, sem, RS.peek, RS.put, RS.give, RS.take, RS.takes, RS.takeElems, RS.takeParts, RS.peeks, RS.peekO, RS.setVar, RS.noPk, RS.settle, RS.alloc, callOut, LVal.arg, LVal.isAgg, LVal.cells, LVal.unpk, LVal.copy, LVal.down, LVal.plain, LVal.settled, binL, binInt, binStr, unL, resL, resOne, res1, resAll, LVal.isTup, outL, LOp.quiet, LOp.acts, LOp.peeks, LOper.fix, calmOk, loadCalm, awayOk, dstFree, LVal.free, LVal.calm, LVal.calm1, LOp.opds, optL, RS.acquire, appendL, elemsL, bound, inRange, intL, loadL, storeL, setElems, setParts, fitsElem, lenL, isNilL, partL, chunks, o11, o12, e0, e2, e3, e5, e7', e8, w3]
      subst hK
      exact IH
end Go.Proofs.Ytbljgbojkifoiaa
end
section
set_option linter.unusedVariables false
set_option linter.unusedSimpArgs false
namespace Go.Proofs.Ytbljgbojkifoiaa
open Go Go.L

/-- Of single values, as no list has to be taken apart. -/
theorem cp_bool {b : Bool} : LVal.copy (.bool b) = some (.bool b) := rfl
theorem cp_int {k : IntKind} {n : Int} : LVal.copy (.int k n) = some (.int k n) := rfl
theorem up_bool {b : Bool} : LVal.unpk (.bool b) = .bool b := rfl
theorem cp_own {b e : Bool} {n : Nat} {xs : List LVal} : LVal.copy (.vs b (.own 31 e) n xs) = some (.vs b .sh n xs) := rfl
theorem cp_sh {b : Bool} {n : Nat} {xs : List LVal} : LVal.copy (.vs b .sh n xs) = some (.vs b .sh n xs) := rfl
theorem ar_sh {b : Bool} {n : Nat} {xs : List LVal} : LVal.arg (.vs b .sh n xs) = .vs b .sh n xs := rfl
theorem pf_sh {b : Bool} {n : Nat} {xs : List LVal} : LVal.pf (.vs b .sh n xs) = true := rfl

abbrev V63 (v2 v3 va vb vx : LVal) : List LVal := [.undef, .undef, v2, v3, .undef, va, vb, vx, .undef, .undef, .undef, .undef, .undef]

set_option maxHeartbeats 40000000 in
theorem r63b (va vb vx v3 : LVal) (ba bb bx bT : Bool) (na nb nx nT : Nat) (A B X T : List StateS) (ha : Hd va ba na A) (hb : Hd vb bb nb B) (hx : Hd vx bx nx X) (w3 : ∀ k, v3.within k = true)
    (u2 u3 u4 : LVal) (c2 c3 c4 : Bool) (n2 n3 n4 : Nat) (L2 L3 L4 : List StateS) (h2 : Hd u2 c2 n2 L2) (h3 : Hd u3 c3 n3 L3) (h4 : Hd u4 c4 n4 L4)
    (k2 : callW D.T 17 [.vs bb .sh nb (statesL B), .vs ba .sh na (statesL A)] [] = some (u2, none)) (k3 : callW D.T 17 [.vs ba .sh na (statesL A), .vs ba .sh na (statesL A)] [] = some (u3, none)) (k4 : callW D.T 17 [.vs ba .sh na (statesL A), .vs true .sh 0 []] [] = some (u4, none))
    (q2 : callW D.T 14 [.vs bx .sh nx (statesL X), .vs c2 .sh n2 (statesL L2)] [] = some (.bool true, none)) (q3 : callW D.T 14 [.vs ba .sh na (statesL A), .vs c3 .sh n3 (statesL L3)] [] = some (.bool true, none))
    (q4 : callW D.T 14 [.vs ba .sh na (statesL A), .vs c4 .sh n4 (statesL L4)] [] = some (.bool true, none)) (q5 : callW D.T 16 [.vs bx .sh nx (statesL X)] [] = some (.bool true, none))
    (hAX : A.length ≤ X.length) (hXB : X.length ≤ A.length + B.length) (hlt : A.length + B.length ≤ 100000) (r0 r1 r2 : LVal) :
    Fin (V63 (.bool true) v3 va vb vx) [] (runOps (callW D.T) D.T.im D.T.impl ((opsOf D.r6_3).drop 4) { vars := V63 .undef v3 va vb vx, st := [], rs := [r0, r1, r2, .bool true, .undef, .undef, .undef, .undef, .undef, .undef, .undef, .undef, .undef, .undef, .undef, .undef, .undef, .undef, .undef, .undef, .undef, .undef, .undef, .undef, .undef, .undef, .undef, .undef, .undef, .undef, .undef, .undef, .undef, .undef, .undef, .undef, .undef, .undef, .undef, .undef, .undef, .undef, .undef, .undef, .undef, .undef] }) := by
  obtain ⟨a1, a2, a3, a4, a5, a6, a7, a8, a9⟩ := ha.fx
  obtain ⟨b1, b2, b3, b4, b5, b6, b7, b8, b9⟩ := hb.fx
  obtain ⟨x1, x2, x3, x4, x5, x6, x7, x8, x9⟩ := hx.fx
  obtain ⟨s1, s2, s3, s4, -, -, -, -, -⟩ := h2.fx
  obtain ⟨t1, t2, t3, t4, -, -, -, -, -⟩ := h3.fx
  obtain ⟨z1, z2, z3, z4, -, -, -, -, -⟩ := h4.fx
  have hc : IntKind.i64.wrap ((A.length : Int) + (B.length : Int)) = (A.length : Int) + (B.length : Int) := wi64 (by omega) (by omega)
  have hAX' : (A.length : Int) ≤ (X.length : Int) := by omega
  have hXB' : (X.length : Int) ≤ (A.length : Int) + (B.length : Int) := by omega
  simp only [opsOf, D.r6_3, List.drop_succ_cons, List.drop_zero]
  repeat
    apply finN_cons
    · first
        | exact step_peek ha rfl rfl
        | exact step_peek hb rfl rfl
        | exact step_peek hx rfl rfl
        | (simp [runFun, LMode.isPure, LVal.pfs, Go.L.initVars, codeW_seq, codeW_region, codeW_regionD, codeW_cond, codeW_ret, codeW_skip, codeW_exit, codeW_block, codeW_fence, thenW, outW, fenceOut, kill, LVal.withins, runOps, runOpsD, Go.L.step, stepD, semD, sem, RS.peek, RS.put, RS.give, RS.take, RS.takes, RS.takeElems, RS.takeParts, RS.peeks, RS.peekO, RS.setVar, RS.noPk, RS.settle, RS.alloc, callOut, LVal.isAgg, LVal.cells, LVal.plain, LVal.settled, binL, binInt, binStr, unL, resL, resOne, res1, resAll, LVal.isTup, outL, LOp.quiet, LOp.acts, LOp.peeks, LOper.fix, calmOk, loadCalm, awayOk, dstFree, LVal.free, LVal.calm, LVal.calm1, LOp.opds, optL, RS.acquire, appendL, elemsL, bound, inRange, intL, loadL, storeL, setElems, setParts, fitsElem, isNilL, partL, chunks, cp_bool, cp_int, up_bool, cp_own, cp_sh, ar_sh, pf_sh, a1, a2, a3, a4, a9, b1, b2, b3, b4, b9, x1, x2, x3, x4, x9, s1, s2, s3, s4, t1, t2, t3, t4, z1, z2, z3, z4, k2, k3, k4, q2, q3, q4, q5, hc, hAX, hXB, hAX', hXB']; done)
        | (simp [runFun, LMode.isPure, LVal.pfs, Go.L.initVars, codeW_seq, codeW_region, codeW_regionD, codeW_cond, codeW_ret, codeW_skip, codeW_exit, codeW_block, codeW_fence, thenW, outW, fenceOut, kill, LVal.withins, runOps, runOpsD, Go.L.step, stepD, semD, sem, RS.peek, RS.put, RS.give, RS.take, RS.takes, RS.takeElems, RS.takeParts, RS.peeks, RS.peekO, RS.setVar, RS.noPk, RS.settle, RS.alloc, callOut, LVal.isAgg, LVal.cells, LVal.plain, LVal.settled, binL, binInt, binStr, unL, resL, resOne, res1, resAll, LVal.isTup, outL, LOp.quiet, LOp.acts, LOp.peeks, LOper.fix, calmOk, loadCalm, awayOk, dstFree, LVal.free, LVal.calm, LVal.calm1, LOp.opds, optL, RS.acquire, appendL, elemsL, bound, inRange, intL, loadL, storeL, setElems, setParts, fitsElem, isNilL, partL, chunks, cp_bool, cp_int, up_bool, cp_own, cp_sh, ar_sh, pf_sh, a1, a2, a3, a4, a9, b1, b2, b3, b4, b9, x1, x2, x3, x4, x9, s1, s2, s3, s4, t1, t2, t3, t4, z1, z2, z3, z4, k2, k3, k4, q2, q3, q4, q5, hc, hAX, hXB, hAX', hXB']; rfl)
  exact finN_nil

set_option maxHeartbeats 40000000 in
theorem r63 (va vb vx v3 : LVal) (ba bb bx : Bool) (na nb nx : Nat) (A B X T : List StateS) (ha : Hd va ba na A) (hb : Hd vb bb nb B) (hx : Hd vx bx nx X) (h3' : AccT v3 T)
    (u1 u2 u3 u4 : LVal) (c1 c2 c3 c4 : Bool) (n1 n2 n3 n4 : Nat) (L1 L2 L3 L4 : List StateS) (h1 : Hd u1 c1 n1 L1) (h2 : Hd u2 c2 n2 L2) (h3 : Hd u3 c3 n3 L3) (h4 : Hd u4 c4 n4 L4)
    (k1 : ∀ b n, (T = [] ∨ n = 31) → callW D.T 15 [.vs b .sh n (statesL T)] [] = some (u1, none) ∨ ¬ (b = decide (T = []) ∧ n = if T = [] then 0 else 31))
    (k2 : callW D.T 17 [.vs bb .sh nb (statesL B), .vs ba .sh na (statesL A)] [] = some (u2, none)) (k3 : callW D.T 17 [.vs ba .sh na (statesL A), .vs ba .sh na (statesL A)] [] = some (u3, none)) (k4 : callW D.T 17 [.vs ba .sh na (statesL A), .vs true .sh 0 []] [] = some (u4, none))
    (q1 : callW D.T 14 [.vs ba .sh na (statesL A), .vs c1 .sh n1 (statesL L1)] [] = some (.bool true, none))
    (q2 : callW D.T 14 [.vs bx .sh nx (statesL X), .vs c2 .sh n2 (statesL L2)] [] = some (.bool true, none)) (q3 : callW D.T 14 [.vs ba .sh na (statesL A), .vs c3 .sh n3 (statesL L3)] [] = some (.bool true, none))
    (q4 : callW D.T 14 [.vs ba .sh na (statesL A), .vs c4 .sh n4 (statesL L4)] [] = some (.bool true, none)) (q5 : callW D.T 16 [.vs bx .sh nx (statesL X)] [] = some (.bool true, none))
    (hAX : A.length ≤ X.length) (hXB : X.length ≤ A.length + B.length) (hlt : A.length + B.length ≤ 100000) :
    codeW D.T D.r6_3 { vars := V63 .undef v3 va vb vx, st := [], rs := [] } = some (.normal, { vars := V63 (.bool true) v3 va vb vx, st := [], rs := [] }) := by
  obtain ⟨a1, a2, a3, a4, a5, a6, a7, a8, a9⟩ := ha.fx
  obtain ⟨s1, s2, s3, s4, -, -, -, -, -⟩ := h1.fx
  have e7 : ∀ l : List StateS, LVal.pfs (statesL l) = true := statesL_pfs
  have hr : D.r6_3 = .region 46 (opsOf D.r6_3) false := rfl
  have hF : Fin (V63 (.bool true) v3 va vb vx) [] (runOps (callW D.T) D.T.im D.T.impl (opsOf D.r6_3) { vars := V63 .undef v3 va vb vx, st := [], rs := List.replicate 46 .undef }) := by
    simp only [opsOf, D.r6_3, List.replicate]
    rcases h3' with ⟨hT, rfl⟩ | ⟨hT, rfl⟩
    · have k1' : callW D.T 15 [.vs true .sh 0 []] [] = some (u1, none) := by
        subst hT
        rcases k1 true 0 (.inl rfl) with h | h
        · exact h
        · exact absurd ⟨rfl, rfl⟩ h
      iterate 4
        apply finN_cons
        · first
            | (simp [runFun, LMode.isPure, LVal.pfs, Go.L.initVars, codeW_seq, codeW_region, codeW_regionD, codeW_cond, codeW_ret, codeW_skip, codeW_exit, codeW_block, codeW_fence, thenW, outW, fenceOut, kill, LVal.withins, runOps, runOpsD, Go.L.step, stepD, semD, sem, RS.peek, RS.put, RS.give, RS.take, RS.takes, RS.takeElems, RS.takeParts, RS.peeks, RS.peekO, RS.setVar, RS.noPk, RS.settle, RS.alloc, callOut, LVal.isAgg, LVal.cells, LVal.plain, LVal.settled, binL, binInt, binStr, unL, resL, resOne, res1, resAll, LVal.isTup, outL, LOp.quiet, LOp.acts, LOp.peeks, LOper.fix, calmOk, loadCalm, awayOk, dstFree, LVal.free, LVal.calm, LVal.calm1, LOp.opds, optL, RS.acquire, appendL, elemsL, bound, inRange, intL, loadL, storeL, setElems, setParts, fitsElem, isNilL, partL, chunks, cp_bool, cp_int, up_bool, cp_own, cp_sh, ar_sh, pf_sh, e7, a1, a2, a3, a4, s1, s2, s3, s4, k1', q1]; done)
            | (simp [runFun, LMode.isPure, LVal.pfs, Go.L.initVars, codeW_seq, codeW_region, codeW_regionD, codeW_cond, codeW_ret, codeW_skip, codeW_exit, codeW_block, codeW_fence, thenW, outW, fenceOut, kill, LVal.withins, runOps, runOpsD, Go.L.step, stepD, semD, sem, RS.peek, RS.put, RS.give, RS.take, RS.takes, RS.takeElems, RS.takeParts, RS.peeks, RS.peekO, RS.setVar, RS.noPk, RS.settle, RS.alloc, callOut, LVal.isAgg, LVal.cells, LVal.plain, LVal.settled, binL, binInt, binStr, unL, resL, resOne, res1, resAll, LVal.isTup, outL, LOp.quiet, LOp.acts, LOp.peeks, LOper.fix, calmOk, loadCalm, awayOk, dstFree, LVal.free, LVal.calm, LVal.calm1, LOp.opds, optL, RS.acquire, appendL, elemsL, bound, inRange, intL, loadL, storeL, setElems, setParts, fitsElem, isNilL, partL, chunks, cp_bool, cp_int, up_bool, cp_own, cp_sh, ar_sh, pf_sh, e7, a1, a2, a3, a4, s1, s2, s3, s4, k1', q1]; rfl)
      exact r63b va vb vx _ ba bb bx ba na nb nx na A B X T ha hb hx (fun _ => rfl) u2 u3 u4 c2 c3 c4 n2 n3 n4 L2 L3 L4 h2 h3 h4 k2 k3 k4 q2 q3 q4 q5 hAX hXB hlt _ _ _
    · have k1' : callW D.T 15 [.vs false .sh 31 (statesL T)] [] = some (u1, none) := by
        rcases k1 false 31 (.inr rfl) with h | h
        · exact h
        · exact absurd ⟨by simp [hT], by simp [hT]⟩ h
      iterate 4
        apply finN_cons
        · first
            | (simp [runFun, LMode.isPure, LVal.pfs, Go.L.initVars, codeW_seq, codeW_region, codeW_regionD, codeW_cond, codeW_ret, codeW_skip, codeW_exit, codeW_block, codeW_fence, thenW, outW, fenceOut, kill, LVal.withins, runOps, runOpsD, Go.L.step, stepD, semD, sem, RS.peek, RS.put, RS.give, RS.take, RS.takes, RS.takeElems, RS.takeParts, RS.peeks, RS.peekO, RS.setVar, RS.noPk, RS.settle, RS.alloc, callOut, LVal.isAgg, LVal.cells, LVal.plain, LVal.settled, binL, binInt, binStr, unL, resL, resOne, res1, resAll, LVal.isTup, outL, LOp.quiet, LOp.acts, LOp.peeks, LOper.fix, calmOk, loadCalm, awayOk, dstFree, LVal.free, LVal.calm, LVal.calm1, LOp.opds, optL, RS.acquire, appendL, elemsL, bound, inRange, intL, loadL, storeL, setElems, setParts, fitsElem, isNilL, partL, chunks, cp_bool, cp_int, up_bool, cp_own, cp_sh, ar_sh, pf_sh, e7, a1, a2, a3, a4, s1, s2, s3, s4, k1', q1]; done)
            | (simp [runFun, LMode.isPure, LVal.pfs, Go.L.initVars, codeW_seq, codeW_region, codeW_regionD, codeW_cond, codeW_ret, codeW_skip, codeW_exit, codeW_block, codeW_fence, thenW, outW, fenceOut, kill, LVal.withins, runOps, runOpsD, Go.L.step, stepD, semD, sem, RS.peek, RS.put, RS.give, RS.take, RS.takes, RS.takeElems, RS.takeParts, RS.peeks, RS.peekO, RS.setVar, RS.noPk, RS.settle, RS.alloc, callOut, LVal.isAgg, LVal.cells, LVal.plain, LVal.settled, binL, binInt, binStr, unL, resL, resOne, res1, resAll, LVal.isTup, outL, LOp.quiet, LOp.acts, LOp.peeks, LOper.fix, calmOk, loadCalm, awayOk, dstFree, LVal.free, LVal.calm, LVal.calm1, LOp.opds, optL, RS.acquire, appendL, elemsL, bound, inRange, intL, loadL, storeL, setElems, setParts, fitsElem, isNilL, partL, chunks, cp_bool, cp_int, up_bool, cp_own, cp_sh, ar_sh, pf_sh, e7, a1, a2, a3, a4, s1, s2, s3, s4, k1', q1]; rfl)
      exact r63b va vb vx _ ba bb bx ba na nb nx na A B X T ha hb hx (fun _ => rfl) u2 u3 u4 c2 c3 c4 n2 n3 n4 L2 L3 L4 h2 h3 h4 k2 k3 k4 q2 q3 q4 q5 hAX hXB hlt _ _ _
  obtain ⟨rs', hF⟩ := hF
  rw [hr]
  exact regN hF
end Go.Proofs.Ytbljgbojkifoiaa
end
