/- SetsKeeps: lists that are written over. -/
import Derived.Test.YtbljgbojkifoiaaKK4
set_option linter.unusedVariables false
set_option linter.unusedSimpArgs false
namespace Go.Proofs.Ytbljgbojkifoiaa
open Go Go.L

theorem flat_put {k i : Nat} {c : List LVal} (h : Flat (k * 31) c) (hi : i < k) : Flat (k * 31) (c.take (i * 31) ++ (zc ++ c.drop (i * 31 + 31))) := by
  have hz : Flat 31 zc := ⟨rfl, List.all_eq_true.1 rfl, rfl⟩
  have hl := h.len
  refine ⟨?_, fun x hx => ?_, ?_⟩
  · rw [List.length_append, List.length_append, List.length_take, List.length_drop, hz.len]; omega
  · rcases List.mem_append.1 hx with hx | hx
    · exact h.plain x (List.mem_of_mem_take hx)
    · rcases List.mem_append.1 hx with hx | hx
      · exact hz.plain x hx
      · exact h.plain x (List.mem_of_mem_drop hx)
  · have key : ∀ (l : List LVal), (∀ x ∈ l, x.pf = true) → LVal.pfs l = true := by
      intro l
      induction l with
      | nil => intro _; rfl
      | cons a r ih => intro h; simp only [LVal.pfs, Bool.and_eq_true]; exact ⟨h a (List.mem_cons_self ..), ih fun x hx => h x (List.mem_cons_of_mem _ hx)⟩
    refine key _ fun x hx => ?_
    rcases List.mem_append.1 hx with hx | hx
    · exact pfs_mem h.pfs (List.mem_of_mem_take hx)
    · rcases List.mem_append.1 hx with hx | hx
      · exact pfs_mem hz.pfs hx
      · exact pfs_mem h.pfs (List.mem_of_mem_drop hx)

abbrev W70 (v0 v1 v2 v3 v4 v5 v6 v8 : LVal) (id k : Nat) (i : Int) (v10 v11 v12 v13 v14 : LVal) (st : List LObj) : RS :=
  { vars := [v0, v1, v2, v3, v4, v5, v6, .ms id 0 k 31 true, v8, .int .i64 i, v10, v11, v12, v13, v14], st := st, rs := [] }
abbrev W71 (v0 v1 v2 v4 v5 v6 v7 v8 v9 : LVal) (k : Nat) (i : Int) (v11 v12 v13 v14 : LVal) (st : List LObj) : RS :=
  { vars := [v0, v1, v2, .ms 0 0 k 31 true, v4, v5, v6, v7, v8, v9, .int .i64 i, v11, v12, v13, v14], st := st, rs := [] }

set_option maxHeartbeats 40000000 in
theorem loop70a_step (v0 v1 v2 v3 v4 v5 v6 v8 v10 v11 v12 v13 v14 : LVal) (k i : Nat) (hi : i < k) (hk : k ≤ 1000) (c : List LVal) (hc : Flat (k * 31) c) (w3 : LVal.within 1 v3 = true) (w4 : LVal.within 1 v4 = true) (w5 : LVal.within 1 v5 = true) (w6 : LVal.within 1 v6 = true) (w8 : LVal.within 1 v8 = true) (o13 : v13.isOwn = false) :
    ∃ c1, Flat (k * 31) c1 ∧ codeW D.T (.loop D.b7_0) (W70 v0 v1 v2 v3 v4 v5 v6 v8 0 k (i : Int) v10 v11 v12 v13 v14 [.cells 31 c]) = codeW D.T (.loop D.b7_0) (W70 .undef .undef .undef v3 v4 v5 v6 v8 0 k (i + 1 : Nat) .undef .undef .undef .undef .undef [.cells 31 c1]) := by
  have e1 : (i : Int) < (k : Int) := by omega
  have e0 : 0 ≤ (i : Int) ∧ (i : Int) < (k : Int) := by omega
  have e3 : IntKind.i64.wrap ((i : Int) + 1) = (i : Int) + 1 := wi64 (by omega) (by omega)
  have hle : i * 31 + 31 ≤ k * 31 := by omega
  obtain ⟨c1, c2, c3, c4, c5, c6, c7, c8, c9, c10, c11⟩ := hc.fx
  have c12 : ∀ x, x ∈ List.take 31 (List.drop (i * 31) c) → x.isOwn = false := fun x hx => plain_own (c3 x (List.mem_of_mem_drop (List.mem_of_mem_take hx)))
  have c13 : (List.take 31 (List.drop (i * 31) c)).any LVal.isOwn = false := by
    rw [List.any_eq_false]
    intro x hx
    rw [c12 x hx]; simp
  have c14 : ¬ ∃ x, x ∈ List.take 31 (List.drop (i * 31) c) ∧ x.isOwn = true := by
    rintro ⟨x, h1, h2⟩
    rw [c12 x h1] at h2; cases h2
  have hp := flat_put hc hi
  obtain ⟨-, -, -, -, -, -, -, -, -, -, p11⟩ := hp.fx
  have p12 : ∀ n, LVal.withins n (List.take (i * 31) c ++ (zc ++ List.drop (i * 31 + 31) c)) = true := p11
  simp only [zc, List.cons_append, List.nil_append] at p12
  refine ⟨_, hp, ?_⟩
  conv => lhs; rw [codeW_loop]
  generalize hK : thenW (codeW D.T (.loop D.b7_0)) = K
  simp [D.b7_0, runFun, LMode.isPure, LVal.pfs, LVal.pf, Go.L.initVars, codeW_seq, codeW_region, codeW_regionD, codeW_cond, codeW_ret, codeW_skip, codeW_exit, codeW_block, codeW_fence, thenW, outW, fenceOut, kill, LVal.withins, LVal.within, runOps, runOpsD, Go.L.step, stepD, semD, sem, RS.peek, RS.put, RS.give, RS.take, RS.takes, RS.takeElems, RS.takeParts, RS.peeks, RS.peekO, RS.setVar, RS.noPk, RS.settle, RS.alloc, callOut, LVal.arg, LVal.isAgg, LVal.cells, LVal.unpk, LVal.copy, LVal.down, LVal.plain, LVal.settled, binL, binInt, binStr, unL, resL, resOne, res1, resAll, LVal.isTup, outL, LOp.quiet, LOp.acts, LOp.peeks, LOper.fix, calmOk, loadCalm, awayOk, dstFree, LVal.free, LVal.calm, LVal.calm1, LOp.opds, optL, RS.acquire, appendL, elemsL, bound, inRange, intL, loadL, storeL, setElems, setParts, fitsElem, lenL, isNilL, partL, chunks, storeL, e0, e1, e3, o13, w3, w4, w5, w6, w8, c1, c13, eq_false c14, hle, p12, zc]
  subst hK
  rfl

set_option maxHeartbeats 40000000 in
theorem loop70b_step (O : LObj) (hO : ∀ n, LObj.within n O = true) (v0 v1 v2 v3 v4 v5 v6 v8 v10 v11 v12 v13 v14 : LVal) (k i : Nat) (hi : i < k) (hk : k ≤ 1000) (c : List LVal) (hc : Flat (k * 31) c) (w3 : LVal.within 2 v3 = true) (w4 : LVal.within 2 v4 = true) (w5 : LVal.within 2 v5 = true) (w6 : LVal.within 2 v6 = true) (w8 : LVal.within 2 v8 = true) (o13 : v13.isOwn = false) :
    ∃ c1, Flat (k * 31) c1 ∧ codeW D.T (.loop D.b7_0) (W70 v0 v1 v2 v3 v4 v5 v6 v8 1 k (i : Int) v10 v11 v12 v13 v14 [O, .cells 31 c]) = codeW D.T (.loop D.b7_0) (W70 .undef .undef .undef v3 v4 v5 v6 v8 1 k (i + 1 : Nat) .undef .undef .undef .undef .undef [O, .cells 31 c1]) := by
  have e1 : (i : Int) < (k : Int) := by omega
  have e0 : 0 ≤ (i : Int) ∧ (i : Int) < (k : Int) := by omega
  have e3 : IntKind.i64.wrap ((i : Int) + 1) = (i : Int) + 1 := wi64 (by omega) (by omega)
  have hle : i * 31 + 31 ≤ k * 31 := by omega
  obtain ⟨c1, c2, c3, c4, c5, c6, c7, c8, c9, c10, c11⟩ := hc.fx
  have c12 : ∀ x, x ∈ List.take 31 (List.drop (i * 31) c) → x.isOwn = false := fun x hx => plain_own (c3 x (List.mem_of_mem_drop (List.mem_of_mem_take hx)))
  have c13 : (List.take 31 (List.drop (i * 31) c)).any LVal.isOwn = false := by
    rw [List.any_eq_false]
    intro x hx
    rw [c12 x hx]; simp
  have c14 : ¬ ∃ x, x ∈ List.take 31 (List.drop (i * 31) c) ∧ x.isOwn = true := by
    rintro ⟨x, h1, h2⟩
    rw [c12 x h1] at h2; cases h2
  have hp := flat_put hc hi
  obtain ⟨-, -, -, -, -, -, -, -, -, -, p11⟩ := hp.fx
  have p12 : ∀ n, LVal.withins n (List.take (i * 31) c ++ (zc ++ List.drop (i * 31 + 31) c)) = true := p11
  simp only [zc, List.cons_append, List.nil_append] at p12
  refine ⟨_, hp, ?_⟩
  conv => lhs; rw [codeW_loop]
  generalize hK : thenW (codeW D.T (.loop D.b7_0)) = K
  simp [D.b7_0, runFun, LMode.isPure, LVal.pfs, LVal.pf, Go.L.initVars, codeW_seq, codeW_region, codeW_regionD, codeW_cond, codeW_ret, codeW_skip, codeW_exit, codeW_block, codeW_fence, thenW, outW, fenceOut, kill, LVal.withins, LVal.within, runOps, runOpsD, Go.L.step, stepD, semD, sem, RS.peek, RS.put, RS.give, RS.take, RS.takes, RS.takeElems, RS.takeParts, RS.peeks, RS.peekO, RS.setVar, RS.noPk, RS.settle, RS.alloc, callOut, LVal.arg, LVal.isAgg, LVal.cells, LVal.unpk, LVal.copy, LVal.down, LVal.plain, LVal.settled, binL, binInt, binStr, unL, resL, resOne, res1, resAll, LVal.isTup, outL, LOp.quiet, LOp.acts, LOp.peeks, LOper.fix, calmOk, loadCalm, awayOk, dstFree, LVal.free, LVal.calm, LVal.calm1, LOp.opds, optL, RS.acquire, appendL, elemsL, bound, inRange, intL, loadL, storeL, setElems, setParts, fitsElem, lenL, isNilL, partL, chunks, storeL, e0, e1, e3, o13, hO, w3, w4, w5, w6, w8, c1, c13, eq_false c14, hle, p12, zc]
  subst hK
  rfl

set_option maxHeartbeats 40000000 in
theorem loop71_step (O : LObj) (hO : ∀ n, LObj.within n O = true) (v0 v1 v2 v4 v5 v6 v7 v8 v9 v11 v12 v13 v14 : LVal) (k i : Nat) (hi : i < k) (hk : k ≤ 1000) (c : List LVal) (hc : Flat (k * 31) c) (w4 : LVal.within 2 v4 = true) (w5 : LVal.within 2 v5 = true) (w6 : LVal.within 2 v6 = true) (w8 : LVal.within 2 v8 = true) (o13 : v14.isOwn = false) :
    ∃ c1, Flat (k * 31) c1 ∧ codeW D.T (.loop D.b7_1) (W71 v0 v1 v2 v4 v5 v6 v7 v8 v9 k (i : Int) v11 v12 v13 v14 [.cells 31 c, O]) = codeW D.T (.loop D.b7_1) (W71 .undef .undef .undef v4 v5 v6 .undef v8 .undef k (i + 1 : Nat) .undef .undef .undef .undef [.cells 31 c1, O]) := by
  have e1 : (i : Int) < (k : Int) := by omega
  have e0 : 0 ≤ (i : Int) ∧ (i : Int) < (k : Int) := by omega
  have e3 : IntKind.i64.wrap ((i : Int) + 1) = (i : Int) + 1 := wi64 (by omega) (by omega)
  have hle : i * 31 + 31 ≤ k * 31 := by omega
  obtain ⟨c1, c2, c3, c4, c5, c6, c7, c8, c9, c10, c11⟩ := hc.fx
  have c12 : ∀ x, x ∈ List.take 31 (List.drop (i * 31) c) → x.isOwn = false := fun x hx => plain_own (c3 x (List.mem_of_mem_drop (List.mem_of_mem_take hx)))
  have c13 : (List.take 31 (List.drop (i * 31) c)).any LVal.isOwn = false := by
    rw [List.any_eq_false]
    intro x hx
    rw [c12 x hx]; simp
  have c14 : ¬ ∃ x, x ∈ List.take 31 (List.drop (i * 31) c) ∧ x.isOwn = true := by
    rintro ⟨x, h1, h2⟩
    rw [c12 x h1] at h2; cases h2
  have hp := flat_put hc hi
  obtain ⟨-, -, -, -, -, -, -, -, -, -, p11⟩ := hp.fx
  have p12 : ∀ n, LVal.withins n (List.take (i * 31) c ++ (zc ++ List.drop (i * 31 + 31) c)) = true := p11
  simp only [zc, List.cons_append, List.nil_append] at p12
  refine ⟨_, hp, ?_⟩
  conv => lhs; rw [codeW_loop]
  generalize hK : thenW (codeW D.T (.loop D.b7_1)) = K
  simp [D.b7_1, runFun, LMode.isPure, LVal.pfs, LVal.pf, Go.L.initVars, codeW_seq, codeW_region, codeW_regionD, codeW_cond, codeW_ret, codeW_skip, codeW_exit, codeW_block, codeW_fence, thenW, outW, fenceOut, kill, LVal.withins, LVal.within, runOps, runOpsD, Go.L.step, stepD, semD, sem, RS.peek, RS.put, RS.give, RS.take, RS.takes, RS.takeElems, RS.takeParts, RS.peeks, RS.peekO, RS.setVar, RS.noPk, RS.settle, RS.alloc, callOut, LVal.arg, LVal.isAgg, LVal.cells, LVal.unpk, LVal.copy, LVal.down, LVal.plain, LVal.settled, binL, binInt, binStr, unL, resL, resOne, res1, resAll, LVal.isTup, outL, LOp.quiet, LOp.acts, LOp.peeks, LOper.fix, calmOk, loadCalm, awayOk, dstFree, LVal.free, LVal.calm, LVal.calm1, LOp.opds, optL, RS.acquire, appendL, elemsL, bound, inRange, intL, loadL, storeL, setElems, setParts, fitsElem, lenL, isNilL, partL, chunks, storeL, e0, e1, e3, o13, hO, w4, w5, w6, w8, c1, c13, eq_false c14, hle, p12, zc]
  subst hK
  rfl

set_option maxHeartbeats 40000000 in
theorem loop70a (v3 v4 v5 v6 v8 : LVal) (k : Nat) (hk : k ≤ 1000) (w3 : LVal.within 1 v3 = true) (w4 : LVal.within 1 v4 = true) (w5 : LVal.within 1 v5 = true) (w6 : LVal.within 1 v6 = true) (w8 : LVal.within 1 v8 = true) : ∀ (j i : Nat) (v0 v1 v2 v10 v11 v12 v13 v14 : LVal) (c : List LVal), v13.isOwn = false → i + j = k → Flat (k * 31) c →
    ∃ (c' : List LVal) (w : Nat → LVal), Flat (k * 31) c' ∧ codeW D.T (.loop D.b7_0) (W70 v0 v1 v2 v3 v4 v5 v6 v8 0 k (i : Int) v10 v11 v12 v13 v14 [.cells 31 c]) = some (.exit 0, { vars := [w 0, w 1, w 2, v3, v4, v5, v6, w 7, v8, w 9, w 10, w 11, w 12, w 13, w 14], st := [.cells 31 c'], rs := [] })
  | 0, i, v0, v1, v2, v10, v11, v12, v13, v14, c, o, hij, hc => by
    have hi : i = k := by omega
    subst hi
    refine ⟨c, fun j => ([v0, v1, v2, .undef, .undef, .undef, .undef, .ms 0 0 i 31 true, .undef, .int .i64 i, v10, v11, v12, .bool false, v14] : List LVal).getD j .undef, hc, ?_⟩
    rw [codeW_loop]
    simp [D.b7_0, runFun, LMode.isPure, LVal.pfs, LVal.pf, Go.L.initVars, codeW_seq, codeW_region, codeW_regionD, codeW_cond, codeW_ret, codeW_skip, codeW_exit, codeW_block, codeW_fence, thenW, outW, fenceOut, kill, LVal.withins, LVal.within, runOps, runOpsD, Go.L.step, stepD, semD, sem, RS.peek, RS.put, RS.give, RS.take, RS.takes, RS.takeElems, RS.takeParts, RS.peeks, RS.peekO, RS.setVar, RS.noPk, RS.settle, RS.alloc, callOut, LVal.arg, LVal.isAgg, LVal.cells, LVal.unpk, LVal.copy, LVal.down, LVal.plain, LVal.settled, binL, binInt, binStr, unL, resL, resOne, res1, resAll, LVal.isTup, outL, LOp.quiet, LOp.acts, LOp.peeks, LOper.fix, calmOk, loadCalm, awayOk, dstFree, LVal.free, LVal.calm, LVal.calm1, LOp.opds, optL, RS.acquire, appendL, elemsL, bound, inRange, intL, loadL, storeL, setElems, setParts, fitsElem, lenL, isNilL, partL, chunks, o]
  | j + 1, i, v0, v1, v2, v10, v11, v12, v13, v14, c, o, hij, hc => by
    obtain ⟨c1, h1, h2⟩ := loop70a_step  v0 v1 v2 v3 v4 v5 v6 v8 v10 v11 v12 v13 v14 k i (by omega) hk c hc w3 w4 w5 w6 w8 o
    obtain ⟨c', w, h3, h4⟩ := loop70a  v3 v4 v5 v6 v8 k hk w3 w4 w5 w6 w8 j (i + 1) .undef .undef .undef .undef .undef .undef .undef .undef c1 rfl (by omega) h1
    exact ⟨c', w, h3, h2.trans h4⟩

set_option maxHeartbeats 40000000 in
theorem loop70b (O : LObj) (hO : ∀ n, LObj.within n O = true) (v3 v4 v5 v6 v8 : LVal) (k : Nat) (hk : k ≤ 1000) (w3 : LVal.within 2 v3 = true) (w4 : LVal.within 2 v4 = true) (w5 : LVal.within 2 v5 = true) (w6 : LVal.within 2 v6 = true) (w8 : LVal.within 2 v8 = true) : ∀ (j i : Nat) (v0 v1 v2 v10 v11 v12 v13 v14 : LVal) (c : List LVal), v13.isOwn = false → i + j = k → Flat (k * 31) c →
    ∃ (c' : List LVal) (w : Nat → LVal), Flat (k * 31) c' ∧ codeW D.T (.loop D.b7_0) (W70 v0 v1 v2 v3 v4 v5 v6 v8 1 k (i : Int) v10 v11 v12 v13 v14 [O, .cells 31 c]) = some (.exit 0, { vars := [w 0, w 1, w 2, v3, v4, v5, v6, w 7, v8, w 9, w 10, w 11, w 12, w 13, w 14], st := [O, .cells 31 c'], rs := [] })
  | 0, i, v0, v1, v2, v10, v11, v12, v13, v14, c, o, hij, hc => by
    have hi : i = k := by omega
    subst hi
    refine ⟨c, fun j => ([v0, v1, v2, .undef, .undef, .undef, .undef, .ms 1 0 i 31 true, .undef, .int .i64 i, v10, v11, v12, .bool false, v14] : List LVal).getD j .undef, hc, ?_⟩
    rw [codeW_loop]
    simp [D.b7_0, runFun, LMode.isPure, LVal.pfs, LVal.pf, Go.L.initVars, codeW_seq, codeW_region, codeW_regionD, codeW_cond, codeW_ret, codeW_skip, codeW_exit, codeW_block, codeW_fence, thenW, outW, fenceOut, kill, LVal.withins, LVal.within, runOps, runOpsD, Go.L.step, stepD, semD, sem, RS.peek, RS.put, RS.give, RS.take, RS.takes, RS.takeElems, RS.takeParts, RS.peeks, RS.peekO, RS.setVar, RS.noPk, RS.settle, RS.alloc, callOut, LVal.arg, LVal.isAgg, LVal.cells, LVal.unpk, LVal.copy, LVal.down, LVal.plain, LVal.settled, binL, binInt, binStr, unL, resL, resOne, res1, resAll, LVal.isTup, outL, LOp.quiet, LOp.acts, LOp.peeks, LOper.fix, calmOk, loadCalm, awayOk, dstFree, LVal.free, LVal.calm, LVal.calm1, LOp.opds, optL, RS.acquire, appendL, elemsL, bound, inRange, intL, loadL, storeL, setElems, setParts, fitsElem, lenL, isNilL, partL, chunks, o]
  | j + 1, i, v0, v1, v2, v10, v11, v12, v13, v14, c, o, hij, hc => by
    obtain ⟨c1, h1, h2⟩ := loop70b_step O hO v0 v1 v2 v3 v4 v5 v6 v8 v10 v11 v12 v13 v14 k i (by omega) hk c hc w3 w4 w5 w6 w8 o
    obtain ⟨c', w, h3, h4⟩ := loop70b O hO v3 v4 v5 v6 v8 k hk w3 w4 w5 w6 w8 j (i + 1) .undef .undef .undef .undef .undef .undef .undef .undef c1 rfl (by omega) h1
    exact ⟨c', w, h3, h2.trans h4⟩

set_option maxHeartbeats 40000000 in
theorem loop71 (O : LObj) (hO : ∀ n, LObj.within n O = true) (v4 v5 v6 v8 : LVal) (k : Nat) (hk : k ≤ 1000) (w4 : LVal.within 2 v4 = true) (w5 : LVal.within 2 v5 = true) (w6 : LVal.within 2 v6 = true) (w8 : LVal.within 2 v8 = true) : ∀ (j i : Nat) (v0 v1 v2 v7 v9 v11 v12 v13 v14 : LVal) (c : List LVal), v14.isOwn = false → i + j = k → Flat (k * 31) c →
    ∃ (c' : List LVal) (w : Nat → LVal), Flat (k * 31) c' ∧ codeW D.T (.loop D.b7_1) (W71 v0 v1 v2 v4 v5 v6 v7 v8 v9 k (i : Int) v11 v12 v13 v14 [.cells 31 c, O]) = some (.exit 2, { vars := [w 0, w 1, w 2, w 3, v4, v5, v6, w 7, v8, w 9, w 10, w 11, w 12, w 13, w 14], st := [.cells 31 c', O], rs := [] })
  | 0, i, v0, v1, v2, v7, v9, v11, v12, v13, v14, c, o, hij, hc => by
    have hi : i = k := by omega
    subst hi
    refine ⟨c, fun j => ([v0, v1, v2, .ms 0 0 i 31 true, .undef, .undef, .undef, v7, .undef, v9, .int .i64 i, v11, v12, v13, .bool false] : List LVal).getD j .undef, hc, ?_⟩
    rw [codeW_loop]
    simp [D.b7_1, runFun, LMode.isPure, LVal.pfs, LVal.pf, Go.L.initVars, codeW_seq, codeW_region, codeW_regionD, codeW_cond, codeW_ret, codeW_skip, codeW_exit, codeW_block, codeW_fence, thenW, outW, fenceOut, kill, LVal.withins, LVal.within, runOps, runOpsD, Go.L.step, stepD, semD, sem, RS.peek, RS.put, RS.give, RS.take, RS.takes, RS.takeElems, RS.takeParts, RS.peeks, RS.peekO, RS.setVar, RS.noPk, RS.settle, RS.alloc, callOut, LVal.arg, LVal.isAgg, LVal.cells, LVal.unpk, LVal.copy, LVal.down, LVal.plain, LVal.settled, binL, binInt, binStr, unL, resL, resOne, res1, resAll, LVal.isTup, outL, LOp.quiet, LOp.acts, LOp.peeks, LOper.fix, calmOk, loadCalm, awayOk, dstFree, LVal.free, LVal.calm, LVal.calm1, LOp.opds, optL, RS.acquire, appendL, elemsL, bound, inRange, intL, loadL, storeL, setElems, setParts, fitsElem, lenL, isNilL, partL, chunks, o]
  | j + 1, i, v0, v1, v2, v7, v9, v11, v12, v13, v14, c, o, hij, hc => by
    obtain ⟨c1, h1, h2⟩ := loop71_step O hO v0 v1 v2 v4 v5 v6 v7 v8 v9 v11 v12 v13 v14 k i (by omega) hk c hc w4 w5 w6 w8 o
    obtain ⟨c', w, h3, h4⟩ := loop71 O hO v4 v5 v6 v8 k hk w4 w5 w6 w8 j (i + 1) .undef .undef .undef .undef .undef .undef .undef .undef .undef c1 rfl (by omega) h1
    exact ⟨c', w, h3, h2.trans h4⟩

end Go.Proofs.Ytbljgbojkifoiaa
