/- SetsOrders: what the law answers. -/
import Derived.Test.YtbljgbojkifoiaaWD
set_option linter.unusedVariables false
set_option linter.unusedSimpArgs false
namespace Go.Proofs.Ytbljgbojkifoiaa
open Go Go.L

theorem wi_undef {n : Nat} : LVal.within n .undef = true := rfl
theorem wi_bool {n : Nat} {b : Bool} : LVal.within n (.bool b) = true := rfl
theorem wi_int {n : Nat} {k : IntKind} {i : Int} : LVal.within n (.int k i) = true := rfl
theorem wi_sh {n : Nat} {b : Bool} {m : Nat} {xs : List LVal} : LVal.within n (.vs b .sh m xs) = true := rfl
theorem wi_full {n : Nat} {b : Bool} {m : Nat} {xs : List LVal} : LVal.within n (.vs b .full m xs) = true := rfl
theorem up_undef : LVal.unpk .undef = .undef := rfl
theorem up_int {k : IntKind} {i : Int} : LVal.unpk (.int k i) = .int k i := rfl
theorem up_sh {b : Bool} {m : Nat} {xs : List LVal} : LVal.unpk (.vs b .sh m xs) = .vs b .sh m xs := rfl

set_option maxHeartbeats 40000000 in
theorem setsOrders_eq (b0 b1 : Bool) (l m : List StateS) (hl : ∀ s ∈ l, s.given) (hm : ∀ s ∈ m, s.given) : callW D.T 6 [.vs b0 .sh 31 (statesL l), .vs b1 .sh 31 (statesL m)] [] = some (.bool true, none) := by
  have hf := few_eq b0 l (fun s hs => given_lies (hl s hs))
  have hg := few_eq b1 m (fun s hs => given_lies (hm s hs))
  have e5 : (statesL l).length = l.length := statesL_len l
  have e7 : ∀ l : List StateS, LVal.pfs (statesL l) = true := statesL_pfs
  rw [callW_fn fn6]
  by_cases hx : (fewL l && fewL m) = true
  · simp only [Bool.and_eq_true] at hx
    obtain ⟨hx1, hx2⟩ := hx
    obtain ⟨nl, fl⟩ := fewL_ok hx1
    obtain ⟨nm, fm⟩ := fewL_ok hx2
    rw [hx1] at hf
    rw [hx2] at hg
    have okl : ∀ x ∈ l, x.ok ∧ x.few := fun x h => ⟨(hl x h).1, fl x h⟩
    have okm : ∀ x ∈ m, x.ok ∧ x.few := fun x h => ⟨(hm x h).1, fm x h⟩
    have okA : ∀ x ∈ setS l, x.ok ∧ x.few := fun x h => okl x (setS_mem h)
    have okB : ∀ x ∈ setS m, x.ok ∧ x.few := fun x h => okm x (setS_mem h)
    have okAB : ∀ x ∈ setS l ++ setS m, x.ok ∧ x.few := fun x h => (List.mem_append.1 h).elim (okA x) (okB x)
    have okBA : ∀ x ∈ setS m ++ setS l, x.ok ∧ x.few := fun x h => (List.mem_append.1 h).elim (okB x) (okA x)
    have okAA : ∀ x ∈ setS l ++ setS l, x.ok ∧ x.few := fun x h => (List.mem_append.1 h).elim (okA x) (okA x)
    have okAN : ∀ x ∈ setS l ++ [], x.ok ∧ x.few := fun x h => okA x (by simpa using h)
    have okX : ∀ x ∈ setS (setS l ++ setS m), x.ok ∧ x.few := fun x h => okAB x (setS_mem h)
    have okT : ∀ x ∈ dbl l.reverse, x.ok ∧ x.few := fun x h => okl x (by simpa [dbl_mem] using h)
    have n1 := setS_len l
    have n2 := setS_len m
    have n3 := setS_len (setS l ++ setS m)
    have n4 := setS_len (setS m ++ setS l)
    have n5 := setS_len (setS l ++ setS l)
    have n6 := setS_len (setS l ++ [])
    have n7 := setS_len (dbl l.reverse)
    have n8 : (dbl l.reverse).length = 2 * l.length := by rw [dbl_len]; simp
    simp only [List.length_append, List.length_nil] at n3 n4 n5 n6
    -- the turned list
    obtain ⟨vT, w, hT, hloop⟩ := loop60 b0 b1 l m okl nl l.length ((l.length : Int) - 1) [] (.bool false) (.vs true .sh 0 []) (.bool false) .undef rfl rfl rfl rfl (by omega) (.inl ⟨rfl, rfl⟩) (by simp; omega)
    rw [List.take_length, List.nil_append] at hT
    have wT : ∀ k, vT.within k = true := by
      rcases hT with ⟨_, rfl⟩ | ⟨_, rfl⟩ <;> exact fun _ => rfl
    have c9 : IntKind.i64.wrap ((l.length : Int) - 1) = (l.length : Int) - 1 := wi64 (by omega) (by omega)
    -- the sets
    obtain ⟨va, kA, hA⟩ := of_eq (b := b0) (n := 31) (l := l) (.inr rfl) okl (by omega)
    obtain ⟨vb, kB, hB⟩ := of_eq (b := b1) (n := 31) (l := m) (.inr rfl) okm (by omega)
    obtain ⟨ba, na, ha, ka⟩ := hd_of hA
    obtain ⟨bb, nb, hb, kb⟩ := hd_of hB
    obtain ⟨vx, kX, hX⟩ := join_eq (b0 := ba) (b1 := bb) ka kb okA okB (by omega) (by omega)
    obtain ⟨bx, nx, hx, kx⟩ := hd_of hX
    obtain ⟨u2, k2, hU2⟩ := join_eq (b0 := bb) (b1 := ba) kb ka okB okA (by omega) (by omega)
    obtain ⟨u3, k3, hU3⟩ := join_eq (b0 := ba) (b1 := ba) ka ka okA okA (by omega) (by omega)
    obtain ⟨u4, k4, hU4⟩ := join_eq (b0 := ba) (n0 := na) (b1 := true) (n1 := 0) (l := setS l) (m := []) ka (.inl rfl) okA (fun x h => by simp at h) (by omega) (by simp)
    obtain ⟨c2, m2, h2, z2⟩ := hd_of hU2
    obtain ⟨c3, m3, h3, z3⟩ := hd_of hU3
    obtain ⟨c4, m4, h4, z4⟩ := hd_of hU4
    obtain ⟨u1, k1, hU1⟩ := of_eq (b := decide (dbl l.reverse = [])) (n := if dbl l.reverse = [] then 0 else 31) (l := dbl l.reverse) (by by_cases h : dbl l.reverse = [] <;> simp [h]) okT (by omega)
    obtain ⟨c1, m1, h1, z1⟩ := hd_of hU1
    have q1 := rsame_eq (b0 := ba) (b1 := c1) ka z1 okA (fun x h => okT x (setS_mem h)) (by omega) (by omega)
    have q2 := rsame_eq (b0 := bx) (b1 := c2) kx z2 okX (fun x h => okBA x (setS_mem h)) (by omega) (by omega)
    have q3 := rsame_eq (b0 := ba) (b1 := c3) ka z3 okA (fun x h => okAA x (setS_mem h)) (by omega) (by omega)
    have q4 := rsame_eq (b0 := ba) (b1 := c4) ka z4 okA (fun x h => okAN x (setS_mem h)) (by omega) (by omega)
    have q5 := is_eq (b0 := bx) kx okX (by omega)
    rw [same_turned] at q1
    rw [same_swap] at q2
    rw [same_self (setS_SS l)] at q3
    rw [same_nil (setS_SS l)] at q4
    rw [isS_setS] at q5
    have kHA : ∀ x ∈ l, callW D.T 18 [.vs ba .sh na (statesL (setS l)), .agg x.cells] [] = some (.bool true, none) := fun x h => by
      rw [has_eq ka okA (okl x h) (by omega) (setS_SS _), has_first h]
    have kHX : ∀ x ∈ l, callW D.T 18 [.vs bx .sh nx (statesL (setS (setS l ++ setS m))), .agg x.cells] [] = some (.bool true, none) := fun x h => by
      rw [has_eq kx okX (okl x h) (by omega) (setS_SS _), has_both h]
    have hlast := r63 va vb vx vT ba bb bx na nb nx _ _ _ _ ha hb hx hT u1 u2 u3 u4 c1 c2 c3 c4 m1 m2 m3 m4 _ _ _ _ h1 h2 h3 h4
      (fun b n hn => by
        by_cases h : b = decide (dbl l.reverse = []) ∧ n = if dbl l.reverse = [] then 0 else 31
        · obtain ⟨rfl, rfl⟩ := h
          exact .inl k1
        · exact .inr h) k2 k3 k4 q1 q2 q3 q4 q5 (len_first l m) (len_both l m) (by omega)
    obtain ⟨w2, hl2⟩ := loop62 b0 l okl nl va vb vx vT ba bb bx na nb nx _ _ _ ha hb hx wT kHA kHX l.length 0 (.vs b1 .sh 31 (statesL m)) .undef .undef .undef .undef .undef .undef rfl rfl (by omega)
    have z0 : ((0 : Nat) : Int) = 0 := rfl
    rw [z0] at hl2
    obtain ⟨a1, a2, a3, a4, a5, a6, a7, a8, a9⟩ := ha.fx
    obtain ⟨b1', b2, b3, b4, b5, b6, b7, b8, b9⟩ := hb.fx
    obtain ⟨x1, x2, x3, x4, x5, x6, x7, x8, x9⟩ := hx.fx
    clear n1 n2 n3 n4 n5 n6 n7 n8
    simp [D.l6, D.c6, runFun, LMode.isPure, LVal.pfs, LVal.pf, Go.L.initVars, codeW_seq, codeW_region, codeW_regionD, codeW_cond, codeW_ret, codeW_skip, codeW_exit, codeW_block, codeW_fence, thenW, outW, fenceOut, kill, LVal.withins, LVal.within, runOps, runOpsD, Go.L.step, stepD, semD, sem, RS.peek, RS.put, RS.give, RS.take, RS.takes, RS.takeElems, RS.takeParts, RS.peeks, RS.peekO, RS.setVar, RS.noPk, RS.settle, RS.alloc, callOut, LVal.arg, LVal.isAgg, LVal.cells, LVal.unpk, LVal.copy, LVal.down, LVal.plain, LVal.settled, binL, binInt, binStr, unL, resL, resOne, res1, resAll, LVal.isTup, outL, LOp.quiet, LOp.acts, LOp.peeks, LOper.fix, calmOk, loadCalm, awayOk, dstFree, LVal.free, LVal.calm, LVal.calm1, LOp.opds, optL, RS.acquire, appendL, elemsL, bound, inRange, intL, loadL, storeL, setElems, setParts, fitsElem, lenL, isNilL, partL, chunks, awake_eq, hf, hg, e5, e7, c9]
    clear a1 a2 a3 a4 a5 a6 a7 a8 a9 b1' b2 b3 b4 b5 b6 b7 b8 b9 x1 x2 x3 x4 x5 x6 x7 x8 x9
    rw [hloop]
    rcases ha with rfl | rfl <;> rcases hb with rfl | rfl <;> rcases hx with rfl | rfl
    all_goals
      simp [runFun, LMode.isPure, LVal.pfs, Go.L.initVars, codeW_seq, codeW_region, codeW_regionD, codeW_cond, codeW_ret, codeW_skip, codeW_exit, codeW_block, codeW_fence, thenW, outW, fenceOut, kill, LVal.withins, runOps, runOpsD, Go.L.step, stepD, semD, sem, RS.peek, RS.put, RS.give, RS.take, RS.takes, RS.takeElems, RS.takeParts, RS.peeks, RS.peekO, RS.setVar, RS.noPk, RS.settle, RS.alloc, callOut, LVal.isAgg, LVal.cells, LVal.plain, LVal.settled, binL, binInt, binStr, unL, resL, resOne, res1, resAll, LVal.isTup, outL, LOp.quiet, LOp.acts, LOp.peeks, LOper.fix, calmOk, loadCalm, awayOk, dstFree, LVal.free, LVal.calm, LVal.calm1, LOp.opds, optL, RS.acquire, appendL, elemsL, bound, inRange, intL, loadL, storeL, setElems, setParts, fitsElem, isNilL, partL, chunks, LVal.copy, LVal.arg, LVal.down, LVal.unpk, LVal.pf, lenL, wi_undef, wi_bool, wi_int, wi_sh, wi_full, awake_eq, e5, e7, wT, kA, kB, kX]
      rw [hl2]
      simp [runFun, LMode.isPure, LVal.pfs, Go.L.initVars, codeW_seq, codeW_region, codeW_regionD, codeW_cond, codeW_ret, codeW_skip, codeW_exit, codeW_block, codeW_fence, thenW, outW, fenceOut, kill, LVal.withins, runOps, runOpsD, Go.L.step, stepD, semD, sem, RS.peek, RS.put, RS.give, RS.take, RS.takes, RS.takeElems, RS.takeParts, RS.peeks, RS.peekO, RS.setVar, RS.noPk, RS.settle, RS.alloc, callOut, LVal.isAgg, LVal.cells, LVal.plain, LVal.settled, binL, binInt, binStr, unL, resL, resOne, res1, resAll, LVal.isTup, outL, LOp.quiet, LOp.acts, LOp.peeks, LOper.fix, calmOk, loadCalm, awayOk, dstFree, LVal.free, LVal.calm, LVal.calm1, LOp.opds, optL, RS.acquire, appendL, elemsL, bound, inRange, intL, loadL, storeL, setElems, setParts, fitsElem, isNilL, partL, chunks, LVal.copy, LVal.arg, LVal.down, LVal.unpk, LVal.pf, lenL, wi_undef, wi_bool, wi_int, wi_sh, wi_full, wT]
      rw [hlast]
      simp [runFun, LMode.isPure, LVal.pfs, Go.L.initVars, codeW_seq, codeW_region, codeW_regionD, codeW_cond, codeW_ret, codeW_skip, codeW_exit, codeW_block, codeW_fence, thenW, outW, fenceOut, kill, LVal.withins, runOps, runOpsD, Go.L.step, stepD, semD, sem, RS.peek, RS.put, RS.give, RS.take, RS.takes, RS.takeElems, RS.takeParts, RS.peeks, RS.peekO, RS.setVar, RS.noPk, RS.settle, RS.alloc, callOut, LVal.isAgg, LVal.cells, LVal.plain, LVal.settled, binL, binInt, binStr, unL, resL, resOne, res1, resAll, LVal.isTup, outL, LOp.quiet, LOp.acts, LOp.peeks, LOper.fix, calmOk, loadCalm, awayOk, dstFree, LVal.free, LVal.calm, LVal.calm1, LOp.opds, optL, RS.acquire, appendL, elemsL, bound, inRange, intL, loadL, storeL, setElems, setParts, fitsElem, isNilL, partL, chunks, LVal.copy, LVal.arg, LVal.down, LVal.unpk, LVal.pf, lenL, wi_undef, wi_bool, wi_int, wi_sh, wi_full]
  · have hf' : (fewL l && fewL m) = false := by simpa using hx
    generalize fewL l = p at *
    generalize fewL m = q at *
    cases p
    · simp [D.l6, D.c6, runFun, LMode.isPure, LVal.pfs, LVal.pf, Go.L.initVars, codeW_seq, codeW_region, codeW_regionD, codeW_cond, codeW_ret, codeW_skip, codeW_exit, codeW_block, codeW_fence, thenW, outW, fenceOut, kill, LVal.withins, LVal.within, runOps, runOpsD, Go.L.step, stepD, semD, sem, RS.peek, RS.put, RS.give, RS.take, RS.takes, RS.takeElems, RS.takeParts, RS.peeks, RS.peekO, RS.setVar, RS.noPk, RS.settle, RS.alloc, callOut, LVal.arg, LVal.isAgg, LVal.cells, LVal.unpk, LVal.copy, LVal.down, LVal.plain, LVal.settled, binL, binInt, binStr, unL, resL, resOne, res1, resAll, LVal.isTup, outL, LOp.quiet, LOp.acts, LOp.peeks, LOper.fix, calmOk, loadCalm, awayOk, dstFree, LVal.free, LVal.calm, LVal.calm1, LOp.opds, optL, RS.acquire, appendL, elemsL, bound, inRange, intL, loadL, storeL, setElems, setParts, fitsElem, lenL, isNilL, partL, chunks, awake_eq, hf, hg, e5, e7]
    · cases q
      · simp [D.l6, D.c6, runFun, LMode.isPure, LVal.pfs, LVal.pf, Go.L.initVars, codeW_seq, codeW_region, codeW_regionD, codeW_cond, codeW_ret, codeW_skip, codeW_exit, codeW_block, codeW_fence, thenW, outW, fenceOut, kill, LVal.withins, LVal.within, runOps, runOpsD, Go.L.step, stepD, semD, sem, RS.peek, RS.put, RS.give, RS.take, RS.takes, RS.takeElems, RS.takeParts, RS.peeks, RS.peekO, RS.setVar, RS.noPk, RS.settle, RS.alloc, callOut, LVal.arg, LVal.isAgg, LVal.cells, LVal.unpk, LVal.copy, LVal.down, LVal.plain, LVal.settled, binL, binInt, binStr, unL, resL, resOne, res1, resAll, LVal.isTup, outL, LOp.quiet, LOp.acts, LOp.peeks, LOper.fix, calmOk, loadCalm, awayOk, dstFree, LVal.free, LVal.calm, LVal.calm1, LOp.opds, optL, RS.acquire, appendL, elemsL, bound, inRange, intL, loadL, storeL, setElems, setParts, fitsElem, lenL, isNilL, partL, chunks, awake_eq, hf, hg, e5, e7]
      · simp at hf'
end Go.Proofs.Ytbljgbojkifoiaa
