/- Texts 11 12 16. -/
import Derived.Test.YtbljgbojkifoiaaKVA
section
set_option linter.unusedVariables false
set_option linter.unusedSimpArgs false
namespace Go.Proofs.Ytbljgbojkifoiaa
open Go Go.L

theorem due_ext {a b : DueS} : a = b ↔ a.kind = b.kind ∧ a.proto = b.proto ∧ a.id = b.id ∧ a.data = b.data := by
  cases a; cases b; simp
theorem link_ext {a b : LinkS} : a = b ↔ a.st = b.st ∧ a.rest = b.rest ∧ a.naks = b.naks ∧ a.sent = b.sent ∧ a.answered = b.answered ∧ a.id = b.id ∧ a.opts = b.opts := by
  cases a; cases b; simp
theorem login_ext {a b : LoginS} : a = b ↔ a.ours = b.ours ∧ a.theirs = b.theirs ∧ a.oursOk = b.oursOk ∧ a.theirsOk = b.theirsOk ∧ a.open_ = b.open_ ∧ a.id = b.id ∧ a.value = b.value ∧ a.asked = b.asked ∧ a.askedId = b.askedId := by
  cases a; cases b; simp

/-- Alike: but for how a nil slice looks. -/
def Alike (s t : StateS) : Prop := (s.l0 = t.l0 ∧ s.l1 = t.l1 ∧ s.l2 = t.l2) ∧ s.login = t.login ∧ s.due = t.due

open Classical in
theorem eq_due (a b : DueS) : eqCells a.cells b.cells = some (decide (a = b)) := by
  simp only [DueS.cells, eqCells, eqS, if_true, Option.bind_some, Option.map_some, due_ext]
  congr 1
  rw [Bool.eq_iff_iff]
  simp
open Classical in
theorem eq_links (a b c a' b' c' : LinkS) : eqCells (a.cells ++ (b.cells ++ c.cells)) (a'.cells ++ (b'.cells ++ c'.cells)) = some (decide (a = a' ∧ b = b' ∧ c = c')) := by
  simp only [LinkS.cells, List.cons_append, List.nil_append, eqCells, eqS, if_true, Option.bind_some, Option.map_some, link_ext]
  congr 1
  rw [Bool.eq_iff_iff]
  simp [and_assoc]
open Classical in
theorem eq_login (a b : LoginS) : eqCells a.cells b.cells = some (decide (a = b)) := by
  simp only [LoginS.cells, eqCells, eqS, if_true, Option.bind_some, Option.map_some, login_ext]
  congr 1
  rw [Bool.eq_iff_iff]
  simp

theorem fn27 : D.T.fns 27 = some (.fn D.l27) := rfl
theorem fn12 : D.T.fns 12 = some (.fn D.l12) := rfl

open Classical in
set_option maxHeartbeats 4000000 in
theorem loop27 (n1 n2 : Bool) (m1 m2 : Nat) (a b : List DueS) (hab : a.length = b.length) (hl : a.length ≤ 100) (hm1 : a ≠ [] → m1 = 4) (hm2 : b ≠ [] → m2 = 4) : ∀ (j i : Nat) (z : Int) (v2 v4 v5 : LVal), v2.isOwn = false → v4.isOwn = false → v5.isOwn = false → z = i → i + j = a.length →
    ∃ w : Nat → LVal, codeW D.T (.loop D.b27_0) { vars := [.vs n1 .sh m1 (duesL a), .vs n2 .sh m2 (duesL b), v2, .int .i64 z, v4, v5, .undef], st := [], rs := [] } =
      some (if a.drop i = b.drop i then (.exit 0, { vars := [w 0, w 1, w 2, w 3, w 4, w 5, w 6], st := [], rs := [] }) else (.ret, { vars := [w 0, w 1, .bool false, w 3, w 4, w 5, w 6], st := [], rs := [] }))
  | 0, i, z, v2, v4, v5, o2, o4, o5, hz, hij => by
    subst hz
    have hi : i = a.length := by omega
    subst hi
    have e5 : (duesL a).length = a.length := duesL_len a
    refine ⟨fun j => [.vs n1 .sh m1 (duesL a), .vs n2 .sh m2 (duesL b), v2, .int .i64 a.length, v4, .bool false, .undef].getD j .undef, ?_⟩
    rw [if_pos (by rw [List.drop_length, hab, List.drop_length]), codeW_loop]
    simp [D.b27_0, runFun, LMode.isPure, LVal.pfs, LVal.pf, Go.L.initVars, codeW_seq, codeW_region, codeW_regionD, codeW_cond, codeW_ret, codeW_skip, codeW_exit, codeW_block, codeW_fence, thenW, outW, fenceOut, kill, LVal.withins, LVal.within, runOps, runOpsD, Go.L.step, stepD, semD, sem, RS.peek, RS.put, RS.give, RS.take, RS.takes, RS.takeElems, RS.takeParts, RS.peeks, RS.peekO, RS.setVar, RS.noPk, RS.settle, RS.alloc, callOut, LVal.arg, LVal.isAgg, LVal.cells, LVal.unpk, LVal.copy, LVal.down, LVal.plain, LVal.settled, binL, binInt, binStr, unL, resL, resOne, res1, resAll, LVal.isTup, outL, LOp.quiet, LOp.acts, LOp.peeks, LOper.fix, calmOk, loadCalm, awayOk, dstFree, LVal.free, LVal.calm, LVal.calm1, LOp.opds, optL, RS.acquire, appendL, elemsL, bound, inRange, intL, loadL, storeL, setElems, setParts, fitsElem, lenL, isNilL, partL, chunks, o5, e5]
  | j + 1, i, z, v2, v4, v5, o2, o4, o5, hz, hij => by
    subst hz
    have hi : i < a.length := by omega
    have hi2 : i < b.length := by omega
    obtain ⟨x, hx⟩ : ∃ x, a[i]? = some x := ⟨_, List.getElem?_eq_getElem hi⟩
    obtain ⟨y, hy⟩ : ∃ y, b[i]? = some y := ⟨_, List.getElem?_eq_getElem hi2⟩
    have hda : a.drop i = x :: a.drop (i + 1) := by
      rw [List.drop_eq_getElem_cons hi]
      rw [List.getElem?_eq_getElem hi] at hx; injection hx with hx; rw [hx]
    have hdb : b.drop i = y :: b.drop (i + 1) := by
      rw [List.drop_eq_getElem_cons hi2]
      rw [List.getElem?_eq_getElem hi2] at hy; injection hy with hy; rw [hy]
    have hm1' : m1 = 4 := hm1 (fun e => by rw [e] at hi; simp at hi)
    have hm2' : m2 = 4 := hm2 (fun e => by rw [e] at hi2; simp at hi2)
    subst hm1'; subst hm2'
    have e1 : (i : Int) < (a.length : Int) := by omega
    have e0 : 0 ≤ (i : Int) ∧ (i : Int) < (a.length : Int) := by omega
    have e0' : 0 ≤ (i : Int) ∧ (i : Int) < (b.length : Int) := by omega
    have e3 : IntKind.i64.wrap ((i : Int) + 1) = (i : Int) + 1 := wi64 (by omega) (by omega)
    have e5 : (duesL a).length = a.length := duesL_len a
    have e5' : (duesL b).length = b.length := duesL_len b
    have e6 : (duesL a)[i]? = some (.agg x.cells) := by rw [duesL_get, hx]; rfl
    have e6' : (duesL b)[i]? = some (.agg y.cells) := by rw [duesL_get, hy]; rfl
    have e7 : ∀ (n : Nat) (l : List DueS), LVal.withins n (duesL l) = true := fun n l => duesL_within n l
    have e8 := eq_due x y
    simp only [DueS.cells] at e6 e6' e8
    rw [codeW_loop]
    generalize hK : thenW (codeW D.T (.loop D.b27_0)) = K
    by_cases hxy : x = y
    · obtain ⟨w, c1⟩ := loop27 n1 n2 4 4 a b hab hl hm1 hm2 j (i + 1) ((i : Int) + 1) .undef .undef .undef rfl rfl rfl (by omega) (by omega)
      refine ⟨w, ?_⟩
      have hc : (a.drop i = b.drop i) = (a.drop (i + 1) = b.drop (i + 1)) := by rw [hda, hdb, hxy]; simp
      simp only [hc]
      rw [decide_eq_true hxy] at e8
      simp [D.b27_0, runFun, LMode.isPure, LVal.pfs, LVal.pf, Go.L.initVars, codeW_seq, codeW_region, codeW_regionD, codeW_cond, codeW_ret, codeW_skip, codeW_exit, codeW_block, codeW_fence, thenW, outW, fenceOut, kill, LVal.withins, LVal.within, runOps, runOpsD, Go.L.step, stepD, semD, sem, RS.peek, RS.put, RS.give, RS.take, RS.takes, RS.takeElems, RS.takeParts, RS.peeks, RS.peekO, RS.setVar, RS.noPk, RS.settle, RS.alloc, callOut, LVal.arg, LVal.isAgg, LVal.cells, LVal.unpk, LVal.copy, LVal.down, LVal.plain, LVal.settled, binL, binInt, binStr, unL, resL, resOne, res1, resAll, LVal.isTup, outL, LOp.quiet, LOp.acts, LOp.peeks, LOper.fix, calmOk, loadCalm, awayOk, dstFree, LVal.free, LVal.calm, LVal.calm1, LOp.opds, optL, RS.acquire, appendL, elemsL, bound, inRange, intL, loadL, storeL, setElems, setParts, fitsElem, lenL, isNilL, partL, chunks, kindsOk, keyKind, o2, o4, o5, e0, e0', e1, e3, e5, e5', e6, e6', e7, e8]
      subst hK
      simpa using c1
    · refine ⟨fun j => [.vs n1 .sh 4 (duesL a), .vs n2 .sh 4 (duesL b), .undef, .int .i64 i, v4.stay, .bool true, .bool true].getD j .undef, ?_⟩
      have hne : ¬ (a.drop i = b.drop i) := by rw [hda, hdb]; simp [hxy]
      rw [if_neg hne]
      rw [decide_eq_false hxy] at e8
      simp [D.b27_0, runFun, LMode.isPure, LVal.pfs, LVal.pf, Go.L.initVars, codeW_seq, codeW_region, codeW_regionD, codeW_cond, codeW_ret, codeW_skip, codeW_exit, codeW_block, codeW_fence, thenW, outW, fenceOut, kill, LVal.withins, LVal.within, runOps, runOpsD, Go.L.step, stepD, semD, sem, RS.peek, RS.put, RS.give, RS.take, RS.takes, RS.takeElems, RS.takeParts, RS.peeks, RS.peekO, RS.setVar, RS.noPk, RS.settle, RS.alloc, callOut, LVal.arg, LVal.isAgg, LVal.cells, LVal.unpk, LVal.copy, LVal.down, LVal.plain, LVal.settled, binL, binInt, binStr, unL, resL, resOne, res1, resAll, LVal.isTup, outL, LOp.quiet, LOp.acts, LOp.peeks, LOper.fix, calmOk, loadCalm, awayOk, dstFree, LVal.free, LVal.calm, LVal.calm1, LOp.opds, optL, RS.acquire, appendL, elemsL, bound, inRange, intL, loadL, storeL, setElems, setParts, fitsElem, lenL, isNilL, partL, chunks, kindsOk, keyKind, o2, o4, o5, e0, e0', e1, e3, e5, e5', e6, e6', e7, e8]
      subst hK
      rfl

open Classical in
set_option maxHeartbeats 4000000 in
theorem dues_eq (n1 n2 : Bool) (m1 m2 : Nat) (a b : List DueS) (hl : a.length ≤ 100) (hl2 : b.length ≤ 100) (hm1 : a ≠ [] → m1 = 4) (hm2 : b ≠ [] → m2 = 4) :
    callW D.T 27 [.vs n1 .sh m1 (duesL a), .vs n2 .sh m2 (duesL b)] [] = some (.bool (decide (a = b)), none) := by
  have e5 : (duesL a).length = a.length := duesL_len a
  have e5' : (duesL b).length = b.length := duesL_len b
  rw [callW_fn fn27]
  by_cases hab : a.length = b.length
  · obtain ⟨w, c1⟩ := loop27 n1 n2 m1 m2 a b hab hl hm1 hm2 a.length 0 0 (.bool false) (.bool false) .undef rfl rfl rfl rfl (by omega)
    simp only [List.drop_zero] at c1
    by_cases he : a = b
    · rw [if_pos he] at c1
      rw [decide_eq_true he]
      simp [D.l27, D.c27, runFun, LMode.isPure, LVal.pfs, LVal.pf, Go.L.initVars, codeW_seq, codeW_region, codeW_regionD, codeW_cond, codeW_ret, codeW_skip, codeW_exit, codeW_block, codeW_fence, thenW, outW, fenceOut, kill, LVal.withins, LVal.within, runOps, runOpsD, Go.L.step, stepD, semD, sem, RS.peek, RS.put, RS.give, RS.take, RS.takes, RS.takeElems, RS.takeParts, RS.peeks, RS.peekO, RS.setVar, RS.noPk, RS.settle, RS.alloc, callOut, LVal.arg, LVal.isAgg, LVal.cells, LVal.unpk, LVal.copy, LVal.down, LVal.plain, LVal.settled, binL, binInt, binStr, unL, resL, resOne, res1, resAll, LVal.isTup, outL, LOp.quiet, LOp.acts, LOp.peeks, LOper.fix, calmOk, loadCalm, awayOk, dstFree, LVal.free, LVal.calm, LVal.calm1, LOp.opds, optL, RS.acquire, appendL, elemsL, bound, inRange, intL, loadL, storeL, setElems, setParts, fitsElem, lenL, isNilL, partL, chunks, e5, e5', hab, c1]
    · rw [if_neg he] at c1
      rw [decide_eq_false he]
      simp [D.l27, D.c27, runFun, LMode.isPure, LVal.pfs, LVal.pf, Go.L.initVars, codeW_seq, codeW_region, codeW_regionD, codeW_cond, codeW_ret, codeW_skip, codeW_exit, codeW_block, codeW_fence, thenW, outW, fenceOut, kill, LVal.withins, LVal.within, runOps, runOpsD, Go.L.step, stepD, semD, sem, RS.peek, RS.put, RS.give, RS.take, RS.takes, RS.takeElems, RS.takeParts, RS.peeks, RS.peekO, RS.setVar, RS.noPk, RS.settle, RS.alloc, callOut, LVal.arg, LVal.isAgg, LVal.cells, LVal.unpk, LVal.copy, LVal.down, LVal.plain, LVal.settled, binL, binInt, binStr, unL, resL, resOne, res1, resAll, LVal.isTup, outL, LOp.quiet, LOp.acts, LOp.peeks, LOper.fix, calmOk, loadCalm, awayOk, dstFree, LVal.free, LVal.calm, LVal.calm1, LOp.opds, optL, RS.acquire, appendL, elemsL, bound, inRange, intL, loadL, storeL, setElems, setParts, fitsElem, lenL, isNilL, partL, chunks, e5, e5', hab, c1]
  · have he : ¬ a = b := fun e => hab (by rw [e])
    have : ¬ (a.length : Int) = (b.length : Int) := by omega
    rw [decide_eq_false he]
    simp [D.l27, D.c27, runFun, LMode.isPure, LVal.pfs, LVal.pf, Go.L.initVars, codeW_seq, codeW_region, codeW_regionD, codeW_cond, codeW_ret, codeW_skip, codeW_exit, codeW_block, codeW_fence, thenW, outW, fenceOut, kill, LVal.withins, LVal.within, runOps, runOpsD, Go.L.step, stepD, semD, sem, RS.peek, RS.put, RS.give, RS.take, RS.takes, RS.takeElems, RS.takeParts, RS.peeks, RS.peekO, RS.setVar, RS.noPk, RS.settle, RS.alloc, callOut, LVal.arg, LVal.isAgg, LVal.cells, LVal.unpk, LVal.copy, LVal.down, LVal.plain, LVal.settled, binL, binInt, binStr, unL, resL, resOne, res1, resAll, LVal.isTup, outL, LOp.quiet, LOp.acts, LOp.peeks, LOper.fix, calmOk, loadCalm, awayOk, dstFree, LVal.free, LVal.calm, LVal.calm1, LOp.opds, optL, RS.acquire, appendL, elemsL, bound, inRange, intL, loadL, storeL, setElems, setParts, fitsElem, lenL, isNilL, partL, chunks, e5, e5', hab, this]
end Go.Proofs.Ytbljgbojkifoiaa
end
section
set_option linter.unusedVariables false
set_option linter.unusedSimpArgs false
namespace Go.Proofs.Ytbljgbojkifoiaa
open Go Go.L

/-- A state's cells, by how its last one lies. -/
def StateS.shut (s : StateS) : Prop := (s.o = .sh ∨ s.o = .full) ∧ (s.due ≠ [] → s.m = 4) ∧ s.due.length ≤ 100
theorem StateS.ok.shut {s : StateS} (h : s.ok) (hf : s.few) : s.shut := ⟨h.2.2.2.2.2.2.1, h.2.2.2.2.2.2.2, by have := hf.1; omega⟩

theorem down_vs (n : Bool) (o : Own) (m : Nat) (l : List LVal) (h : o = .sh ∨ o = .full) : LVal.stay (.vs n o m l) = .vs n o m l ∧ LVal.plain (.vs n o m l) = true ∧ LVal.isOwn (.vs n o m l) = false ∧ LVal.down (.vs n o m l) = .vs n o m l ∧ LVal.copy (.vs n o m l) = some (.vs n o m l) ∧ LVal.arg (.vs n o m l) = .vs n .sh m l ∧ LVal.unpk (.vs n o m l) = .vs n o m l ∧ LVal.pf (.vs n o m l) = true := by
  rcases h with rfl | rfl <;> exact ⟨rfl, rfl, rfl, rfl, rfl, rfl, rfl, rfl⟩

open Classical in
set_option maxHeartbeats 8000000 in
theorem r12 (s t : StateS) (hs : s.shut) (ht : t.shut) (A B : LVal) (bb : Bool) :
    ∃ rs, runOps (callW D.T) D.T.im D.T.impl [] (⟨[], [], rs⟩ : RS) = some ⟨[], [], rs⟩ ∧ codeW D.T D.r12_0 { vars := [A, B, .ptr 0 0, .ptr 1 0, .bool bb], st := [.cells 31 s.cells, .cells 31 t.cells], rs := [] } =
      some (.normal, { vars := [A, B, .ptr 0 0, .ptr 1 0, .bool (decide (Alike s t))], st := [.cells 31 s.cells, .cells 31 t.cells], rs := [] }) := by
  obtain ⟨so, sm, sl⟩ := hs
  obtain ⟨to, tm, tl⟩ := ht
  refine ⟨[], rfl, ?_⟩
  have c1 := dues_eq s.nil t.nil s.m t.m s.due t.due sl tl sm tm
  have E1 := eq_links s.l0 s.l1 s.l2 t.l0 t.l1 t.l2
  have E2 := eq_login s.login t.login
  by_cases h1 : s.l0 = t.l0 ∧ s.l1 = t.l1 ∧ s.l2 = t.l2
  · rw [decide_eq_true h1] at E1
    by_cases h2 : s.login = t.login
    · rw [decide_eq_true h2] at E2
      have hA : decide (Alike s t) = decide (s.due = t.due) := by simp [Alike, h1, h2]
      rw [hA]
      generalize decide (s.due = t.due) = e at c1
      unfold D.r12_0
      simp only [LoginS.cells, StateS.cells, LinkS.cells, List.cons_append, List.nil_append] at E1 E2 ⊢
      rcases so with so | so <;> rcases to with to | to <;> rw [so, to]
      all_goals
        apply regN
        simp only [List.replicate]
        repeat
          apply run_cons
          · first
              | (simp [runFun, LMode.isPure, LVal.pfs, LVal.pf, Go.L.initVars, codeW_seq, codeW_region, codeW_regionD, codeW_cond, codeW_ret, codeW_skip, codeW_exit, codeW_block, codeW_fence, thenW, outW, fenceOut, kill, LVal.withins, LVal.within, runOps, runOpsD, Go.L.step, stepD, semD, sem, RS.peek, RS.put, RS.give, RS.take, RS.takes, RS.takeElems, RS.takeParts, RS.peeks, RS.peekO, RS.setVar, RS.noPk, RS.settle, RS.alloc, callOut, LVal.arg, LVal.isAgg, LVal.cells, LVal.unpk, LVal.copy, LVal.down, LVal.plain, LVal.settled, binL, binInt, binStr, unL, resL, resOne, res1, resAll, LVal.isTup, outL, LOp.quiet, LOp.acts, LOp.peeks, LOper.fix, calmOk, loadCalm, awayOk, dstFree, LVal.free, LVal.calm, LVal.calm1, LOp.opds, optL, RS.acquire, appendL, elemsL, bound, inRange, intL, loadL, storeL, setElems, setParts, fitsElem, lenL, isNilL, partL, chunks, kindsOk, keyKind, E1, E2, c1]; done)
              | (simp [runFun, LMode.isPure, LVal.pfs, LVal.pf, Go.L.initVars, codeW_seq, codeW_region, codeW_regionD, codeW_cond, codeW_ret, codeW_skip, codeW_exit, codeW_block, codeW_fence, thenW, outW, fenceOut, kill, LVal.withins, LVal.within, runOps, runOpsD, Go.L.step, stepD, semD, sem, RS.peek, RS.put, RS.give, RS.take, RS.takes, RS.takeElems, RS.takeParts, RS.peeks, RS.peekO, RS.setVar, RS.noPk, RS.settle, RS.alloc, callOut, LVal.arg, LVal.isAgg, LVal.cells, LVal.unpk, LVal.copy, LVal.down, LVal.plain, LVal.settled, binL, binInt, binStr, unL, resL, resOne, res1, resAll, LVal.isTup, outL, LOp.quiet, LOp.acts, LOp.peeks, LOper.fix, calmOk, loadCalm, awayOk, dstFree, LVal.free, LVal.calm, LVal.calm1, LOp.opds, optL, RS.acquire, appendL, elemsL, bound, inRange, intL, loadL, storeL, setElems, setParts, fitsElem, lenL, isNilL, partL, chunks, kindsOk, keyKind, E1, E2, c1]; rfl)
        exact run_nil
    · rw [decide_eq_false h2] at E2
      have hA : decide (Alike s t) = false := by simp [Alike, h2]
      rw [hA]
      unfold D.r12_0
      simp only [LoginS.cells, StateS.cells, LinkS.cells, List.cons_append, List.nil_append] at E1 E2 ⊢
      rcases so with so | so <;> rcases to with to | to <;> rw [so, to]
      all_goals
        apply regN
        simp only [List.replicate]
        repeat
          apply run_cons
          · first
              | (simp [runFun, LMode.isPure, LVal.pfs, LVal.pf, Go.L.initVars, codeW_seq, codeW_region, codeW_regionD, codeW_cond, codeW_ret, codeW_skip, codeW_exit, codeW_block, codeW_fence, thenW, outW, fenceOut, kill, LVal.withins, LVal.within, runOps, runOpsD, Go.L.step, stepD, semD, sem, RS.peek, RS.put, RS.give, RS.take, RS.takes, RS.takeElems, RS.takeParts, RS.peeks, RS.peekO, RS.setVar, RS.noPk, RS.settle, RS.alloc, callOut, LVal.arg, LVal.isAgg, LVal.cells, LVal.unpk, LVal.copy, LVal.down, LVal.plain, LVal.settled, binL, binInt, binStr, unL, resL, resOne, res1, resAll, LVal.isTup, outL, LOp.quiet, LOp.acts, LOp.peeks, LOper.fix, calmOk, loadCalm, awayOk, dstFree, LVal.free, LVal.calm, LVal.calm1, LOp.opds, optL, RS.acquire, appendL, elemsL, bound, inRange, intL, loadL, storeL, setElems, setParts, fitsElem, lenL, isNilL, partL, chunks, kindsOk, keyKind, E1, E2]; done)
              | (simp [runFun, LMode.isPure, LVal.pfs, LVal.pf, Go.L.initVars, codeW_seq, codeW_region, codeW_regionD, codeW_cond, codeW_ret, codeW_skip, codeW_exit, codeW_block, codeW_fence, thenW, outW, fenceOut, kill, LVal.withins, LVal.within, runOps, runOpsD, Go.L.step, stepD, semD, sem, RS.peek, RS.put, RS.give, RS.take, RS.takes, RS.takeElems, RS.takeParts, RS.peeks, RS.peekO, RS.setVar, RS.noPk, RS.settle, RS.alloc, callOut, LVal.arg, LVal.isAgg, LVal.cells, LVal.unpk, LVal.copy, LVal.down, LVal.plain, LVal.settled, binL, binInt, binStr, unL, resL, resOne, res1, resAll, LVal.isTup, outL, LOp.quiet, LOp.acts, LOp.peeks, LOper.fix, calmOk, loadCalm, awayOk, dstFree, LVal.free, LVal.calm, LVal.calm1, LOp.opds, optL, RS.acquire, appendL, elemsL, bound, inRange, intL, loadL, storeL, setElems, setParts, fitsElem, lenL, isNilL, partL, chunks, kindsOk, keyKind, E1, E2]; rfl)
        exact run_nil
  · rw [decide_eq_false h1] at E1
    have hA : decide (Alike s t) = false := by simp only [Alike, h1, false_and]; simp
    rw [hA]
    unfold D.r12_0
    simp only [LoginS.cells, StateS.cells, LinkS.cells, List.cons_append, List.nil_append] at E1 E2 ⊢
    rcases so with so | so <;> rcases to with to | to <;> rw [so, to]
    all_goals
      apply regN
      simp only [List.replicate]
      repeat
        apply run_cons
        · first
            | (simp [runFun, LMode.isPure, LVal.pfs, LVal.pf, Go.L.initVars, codeW_seq, codeW_region, codeW_regionD, codeW_cond, codeW_ret, codeW_skip, codeW_exit, codeW_block, codeW_fence, thenW, outW, fenceOut, kill, LVal.withins, LVal.within, runOps, runOpsD, Go.L.step, stepD, semD, sem, RS.peek, RS.put, RS.give, RS.take, RS.takes, RS.takeElems, RS.takeParts, RS.peeks, RS.peekO, RS.setVar, RS.noPk, RS.settle, RS.alloc, callOut, LVal.arg, LVal.isAgg, LVal.cells, LVal.unpk, LVal.copy, LVal.down, LVal.plain, LVal.settled, binL, binInt, binStr, unL, resL, resOne, res1, resAll, LVal.isTup, outL, LOp.quiet, LOp.acts, LOp.peeks, LOper.fix, calmOk, loadCalm, awayOk, dstFree, LVal.free, LVal.calm, LVal.calm1, LOp.opds, optL, RS.acquire, appendL, elemsL, bound, inRange, intL, loadL, storeL, setElems, setParts, fitsElem, lenL, isNilL, partL, chunks, kindsOk, keyKind, E1, E2]; done)
            | (simp [runFun, LMode.isPure, LVal.pfs, LVal.pf, Go.L.initVars, codeW_seq, codeW_region, codeW_regionD, codeW_cond, codeW_ret, codeW_skip, codeW_exit, codeW_block, codeW_fence, thenW, outW, fenceOut, kill, LVal.withins, LVal.within, runOps, runOpsD, Go.L.step, stepD, semD, sem, RS.peek, RS.put, RS.give, RS.take, RS.takes, RS.takeElems, RS.takeParts, RS.peeks, RS.peekO, RS.setVar, RS.noPk, RS.settle, RS.alloc, callOut, LVal.arg, LVal.isAgg, LVal.cells, LVal.unpk, LVal.copy, LVal.down, LVal.plain, LVal.settled, binL, binInt, binStr, unL, resL, resOne, res1, resAll, LVal.isTup, outL, LOp.quiet, LOp.acts, LOp.peeks, LOper.fix, calmOk, loadCalm, awayOk, dstFree, LVal.free, LVal.calm, LVal.calm1, LOp.opds, optL, RS.acquire, appendL, elemsL, bound, inRange, intL, loadL, storeL, setElems, setParts, fitsElem, lenL, isNilL, partL, chunks, kindsOk, keyKind, E1, E2]; rfl)
      exact run_nil

open Classical in
set_option maxHeartbeats 2000000 in
theorem same_eq (s t : StateS) (hs : s.shut) (ht : t.shut) : callW D.T 12 [.agg s.cells, .agg t.cells] [] = some (.bool (decide (Alike s t)), none) := by
  obtain ⟨_, _, c1⟩ := r12 s t hs ht (.agg s.cells) (.agg t.cells) false
  rw [callW_fn fn12]
  generalize decide (Alike s t) = e at c1
  obtain ⟨so, _, _⟩ := hs
  obtain ⟨to, _, _⟩ := ht
  simp only [LoginS.cells, StateS.cells, LinkS.cells, List.cons_append, List.nil_append] at c1 ⊢
  rcases so with so | so <;> rcases to with to | to <;> rw [so, to] at c1 ⊢ <;>
  simp [D.l12, D.c12, runFun, LMode.isPure, LVal.pfs, LVal.pf, Go.L.initVars, codeW_seq, codeW_region, codeW_regionD, codeW_cond, codeW_ret, codeW_skip, codeW_exit, codeW_block, codeW_fence, thenW, outW, fenceOut, kill, LVal.withins, LVal.within, runOps, runOpsD, Go.L.step, stepD, semD, sem, RS.peek, RS.put, RS.give, RS.take, RS.takes, RS.takeElems, RS.takeParts, RS.peeks, RS.peekO, RS.setVar, RS.noPk, RS.settle, RS.alloc, callOut, LVal.arg, LVal.isAgg, LVal.cells, LVal.unpk, LVal.copy, LVal.down, LVal.plain, LVal.settled, binL, binInt, binStr, unL, resL, resOne, res1, resAll, LVal.isTup, outL, LOp.quiet, LOp.acts, LOp.peeks, LOper.fix, calmOk, loadCalm, awayOk, dstFree, LVal.free, LVal.calm, LVal.calm1, LOp.opds, optL, RS.acquire, appendL, elemsL, bound, inRange, intL, loadL, storeL, setElems, setParts, fitsElem, lenL, isNilL, partL, chunks, c1]
end Go.Proofs.Ytbljgbojkifoiaa
end
section
set_option linter.unusedVariables false
set_option linter.unusedSimpArgs false
namespace Go.Proofs.Ytbljgbojkifoiaa
open Go Go.L

theorem split44 : ∀ {x y r r' : List UInt8}, (44 : UInt8) ∉ x → (44 : UInt8) ∉ y → x ++ 44 :: r = y ++ 44 :: r' → x = y ∧ r = r'
  | [], [], r, r', _, _, h => by simpa using h
  | [], b :: y, r, r', _, hy, h => by
    simp only [List.nil_append, List.cons_append, List.cons.injEq] at h
    exact absurd (List.mem_cons.2 (.inl h.1)) hy
  | a :: x, [], r, r', hx, _, h => by
    simp only [List.nil_append, List.cons_append, List.cons.injEq] at h
    exact absurd (List.mem_cons.2 (.inl h.1.symm)) hx
  | a :: x, b :: y, r, r', hx, hy, h => by
    simp only [List.cons_append, List.cons.injEq] at h
    obtain ⟨h1, h2⟩ := split44 (fun hm => hx (List.mem_cons_of_mem _ hm)) (fun hm => hy (List.mem_cons_of_mem _ hm)) h.2
    exact ⟨by rw [h.1, h1], h2⟩

theorem dig10 (m : Nat) (h : m < 10) : (dig m).toNat = 48 + m := by simp [dig, h]; omega
theorem dig16 : ∀ m : Nat, m < 16 → 48 ≤ (dig m).toNat ∧ ∀ k : Nat, k < 16 → dig m = dig k → m = k := by decide
theorem dec_mem : ∀ (n : Nat) (x : UInt8), x ∈ dec n → 48 ≤ x.toNat := by
  intro n
  induction n using Nat.strongRecOn with
  | ind n ih =>
    intro x hx
    rw [dec] at hx
    split at hx
    · simp at hx; subst hx; exact (dig16 n (by omega)).1
    · rcases List.mem_append.1 hx with hx | hx
      · exact ih (n / 10) (by omega) x hx
      · simp at hx; subst hx; exact (dig16 _ (by omega)).1
def val (l : List UInt8) : Nat := l.foldl (fun a b => a * 10 + (b.toNat - 48)) 0
theorem val_dec : ∀ n : Nat, val (dec n) = n := by
  intro n
  induction n using Nat.strongRecOn with
  | ind n ih =>
    rw [dec]
    split
    · rename_i h; simp [val, dig10 n h]
    · rename_i h
      have := ih (n / 10) (by omega)
      unfold val at this ⊢
      rw [List.foldl_append, this]
      simp only [List.foldl_cons, List.foldl_nil]
      rw [dig10 _ (by omega)]
      omega
theorem dec_inj {a b : Nat} (h : dec a = dec b) : a = b := by rw [← val_dec a, ← val_dec b, h]

def core (n : Int) : List UInt8 := if n < 0 then 45 :: dec n.natAbs else dec n.toNat
theorem numB_core (n : Int) : numB n = core n ++ [44] := by unfold numB core; split <;> simp
theorem not44 {l : List UInt8} (h : ∀ x ∈ l, 48 ≤ x.toNat) : (44 : UInt8) ∉ l := fun hm => by have := h _ hm; simp at this
theorem core44 (n : Int) : (44 : UInt8) ∉ core n := by
  unfold core
  split
  · intro hm
    rcases List.mem_cons.1 hm with h | h
    · cases h
    · exact not44 (dec_mem _) h
  · exact not44 (dec_mem _)
theorem core_inj {a b : Int} (h : core a = core b) : a = b := by
  unfold core at h
  have hne : ∀ (n : Nat) (l : List UInt8), dec n ≠ 45 :: l := fun n l e => by
    have := dec_mem n 45 (by rw [e]; exact List.mem_cons_self ..)
    simp at this
  split at h
  · split at h
    · have := dec_inj (List.cons.inj h).2; omega
    · exact absurd h.symm (hne _ _)
  · split at h
    · exact absurd h (hne _ _)
    · have := dec_inj h; omega

theorem num_inj {a b : Int} {r r' : List UInt8} (h : numB a ++ r = numB b ++ r') : a = b ∧ r = r' := by
  rw [numB_core, numB_core] at h
  simp only [List.append_assoc, List.cons_append, List.nil_append] at h
  obtain ⟨h1, h2⟩ := split44 (core44 _) (core44 _) h
  exact ⟨core_inj h1, h2⟩
theorem truth_inj {a b : Bool} {r r' : List UInt8} (h : truthB a ++ r = truthB b ++ r') : a = b ∧ r = r' := by
  cases a <;> cases b <;> simp [truthB] at h ⊢ <;> exact h
theorem hex_mem : ∀ (l : List UInt8) (x : UInt8), x ∈ hexB l → 48 ≤ x.toNat
  | [], x, h => by simp [hexB] at h
  | b :: l, x, h => by
    have hb : b.toNat < 256 := b.toNat_lt
    simp only [hexB, List.mem_cons] at h
    rcases h with rfl | rfl | h
    · exact (dig16 _ (by omega)).1
    · exact (dig16 _ (by omega)).1
    · exact hex_mem l x h
theorem hex_inj : ∀ {a b : List UInt8}, hexB a = hexB b → a = b
  | [], [], _ => rfl
  | [], b :: l, h => by simp [hexB] at h
  | a :: l, [], h => by simp [hexB] at h
  | a :: l, b :: m, h => by
    simp only [hexB, List.cons.injEq] at h
    have ha : a.toNat < 256 := a.toNat_lt
    have hb : b.toNat < 256 := b.toNat_lt
    have h1 := (dig16 _ (by omega)).2 _ (by omega) h.1
    have h2 := (dig16 _ (by omega)).2 _ (by omega) h.2.1
    have : a = b := UInt8.toNat_inj.1 (by omega)
    rw [this, hex_inj h.2.2]
theorem text_inj {a b r r' : List UInt8} (h : textB a ++ r = textB b ++ r') : a = b ∧ r = r' := by
  simp only [textB, List.append_assoc, List.cons_append, List.nil_append] at h
  obtain ⟨h1, h2⟩ := split44 (not44 (hex_mem _)) (not44 (hex_mem _)) h
  exact ⟨hex_inj h1, h2⟩
theorem link_inj {a b : LinkS} {r r' : List UInt8} (h : linkB a ++ r = linkB b ++ r') : a = b ∧ r = r' := by
  simp only [linkB, List.append_assoc] at h
  obtain ⟨h1, h⟩ := num_inj h
  obtain ⟨h2, h⟩ := num_inj h
  obtain ⟨h3, h⟩ := num_inj h
  obtain ⟨h4, h⟩ := truth_inj h
  obtain ⟨h5, h⟩ := truth_inj h
  obtain ⟨h6, h⟩ := num_inj h
  obtain ⟨h7, h⟩ := text_inj h
  exact ⟨link_ext.2 ⟨h1, h2, h3, h4, h5, h6, h7⟩, h⟩
theorem login_inj {a b : LoginS} {r r' : List UInt8} (h : loginB a ++ r = loginB b ++ r') : a = b ∧ r = r' := by
  simp only [loginB, List.append_assoc] at h
  obtain ⟨h1, h⟩ := num_inj h
  obtain ⟨h2, h⟩ := num_inj h
  obtain ⟨h3, h⟩ := truth_inj h
  obtain ⟨h4, h⟩ := truth_inj h
  obtain ⟨h5, h⟩ := truth_inj h
  obtain ⟨h6, h⟩ := num_inj h
  obtain ⟨h7, h⟩ := text_inj h
  obtain ⟨h8, h⟩ := truth_inj h
  obtain ⟨h9, h⟩ := num_inj h
  exact ⟨login_ext.2 ⟨h1, h2, h3, h4, h5, h6, h7, h8, h9⟩, h⟩
theorem due_inj {a b : DueS} {r r' : List UInt8} (h : dueB a ++ r = dueB b ++ r') : a = b ∧ r = r' := by
  simp only [dueB, List.append_assoc] at h
  obtain ⟨h1, h⟩ := num_inj h
  obtain ⟨h2, h⟩ := num_inj h
  obtain ⟨h3, h⟩ := num_inj h
  obtain ⟨h4, h⟩ := text_inj h
  exact ⟨due_ext.2 ⟨h1, h2, h3, h4⟩, h⟩
theorem dues_inj : ∀ {a b : List DueS}, a.length = b.length → duesB a = duesB b → a = b
  | [], [], _, _ => rfl
  | [], b :: l, h, _ => by simp at h
  | a :: l, [], h, _ => by simp at h
  | a :: l, b :: m, hl, h => by
    simp only [duesB] at h
    obtain ⟨h1, h2⟩ := due_inj h
    rw [h1, dues_inj (by simpa using hl) h2]
/-- ONE KEY JUST WHERE ALIKE. -/
theorem key_inj (a b : StateS) : keyB a = keyB b ↔ Alike a b := by
  constructor
  · intro h
    simp only [keyB] at h
    obtain ⟨h1, h⟩ := link_inj h
    obtain ⟨h2, h⟩ := link_inj h
    obtain ⟨h3, h⟩ := link_inj h
    obtain ⟨h4, h⟩ := login_inj h
    obtain ⟨h5, h⟩ := num_inj h
    exact ⟨⟨h1, h2, h3⟩, h4, dues_inj (by omega) h⟩
  · rintro ⟨⟨h1, h2, h3⟩, h4, h5⟩
    simp only [keyB, h1, h2, h3, h4, h5]
end Go.Proofs.Ytbljgbojkifoiaa
end
