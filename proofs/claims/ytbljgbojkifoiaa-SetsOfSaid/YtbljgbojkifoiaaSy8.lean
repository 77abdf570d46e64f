/- The document's key, whole. -/
import Derived.Test.YtbljgbojkifoiaaSy7
import Derived.Test.YtbljgbojkifoiaaSy7b
import Derived.Test.YtbljgbojkifoiaaSy7c
set_option linter.unusedVariables false
set_option linter.unusedSimpArgs false
namespace Go.Proofs.Ytbljgbojkifoiaa
open Go Go.L

set_option maxHeartbeats 4000000 in
theorem link11 (cs : List LVal) (hlen : cs.length = 31) (hcs : cs.map LVal.stay = cs) (hdn : cs.map LVal.down = cs) (hw : ∀ n, LVal.withins n cs = true) (i : Nat) (hi : i < 3) (l : LinkS) (hp : (cs.drop (i * 7)).take 7 = l.cells) (hl : l.ok) (ho : l.opts.length ≤ 500) (k : List UInt8) (hk : k.length ≤ 1000000)
    (v0 v2 v5 v6 v7 v8 v9 v10 : LVal) (o5 : v5.isOwn = false) (o9 : v9.isOwn = false) :
    codeW D.T D.b11_1 { vars := [v0, .ptr 0 0, v2, .str k, .int .i64 i, v5, v6, v7, v8, v9, v10], st := [.cells 31 cs], rs := [] } =
      some (.normal, { vars := [.undef, .ptr 0 0, .undef, .str (k ++ linkB l), .int .i64 (i + 1), .undef, .undef, .undef, .undef, .undef, .undef], st := [.cells 31 cs], rs := [] }) := by
  have hr := r11a cs hcs l hl ho k hk v0 v2 v6 v7 v8 v10 i
  simp only [LinkS.cells] at hp hr
  have e1 : (i : Int) < 3 := by omega
  have e2 : i * 7 + 7 ≤ 31 := by omega
  have e3 : IntKind.i64.wrap ((i : Int) + 1) = (i : Int) + 1 := wi64 (by omega) (by omega)
  simp [D.b11_1, runFun, LMode.isPure, LVal.pfs, LVal.pf, Go.L.initVars, codeW_seq, codeW_region, codeW_regionD, codeW_cond, codeW_ret, codeW_skip, codeW_exit, codeW_block, codeW_fence, thenW, outW, fenceOut, kill, LVal.withins, LVal.within, runOps, runOpsD, Go.L.step, stepD, semD, sem, RS.peek, RS.put, RS.give, RS.take, RS.takes, RS.takeElems, RS.takeParts, RS.peeks, RS.peekO, RS.setVar, RS.noPk, RS.settle, RS.alloc, callOut, LVal.arg, LVal.isAgg, LVal.cells, LVal.unpk, LVal.copy, LVal.down, LVal.plain, LVal.settled, binL, binInt, binStr, unL, resL, resOne, res1, resAll, LVal.isTup, outL, LOp.quiet, LOp.acts, LOp.peeks, LOper.fix, calmOk, loadCalm, awayOk, dstFree, LVal.free, LVal.calm, LVal.calm1, LOp.opds, optL, RS.acquire, appendL, elemsL, bound, inRange, intL, loadL, storeL, setElems, setParts, fitsElem, lenL, isNilL, partL, chunks, o5, o9, e1, e2, e3, hlen, hdn, hp, hw, hr]

theorem fn11 : D.T.fns 11 = some (.fn D.l11) := rfl
set_option maxHeartbeats 4000000 in
theorem rkey_eq (s : StateS) (hok : s.ok) (hf : s.few) : callW D.T 11 [.agg s.cells] [] = some (.str (keyB s), none) := by
  obtain ⟨q0, q1, q2, q3, q4, q5, qo, qm⟩ := hok
  have hsc : s.cells.map LVal.stay = s.cells := by simp only [StateS.cells]; rcases qo with ho | ho <;> rw [ho] <;> rfl
  have hsd : s.cells.map LVal.down = s.cells := by simp only [StateS.cells]; rcases qo with ho | ho <;> rw [ho] <;> rfl
  obtain ⟨f1, f2, f3, f4, f5, f6⟩ := hf
  have lb0 : (linkB s.l0).length ≤ 1200 := by
    obtain ⟨q1, q2, q3, q4⟩ := q0
    have n1 := numB_len q1; have n2 := numB_len q2; have n3 := numB_len q3; have n4 := numB_len q4; have n5 := truthB_len s.l0.sent; have n6 := truthB_len s.l0.answered; have n7 := textB_len s.l0.opts
    simp only [linkB, List.length_append]; omega
  have lb1 : (linkB s.l1).length ≤ 1200 := by
    obtain ⟨q1, q2, q3, q4⟩ := q1
    have n1 := numB_len q1; have n2 := numB_len q2; have n3 := numB_len q3; have n4 := numB_len q4; have n5 := truthB_len s.l1.sent; have n6 := truthB_len s.l1.answered; have n7 := textB_len s.l1.opts
    simp only [linkB, List.length_append]; omega
  have lb2 : (linkB s.l2).length ≤ 1200 := by
    obtain ⟨q1, q2, q3, q4⟩ := q2
    have n1 := numB_len q1; have n2 := numB_len q2; have n3 := numB_len q3; have n4 := numB_len q4; have n5 := truthB_len s.l2.sent; have n6 := truthB_len s.l2.answered; have n7 := textB_len s.l2.opts
    simp only [linkB, List.length_append]; omega
  have lgb : (loginB s.login).length ≤ 1300 := by
    obtain ⟨h1, h2, h3, h4⟩ := q3
    have n1 := numB_len h1; have n2 := numB_len h2; have n3 := numB_len h3; have n4 := numB_len h4; have n5 := truthB_len s.login.oursOk; have n6 := truthB_len s.login.theirsOk; have n8 := truthB_len s.login.open_; have n9 := truthB_len s.login.asked; have n7 := textB_len s.login.value
    simp only [loginB, List.length_append]; omega
  have hdl : i64 (s.due.length : Int) := ⟨by omega, by omega⟩
  have ndl := numB_len hdl
  have k1 := link11 s.cells rfl hsc hsd (fun n => rfl) 0 (by omega) s.l0 rfl q0 f3 [] (by simp) (.agg s.cells) (.str []) .undef .undef .undef .undef .undef .undef rfl rfl
  have k2 := link11 s.cells rfl hsc hsd (fun n => rfl) 1 (by omega) s.l1 rfl q1 f4 _ (show ([] ++ linkB s.l0).length ≤ 1000000 by simp; omega) .undef .undef .undef .undef .undef .undef .undef .undef rfl rfl
  have k3 := link11 s.cells rfl hsc hsd (fun n => rfl) 2 (by omega) s.l2 rfl q2 f5 _ (show ([] ++ linkB s.l0 ++ linkB s.l1).length ≤ 1000000 by simp only [List.length_append, List.length_nil]; omega) .undef .undef .undef .undef .undef .undef .undef .undef rfl rfl
  have hexit : codeW D.T D.b11_1 { vars := [.undef, .ptr 0 0, .undef, .str ([] ++ linkB s.l0 ++ linkB s.l1 ++ linkB s.l2), .int .i64 3, .undef, .undef, .undef, .undef, .undef, .undef], st := [.cells 31 s.cells], rs := [] } =
      some (.exit 0, { vars := [.undef, .ptr 0 0, .undef, .str ([] ++ linkB s.l0 ++ linkB s.l1 ++ linkB s.l2), .int .i64 3, .undef, .undef, .undef, .undef, .bool false, .undef], st := [.cells 31 s.cells], rs := [] }) := by
    simp [D.b11_1, runFun, LMode.isPure, LVal.pfs, LVal.pf, Go.L.initVars, codeW_seq, codeW_region, codeW_regionD, codeW_cond, codeW_ret, codeW_skip, codeW_exit, codeW_block, codeW_fence, thenW, outW, fenceOut, kill, LVal.withins, LVal.within, runOps, runOpsD, Go.L.step, stepD, semD, sem, RS.peek, RS.put, RS.give, RS.take, RS.takes, RS.takeElems, RS.takeParts, RS.peeks, RS.peekO, RS.setVar, RS.noPk, RS.settle, RS.alloc, callOut, LVal.arg, LVal.isAgg, LVal.cells, LVal.unpk, LVal.copy, LVal.down, LVal.plain, LVal.settled, binL, binInt, binStr, unL, resL, resOne, res1, resAll, LVal.isTup, outL, LOp.quiet, LOp.acts, LOp.peeks, LOper.fix, calmOk, loadCalm, awayOk, dstFree, LVal.free, LVal.calm, LVal.calm1, LOp.opds, optL, RS.acquire, appendL, elemsL, bound, inRange, intL, loadL, storeL, setElems, setParts, fitsElem, lenL, isNilL, partL, chunks]
  have hloop : codeW D.T (.loop D.b11_1) { vars := [.agg s.cells, .ptr 0 0, .str [], .str [], .int .i64 0, .undef, .undef, .undef, .undef, .undef, .undef], st := [.cells 31 s.cells], rs := [] } =
      some (.exit 0, { vars := [.undef, .ptr 0 0, .undef, .str ([] ++ linkB s.l0 ++ linkB s.l1 ++ linkB s.l2), .int .i64 3, .undef, .undef, .undef, .undef, .bool false, .undef], st := [.cells 31 s.cells], rs := [] }) := by
    have k1' : codeW D.T D.b11_1 { vars := [.agg s.cells, .ptr 0 0, .str [], .str [], .int .i64 0, .undef, .undef, .undef, .undef, .undef, .undef], st := [.cells 31 s.cells], rs := [] } = _ := k1
    rw [codeW_loop, k1']
    simp only [Option.bind_some, thenW_normal]
    rw [codeW_loop]
    rw [show ((1 : Nat) : Int) = ((0 : Nat) : Int) + 1 by rfl] at k2
    rw [k2]
    simp only [Option.bind_some, thenW_normal]
    rw [codeW_loop]
    rw [show ((2 : Nat) : Int) = ((0 : Nat) : Int) + 1 + 1 by rfl] at k3
    rw [k3]
    simp only [Option.bind_some, thenW_normal]
    rw [codeW_loop]
    rw [show (((0 : Nat) : Int) + 1 + 1 + 1) = 3 by rfl, hexit]
    rfl
  generalize hK0 : ([] ++ linkB s.l0 ++ linkB s.l1 ++ linkB s.l2) = k0 at hloop
  have hk0 : k0.length ≤ 4000 := by rw [← hK0]; simp only [List.length_append, List.length_nil]; omega
  have hb := r11b s q3 f2 qo f1 k0 (by omega) .undef .undef .undef .undef .undef .undef .undef .undef
  obtain ⟨w, hd⟩ := due11 s qo qm q4 f6 f1 s.due.length 0 0 (k0 ++ (loginB s.login ++ numB s.due.length)) .undef .undef .undef .undef (.ptr 1 0) .undef .undef .undef rfl rfl rfl rfl rfl (by omega) (by simp only [List.length_append]; omega)
  have hkey : k0 ++ (loginB s.login ++ numB (s.due.length : Int)) ++ duesB (s.due.drop 0) = keyB s := by rw [← hK0]; simp [keyB]
  rw [hkey] at hd
  have e5 : (duesL s.due).length = s.due.length := duesL_len s.due
  have e7 : ∀ n, LVal.withins n (duesL s.due) = true := fun n => duesL_within n s.due
  rw [callW_fn fn11]
  simp only [StateS.cells, LinkS.cells, LoginS.cells, List.cons_append, List.nil_append, stay_undef] at hloop hb hd ⊢
  rcases qo with ho | ho <;> simp only [ho] at hloop hb hd ⊢ <;>
  simp [D.l11, D.c11, runFun, LMode.isPure, LVal.pfs, LVal.pf, Go.L.initVars, codeW_seq, codeW_region, codeW_regionD, codeW_cond, codeW_ret, codeW_skip, codeW_exit, codeW_block, codeW_fence, thenW, outW, fenceOut, kill, LVal.withins, LVal.within, runOps, runOpsD, Go.L.step, stepD, semD, sem, RS.peek, RS.put, RS.give, RS.take, RS.takes, RS.takeElems, RS.takeParts, RS.peeks, RS.peekO, RS.setVar, RS.noPk, RS.settle, RS.alloc, callOut, LVal.arg, LVal.isAgg, LVal.cells, LVal.unpk, LVal.copy, LVal.down, LVal.plain, LVal.settled, binL, binInt, binStr, unL, resL, resOne, res1, resAll, LVal.isTup, outL, LOp.quiet, LOp.acts, LOp.peeks, LOper.fix, calmOk, loadCalm, awayOk, dstFree, LVal.free, LVal.calm, LVal.calm1, LOp.opds, optL, RS.acquire, appendL, elemsL, bound, inRange, intL, loadL, storeL, setElems, setParts, fitsElem, lenL, isNilL, partL, chunks, hloop, hb, hd, e5, e7]
end Go.Proofs.Ytbljgbojkifoiaa
