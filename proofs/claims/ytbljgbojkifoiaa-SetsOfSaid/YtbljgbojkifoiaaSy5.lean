/- The key of an endpoint, whole. -/
import Derived.Test.YtbljgbojkifoiaaSy4
set_option linter.unusedVariables false
set_option linter.unusedSimpArgs false
namespace Go.Proofs.Ytbljgbojkifoiaa
open Go Go.L

theorem duesL_len (l : List DueS) : (duesL l).length = l.length := by simp [duesL]
theorem duesL_get (l : List DueS) (i : Nat) : (duesL l)[i]? = (l[i]?).map fun d => .agg d.cells := by simp [duesL]
theorem duesL_within (n : Nat) : ∀ (l : List DueS), LVal.withins n (duesL l) = true
  | [] => rfl
  | d :: l => by
    have := duesL_within n l
    simp only [duesL, List.map_cons, LVal.withins] at this ⊢
    rw [this]; rfl
theorem duesB_len : ∀ (l : List DueS), (∀ d ∈ l, d.ok) → (∀ d ∈ l, d.data.length ≤ 500) → (duesB l).length ≤ 1100 * l.length
  | [], _, _ => by simp [duesB]
  | d :: l, h, k => by
    have := duesB_len l (fun x hx => h x (List.mem_cons_of_mem _ hx)) (fun x hx => k x (List.mem_cons_of_mem _ hx))
    obtain ⟨h1, h2, h3⟩ := h d (List.mem_cons_self ..)
    have n1 := numB_len h1; have n2 := numB_len h2; have n3 := numB_len h3; have n7 := textB_len d.data
    have := k d (List.mem_cons_self ..)
    simp only [duesB, dueB, List.length_append, List.length_cons]
    omega

set_option maxHeartbeats 2000000 in
theorem due_loop (o0 : LObj) (h0 : ∀ n, o0.within n = true) (h1 : o0.settle = o0) (lg : LoginS) (nl : Bool) (o : Own) (ho : o = .sh ∨ o = .full) (m : Nat) (l : List DueS) (hm : l ≠ [] → m = 4) (hok : ∀ d ∈ l, d.ok) (hsh : ∀ d ∈ l, d.data.length ≤ 500) (hlen : l.length ≤ 20) : ∀ (j i : Nat) (z : Int) (p a : LVal) (bs : List UInt8)
    (v0 v1 v2 v4 v5 v6 v7 v8 v9 v13 : LVal), v13.isOwn = false → v6.isOwn = false → z = i → i + j = l.length → Buf p a bs → bs.length + 1100 * j ≤ 500000 →
    ∃ (a' : LVal) (w : Nat → LVal), codeW D.T (.loop D.b10_1) { vars := [v0, v1, v2, .ptr 1 0, v4, v5, v6, v7, v8, v9, .vs nl o m (duesL l), .int .i64 l.length, .int .i64 z, v13], st := [o0, .cells 49 [p, a], .cells 28 lg.cells], rs := [] } =
      some (.exit 2, { vars := [w 0, w 1, w 2, .ptr 1 0, w 4, w 5, w 6, w 7, w 8, w 9, .vs nl o m (duesL l), .int .i64 l.length, .int .i64 l.length, .bool false], st := [o0, .cells 49 [if j = 0 then p else .ptr 1 0, a'], .cells 28 lg.cells], rs := [] }) ∧ Buf (if j = 0 then p else .ptr 1 0) a' (bs ++ duesB (l.drop i))
  | 0, i, z, p, a, bs, v0, v1, v2, v4, v5, v6, v7, v8, v9, v13, o13, o6, hz, hij, hb, hbl => by
    subst hz
    have hi : i = l.length := by omega
    subst hi
    refine ⟨a, fun k => [v0, v1, v2, .undef, v4, v5, v6, v7, v8, v9].getD k .undef, ?_, by simpa [duesB] using hb⟩
    rw [codeW_loop]
    rcases ho with rfl | rfl <;> simp [D.b10_1, runFun, LMode.isPure, LVal.pfs, LVal.pf, Go.L.initVars, codeW_seq, codeW_region, codeW_regionD, codeW_cond, codeW_ret, codeW_skip, codeW_exit, codeW_block, codeW_fence, thenW, outW, fenceOut, kill, LVal.withins, LVal.within, runOps, runOpsD, Go.L.step, stepD, semD, sem, RS.peek, RS.put, RS.give, RS.take, RS.takes, RS.takeElems, RS.takeParts, RS.peeks, RS.peekO, RS.setVar, RS.noPk, RS.settle, RS.alloc, callOut, LVal.arg, LVal.isAgg, LVal.cells, LVal.unpk, LVal.copy, LVal.down, LVal.plain, LVal.settled, binL, binInt, binStr, unL, resL, resOne, res1, resAll, LVal.isTup, outL, LOp.quiet, LOp.acts, LOp.peeks, LOper.fix, calmOk, loadCalm, awayOk, dstFree, LVal.free, LVal.calm, LVal.calm1, LOp.opds, optL, RS.acquire, appendL, elemsL, bound, inRange, intL, loadL, storeL, setElems, setParts, fitsElem, lenL, isNilL, partL, chunks, o13]
  | j + 1, i, z, p, a, bs, v0, v1, v2, v4, v5, v6, v7, v8, v9, v13, o13, o6, hz, hij, hb, hbl => by
    subst hz
    have hi : i < l.length := by omega
    obtain ⟨d, hd⟩ : ∃ d, l[i]? = some d := ⟨_, List.getElem?_eq_getElem hi⟩
    have hdm : d ∈ l := List.mem_of_getElem? hd
    have hdrop : l.drop i = d :: l.drop (i + 1) := by
      rw [List.drop_eq_getElem_cons hi]
      rw [List.getElem?_eq_getElem hi] at hd; injection hd with hd; rw [hd]
    have hB : Beside o0 [.cells 28 lg.cells, .cells 43 d.cells] := ⟨h0 _, by intro x hx; simp at hx; rcases hx with rfl | rfl <;> rfl, h1, rfl⟩
    obtain ⟨a1, a2, a3, a4, k1, k2, k3, k4, b4⟩ := due_calls o0 [.cells 28 lg.cells, .cells 43 d.cells] d (hok d hdm) (hsh d hdm) hB p a bs hb (by omega)
    have hdl : (dueB d).length ≤ 1100 := by
      obtain ⟨q1, q2, q3⟩ := hok d hdm
      have n1 := numB_len q1; have n2 := numB_len q2; have n3 := numB_len q3; have n7 := textB_len d.data
      have := hsh d hdm
      simp only [dueB, List.length_append]; omega
    obtain ⟨a', w, c1, c2⟩ := due_loop o0 h0 h1 lg nl o ho m l hm hok hsh hlen j (i + 1) ((i : Int) + 1) (.ptr 1 0) a4 (bs ++ dueB d) .undef .undef .undef .undef .undef .undef .undef .undef .undef .undef rfl rfl (by omega) (by omega) b4 (by simp only [List.length_append]; omega)
    refine ⟨a', w, ?_, by rw [hdrop]; simpa [duesB] using c2⟩
    have hwa := (buf_within b4 (n := 3) (by omega)).2
    have e1 : (i : Int) < (l.length : Int) := by omega
    have e0 : 0 ≤ (i : Int) ∧ (i : Int) < (l.length : Int) := by omega
    have e3 : IntKind.i64.wrap ((i : Int) + 1) = (i : Int) + 1 := wi64 (by omega) (by omega)
    have e5 : (duesL l).length = l.length := duesL_len l
    have e6 : (duesL l)[i]? = some (.agg d.cells) := by rw [duesL_get, hd]; rfl
    have e7 : ∀ n, LVal.withins n (duesL l) = true := fun n => duesL_within n l
    simp only [DueS.cells, LoginS.cells] at k1 k2 k3 k4 e6
    simp only [LoginS.cells, ite_self] at c1 ⊢
    rw [codeW_loop]
    generalize hK : thenW (codeW D.T (.loop D.b10_1)) = K
    have hm4 : m = 4 := hm (fun e => by rw [e] at hi; simp at hi)
    subst hm4
    rcases ho with rfl | rfl
    · simp [D.b10_1, runFun, LMode.isPure, LVal.pfs, LVal.pf, Go.L.initVars, codeW_seq, codeW_region, codeW_regionD, codeW_cond, codeW_ret, codeW_skip, codeW_exit, codeW_block, codeW_fence, thenW, outW, fenceOut, kill, LVal.withins, LVal.within, runOps, runOpsD, Go.L.step, stepD, semD, sem, RS.peek, RS.put, RS.give, RS.take, RS.takes, RS.takeElems, RS.takeParts, RS.peeks, RS.peekO, RS.setVar, RS.noPk, RS.settle, RS.alloc, callOut, LVal.arg, LVal.isAgg, LVal.cells, LVal.unpk, LVal.copy, LVal.down, LVal.plain, LVal.settled, binL, binInt, binStr, unL, resL, resOne, res1, resAll, LVal.isTup, outL, LOp.quiet, LOp.acts, LOp.peeks, LOper.fix, calmOk, loadCalm, awayOk, dstFree, LVal.free, LVal.calm, LVal.calm1, LOp.opds, optL, RS.acquire, appendL, elemsL, bound, inRange, intL, loadL, storeL, setElems, setParts, fitsElem, lenL, isNilL, partL, chunks, o13, o6, e0, e1, e3, e5, e6, e7, h0, hwa, k1, k2, k3, k4]
      subst hK
      simpa using c1
    · simp [D.b10_1, runFun, LMode.isPure, LVal.pfs, LVal.pf, Go.L.initVars, codeW_seq, codeW_region, codeW_regionD, codeW_cond, codeW_ret, codeW_skip, codeW_exit, codeW_block, codeW_fence, thenW, outW, fenceOut, kill, LVal.withins, LVal.within, runOps, runOpsD, Go.L.step, stepD, semD, sem, RS.peek, RS.put, RS.give, RS.take, RS.takes, RS.takeElems, RS.takeParts, RS.peeks, RS.peekO, RS.setVar, RS.noPk, RS.settle, RS.alloc, callOut, LVal.arg, LVal.isAgg, LVal.cells, LVal.unpk, LVal.copy, LVal.down, LVal.plain, LVal.settled, binL, binInt, binStr, unL, resL, resOne, res1, resAll, LVal.isTup, outL, LOp.quiet, LOp.acts, LOp.peeks, LOper.fix, calmOk, loadCalm, awayOk, dstFree, LVal.free, LVal.calm, LVal.calm1, LOp.opds, optL, RS.acquire, appendL, elemsL, bound, inRange, intL, loadL, storeL, setElems, setParts, fitsElem, lenL, isNilL, partL, chunks, o13, o6, e0, e1, e3, e5, e6, e7, h0, hwa, k1, k2, k3, k4]
      subst hK
      simpa using c1

theorem bytesR_bytesL : ∀ (l : List UInt8), D.bytesR (bytesL l) = some l
  | [] => rfl
  | b :: l => by
    have := bytesR_bytesL l
    have hb : b.toNat < 256 := b.toNat_lt
    simp only [bytesL, List.map_cons, D.bytesR, byteL, D.byteR] at this ⊢
    rw [if_pos (by omega), this]
    simp

theorem fn23 : D.T.fns 23 = some (.hook D.hText) := rfl
theorem fn10 : D.T.fns 10 = some (.fn D.l10) := rfl
theorem text_end (o0 : LObj) (p a : LVal) (r : List LObj) (bs : List UInt8) (hb : Buf p a bs) : callW D.T 23 [.ptr 1 0] (o0 :: .cells 49 [p, a] :: r) = some (.str bs, some (o0 :: .dead :: r)) := by
  rw [callW_hook fn23]
  obtain ⟨hp, ⟨rfl, rfl⟩ | ⟨x, rfl⟩⟩ := hb
  · simp [D.hText]
  · simp [D.hText, bytesR_bytesL]

set_option maxHeartbeats 4000000 in
theorem key_eq (s : StateS) (hok : s.ok) (hf : s.few) : callW D.T 10 [.agg s.cells] [] = some (.str (keyB s), none) := by
  obtain ⟨q0, q1, q2, q3, q4, q5, qo, qm⟩ := hok
  obtain ⟨f1, f2, f3, f4, f5, f6⟩ := hf
  have h0 : ∀ n, LObj.within n (.cells 31 s.cells) = true := fun n => rfl
  have h1 : LObj.settle (.cells 31 s.cells) = .cells 31 s.cells := by simp only [StateS.cells]; rcases qo with ho | ho <;> rw [ho] <;> rfl
  have lb0 : (linkB s.l0).length ≤ 1200 := by
    obtain ⟨q1, q2, q3, q4⟩ := q0
    have n1 := numB_len q1; have n2 := numB_len q2; have n3 := numB_len q3; have n4 := numB_len q4; have n5 := truthB_len s.l0.sent; have n6 := truthB_len s.l0.answered; have n7 := textB_len s.l0.opts
    simp only [linkB, List.length_append]; omega
  have lb1 : (linkB s.l1).length ≤ 1200 := by
    obtain ⟨q1, q2, q3, q4⟩ := q1
    have n1 := numB_len q1; have n2 := numB_len q2; have n3 := numB_len q3; have n4 := numB_len q4; have n5 := truthB_len s.l1.sent; have n6 := truthB_len s.l1.answered; have n7 := textB_len s.l1.opts
    simp only [linkB, List.length_append]; omega
  have lb2 : (linkB s.l2).length ≤ 1200 := by
    obtain ⟨q1, q2, q3, q4⟩ := q2
    have n1 := numB_len q1; have n2 := numB_len q2; have n3 := numB_len q3; have n4 := numB_len q4; have n5 := truthB_len s.l2.sent; have n6 := truthB_len s.l2.answered; have n7 := textB_len s.l2.opts
    simp only [linkB, List.length_append]; omega
  have lgb : (loginB s.login).length ≤ 1300 := by
    obtain ⟨h1, h2, h3, h4⟩ := q3
    have n1 := numB_len h1; have n2 := numB_len h2; have n3 := numB_len h3; have n4 := numB_len h4; have n5 := truthB_len s.login.oursOk; have n6 := truthB_len s.login.theirsOk; have n8 := truthB_len s.login.open_; have n9 := truthB_len s.login.asked; have n7 := textB_len s.login.value
    simp only [loginB, List.length_append]; omega
  have hlk : (s.l0.cells ++ (s.l1.cells ++ s.l2.cells)).length = 21 := rfl
  have hwl : ∀ n, LVal.withins n (s.l0.cells ++ (s.l1.cells ++ s.l2.cells)) = true := fun n => rfl
  obtain ⟨a1, k1, b1⟩ := link_iter (.cells 31 s.cells) h0 h1 0 (by omega) _ hlk s.l0 rfl hwl q0 f3 .nilptr (.vs true .sh 0 []) [] ⟨.inl rfl, .inl ⟨rfl, rfl⟩⟩ (by simp) (.agg s.cells) (.str []) .undef .undef .undef .undef .undef .undef .undef .undef rfl rfl rfl
  obtain ⟨a2, k2, b2⟩ := link_iter (.cells 31 s.cells) h0 h1 1 (by omega) _ hlk s.l1 rfl hwl q1 f4 (.ptr 1 0) a1 _ b1 (by simp; omega) .undef .undef .undef .undef .undef .undef .undef .undef .undef .undef rfl rfl rfl
  obtain ⟨a3, k3, b3⟩ := link_iter (.cells 31 s.cells) h0 h1 2 (by omega) _ hlk s.l2 rfl hwl q2 f5 (.ptr 1 0) a2 _ b2 (by simp only [List.length_append, List.length_nil]; omega) .undef .undef .undef .undef .undef .undef .undef .undef .undef .undef rfl rfl rfl
  have hexit : codeW D.T D.b10_0 { vars := [.undef, .ptr 0 0, .undef, .ptr 1 0, .undef, .undef, .undef, .agg (s.l0.cells ++ (s.l1.cells ++ s.l2.cells)), .int .i64 3, .undef, .undef, .undef, .undef, .undef], st := [.cells 31 s.cells, .cells 49 [.ptr 1 0, a3]], rs := [] } =
      some (.exit 0, { vars := [.undef, .ptr 0 0, .undef, .ptr 1 0, .undef, .undef, .undef, .agg (s.l0.cells ++ (s.l1.cells ++ s.l2.cells)), .int .i64 3, .bool false, .undef, .undef, .undef, .undef], st := [.cells 31 s.cells, .cells 49 [.ptr 1 0, a3]], rs := [] }) := by
    simp [D.b10_0, runFun, LMode.isPure, LVal.pfs, LVal.pf, Go.L.initVars, codeW_seq, codeW_region, codeW_regionD, codeW_cond, codeW_ret, codeW_skip, codeW_exit, codeW_block, codeW_fence, thenW, outW, fenceOut, kill, LVal.withins, LVal.within, runOps, runOpsD, Go.L.step, stepD, semD, sem, RS.peek, RS.put, RS.give, RS.take, RS.takes, RS.takeElems, RS.takeParts, RS.peeks, RS.peekO, RS.setVar, RS.noPk, RS.settle, RS.alloc, callOut, LVal.arg, LVal.isAgg, LVal.cells, LVal.unpk, LVal.copy, LVal.down, LVal.plain, LVal.settled, binL, binInt, binStr, unL, resL, resOne, res1, resAll, LVal.isTup, outL, LOp.quiet, LOp.acts, LOp.peeks, LOper.fix, calmOk, loadCalm, awayOk, dstFree, LVal.free, LVal.calm, LVal.calm1, LOp.opds, optL, RS.acquire, appendL, elemsL, bound, inRange, intL, loadL, storeL, setElems, setParts, fitsElem, lenL, isNilL, partL, chunks]
  have hloop : codeW D.T (.loop D.b10_0) { vars := [.agg s.cells, .ptr 0 0, .str [], .ptr 1 0, .undef, .undef, .undef, .agg (s.l0.cells ++ (s.l1.cells ++ s.l2.cells)), .int .i64 0, .undef, .undef, .undef, .undef, .undef], st := [.cells 31 s.cells, .cells 49 [.nilptr, .vs true .sh 0 []]], rs := [] } =
      some (.exit 0, { vars := [.undef, .ptr 0 0, .undef, .ptr 1 0, .undef, .undef, .undef, .agg (s.l0.cells ++ (s.l1.cells ++ s.l2.cells)), .int .i64 3, .bool false, .undef, .undef, .undef, .undef], st := [.cells 31 s.cells, .cells 49 [.ptr 1 0, a3]], rs := [] }) := by
    have k1' : codeW D.T D.b10_0 { vars := [.agg s.cells, .ptr 0 0, .str [], .ptr 1 0, .undef, .undef, .undef, .agg (s.l0.cells ++ (s.l1.cells ++ s.l2.cells)), .int .i64 0, .undef, .undef, .undef, .undef, .undef], st := [.cells 31 s.cells, .cells 49 [.nilptr, .vs true .sh 0 []]], rs := [] } = _ := k1
    rw [codeW_loop, k1']
    simp only [Option.bind_some, thenW_normal]
    rw [codeW_loop]
    have k2' := k2
    rw [show ((1 : Nat) : Int) = ((0 : Nat) : Int) + 1 by rfl] at k2'
    rw [k2']
    simp only [Option.bind_some, thenW_normal]
    rw [codeW_loop]
    have k3' := k3
    rw [show ((2 : Nat) : Int) = ((0 : Nat) : Int) + 1 + 1 by rfl] at k3'
    rw [k3']
    simp only [Option.bind_some, thenW_normal]
    rw [codeW_loop]
    have he : (((0 : Nat) : Int) + 1 + 1 + 1) = 3 := by rfl
    rw [he, hexit]
    rfl
  have hB : Beside (.cells 31 s.cells) [.cells 28 s.login.cells] := beside_cells _ _ _ h0 h1 (fun n => rfl) rfl
  obtain ⟨c1, c2, c3, c4, c5, c6, c7, c8, c9, m1, m2, m3, m4, m5, m6, m7, m8, m9, b4⟩ := login_calls (.cells 31 s.cells) [.cells 28 s.login.cells] s.login q3 f2 hB (.ptr 1 0) a3 _ b3 (by simp only [List.length_append, List.length_nil]; omega)
  have hdl : i64 (s.due.length : Int) := ⟨by omega, by omega⟩
  have ndl := numB_len hdl
  obtain ⟨d1, n1, b5⟩ := num_eq (.cells 31 s.cells) (.ptr 1 0) c9 [.cells 28 s.login.cells] _ (s.due.length : Int) hdl.1 hdl.2 hB b4 (by simp only [List.length_append, List.length_nil]; omega)
  obtain ⟨a', w, n2, b6⟩ := due_loop (.cells 31 s.cells) h0 h1 s.login s.nil s.o qo s.m s.due qm q4 f6 f1 s.due.length 0 0 (.ptr 1 0) d1 _ .undef (.ptr 0 0) .undef .undef (.ptr 2 0) .undef .undef .undef .undef .undef rfl rfl rfl (by omega) b5 (by simp only [List.length_append, List.length_nil]; omega)
  simp only [ite_self] at n2 b6
  have n3 := text_end (.cells 31 s.cells) (.ptr 1 0) a' [.cells 28 s.login.cells] _ b6
  have e5 : (duesL s.due).length = s.due.length := duesL_len s.due
  have hwa := (buf_within b6 (n := 3) (by omega)).2
  have hwa3 := (buf_within b3 (n := 2) (by omega)).2
  have e7 : ∀ n, LVal.withins n (duesL s.due) = true := fun n => duesL_within n s.due
  have hkey : [] ++ linkB s.l0 ++ linkB s.l1 ++ linkB s.l2 ++ loginB s.login ++ numB (s.due.length : Int) ++ duesB (s.due.drop 0) = keyB s := by simp [keyB]
  rw [hkey] at n3
  rw [callW_fn fn10]
  simp only [StateS.cells, LinkS.cells, LoginS.cells, List.cons_append, List.nil_append] at hloop m1 m2 m3 m4 m5 m6 m7 m8 m9 n1 n2 n3 ⊢
  rcases qo with ho | ho <;> simp only [ho] at hloop m1 m2 m3 m4 m5 m6 m7 m8 m9 n1 n2 n3 ⊢ <;>
  simp [D.l10, D.c10, runFun, LMode.isPure, LVal.pfs, LVal.pf, Go.L.initVars, codeW_seq, codeW_region, codeW_regionD, codeW_cond, codeW_ret, codeW_skip, codeW_exit, codeW_block, codeW_fence, thenW, outW, fenceOut, kill, LVal.withins, LVal.within, runOps, runOpsD, Go.L.step, stepD, semD, sem, RS.peek, RS.put, RS.give, RS.take, RS.takes, RS.takeElems, RS.takeParts, RS.peeks, RS.peekO, RS.setVar, RS.noPk, RS.settle, RS.alloc, callOut, LVal.arg, LVal.isAgg, LVal.cells, LVal.unpk, LVal.copy, LVal.down, LVal.plain, LVal.settled, binL, binInt, binStr, unL, resL, resOne, res1, resAll, LVal.isTup, outL, LOp.quiet, LOp.acts, LOp.peeks, LOper.fix, calmOk, loadCalm, awayOk, dstFree, LVal.free, LVal.calm, LVal.calm1, LOp.opds, optL, RS.acquire, appendL, elemsL, bound, inRange, intL, loadL, storeL, setElems, setParts, fitsElem, lenL, isNilL, partL, chunks, hloop, m1, m2, m3, m4, m5, m6, m7, m8, m9, n1, n2, n3, e5, e7, hwa, hwa3]
end Go.Proofs.Ytbljgbojkifoiaa
