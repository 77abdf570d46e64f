/- Endpoints as values; lists of what is owed, one by one. -/
import Derived.Test.YtpfnlpakcldobaaGreatQ0
set_option linter.unusedVariables false
set_option linter.unusedSimpArgs false
namespace Go.Proofs.YtpfnlpakcldobaaGreat
open Go Go.L
structure LinkS where
  st : Int
  rest : Int
  naks : Int
  sent : Bool
  answered : Bool
  id : Int
  opts : List UInt8
structure LoginS where
  ours : Int
  theirs : Int
  oursOk : Bool
  theirsOk : Bool
  open_ : Bool
  id : Int
  value : List UInt8
  asked : Bool
  askedId : Int
structure DueS where
  kind : Int
  proto : Int
  id : Int
  data : List UInt8
structure StateS where
  l0 : LinkS
  l1 : LinkS
  l2 : LinkS
  login : LoginS
  nil : Bool
  o : Own
  m : Nat
  due : List DueS

def LinkS.cells (l : LinkS) : List LVal := [.int .i64 l.st, .int .i64 l.rest, .int .i64 l.naks, .bool l.sent, .bool l.answered, .int .i64 l.id, .str l.opts]
def LoginS.cells (l : LoginS) : List LVal := [.int .i64 l.ours, .int .i64 l.theirs, .bool l.oursOk, .bool l.theirsOk, .bool l.open_, .int .i64 l.id, .str l.value, .bool l.asked, .int .i64 l.askedId]
def DueS.cells (d : DueS) : List LVal := [.int .i64 d.kind, .int .i64 d.proto, .int .i64 d.id, .str d.data]
def duesL (l : List DueS) : List LVal := l.map fun d => .agg d.cells
def StateS.cells (s : StateS) : List LVal := s.l0.cells ++ (s.l1.cells ++ (s.l2.cells ++ (s.login.cells ++ [.vs s.nil s.o s.m (duesL s.due)])))

def i64 (n : Int) : Prop := -9223372036854775808 ≤ n ∧ n < 9223372036854775808
def LinkS.ok (l : LinkS) : Prop := i64 l.st ∧ i64 l.rest ∧ i64 l.naks ∧ i64 l.id
def LoginS.ok (l : LoginS) : Prop := i64 l.ours ∧ i64 l.theirs ∧ i64 l.id ∧ i64 l.askedId
def DueS.ok (d : DueS) : Prop := i64 d.kind ∧ i64 d.proto ∧ i64 d.id
def StateS.ok (s : StateS) : Prop := s.l0.ok ∧ s.l1.ok ∧ s.l2.ok ∧ s.login.ok ∧ (∀ d ∈ s.due, d.ok) ∧ (s.nil = true → s.due = []) ∧ (s.o = .sh ∨ s.o = .full) ∧ (s.due ≠ [] → s.m = 4)
/-- Few things are owed, and texts are short. -/
def StateS.few (s : StateS) : Prop := s.due.length ≤ 20 ∧ s.login.value.length ≤ 500 ∧ s.l0.opts.length ≤ 500 ∧ s.l1.opts.length ≤ 500 ∧ s.l2.opts.length ≤ 500 ∧ ∀ d ∈ s.due, d.data.length ≤ 500

theorem duesL_len (l : List DueS) : (duesL l).length = l.length := by simp [duesL]
theorem duesL_get (l : List DueS) (i : Nat) : (duesL l)[i]? = (l[i]?).map fun d => .agg d.cells := by simp [duesL]
theorem duesL_within (n : Nat) : ∀ (l : List DueS), LVal.withins n (duesL l) = true
  | [] => rfl
  | d :: l => by
    have := duesL_within n l
    simp only [duesL, List.map_cons, LVal.withins] at this ⊢
    rw [this]; rfl
theorem due_ext {a b : DueS} : a = b ↔ a.kind = b.kind ∧ a.proto = b.proto ∧ a.id = b.id ∧ a.data = b.data := by
  cases a; cases b; simp
theorem link_ext {a b : LinkS} : a = b ↔ a.st = b.st ∧ a.rest = b.rest ∧ a.naks = b.naks ∧ a.sent = b.sent ∧ a.answered = b.answered ∧ a.id = b.id ∧ a.opts = b.opts := by
  cases a; cases b; simp
theorem login_ext {a b : LoginS} : a = b ↔ a.ours = b.ours ∧ a.theirs = b.theirs ∧ a.oursOk = b.oursOk ∧ a.theirsOk = b.theirsOk ∧ a.open_ = b.open_ ∧ a.id = b.id ∧ a.value = b.value ∧ a.asked = b.asked ∧ a.askedId = b.askedId := by
  cases a; cases b; simp

/-- Alike: but for how a nil slice looks. -/
def Alike (s t : StateS) : Prop := (s.l0 = t.l0 ∧ s.l1 = t.l1 ∧ s.l2 = t.l2) ∧ s.login = t.login ∧ s.due = t.due

open Classical in
theorem eq_due (a b : DueS) : eqCells a.cells b.cells = some (decide (a = b)) := by
  simp only [DueS.cells, eqCells, eqS, if_true, Option.bind_some, Option.map_some, due_ext]
  congr 1
  rw [Bool.eq_iff_iff]
  simp
open Classical in
theorem eq_links (a b c a' b' c' : LinkS) : eqCells (a.cells ++ (b.cells ++ c.cells)) (a'.cells ++ (b'.cells ++ c'.cells)) = some (decide (a = a' ∧ b = b' ∧ c = c')) := by
  simp only [LinkS.cells, List.cons_append, List.nil_append, eqCells, eqS, if_true, Option.bind_some, Option.map_some, link_ext]
  congr 1
  rw [Bool.eq_iff_iff]
  simp [and_assoc]
open Classical in
theorem eq_login (a b : LoginS) : eqCells a.cells b.cells = some (decide (a = b)) := by
  simp only [LoginS.cells, eqCells, eqS, if_true, Option.bind_some, Option.map_some, login_ext]
  congr 1
  rw [Bool.eq_iff_iff]
  simp

theorem fn26 : D.T.fns 26 = some (.fn D.l26) := rfl

open Classical in
set_option maxHeartbeats 4000000 in
theorem loop26 (n1 n2 : Bool) (m1 m2 : Nat) (a b : List DueS) (hab : a.length = b.length) (hl : a.length ≤ 100) (hm1 : a ≠ [] → m1 = 4) (hm2 : b ≠ [] → m2 = 4) : ∀ (j i : Nat) (z : Int) (v2 v4 v5 : LVal), v2.isOwn = false → v4.isOwn = false → v5.isOwn = false → z = i → i + j = a.length →
    ∃ w : Nat → LVal, codeW D.T (.loop D.b26_0) { vars := [.vs n1 .sh m1 (duesL a), .vs n2 .sh m2 (duesL b), v2, .int .i64 z, v4, v5, .undef], st := [], rs := [] } =
      some (if a.drop i = b.drop i then (.exit 0, { vars := [w 0, w 1, w 2, w 3, w 4, w 5, w 6], st := [], rs := [] }) else (.ret, { vars := [w 0, w 1, .bool false, w 3, w 4, w 5, w 6], st := [], rs := [] }))
  | 0, i, z, v2, v4, v5, o2, o4, o5, hz, hij => by
    subst hz
    have hi : i = a.length := by omega
    subst hi
    have e5 : (duesL a).length = a.length := duesL_len a
    refine ⟨fun j => [.vs n1 .sh m1 (duesL a), .vs n2 .sh m2 (duesL b), v2, .int .i64 a.length, v4, .bool false, .undef].getD j .undef, ?_⟩
    rw [if_pos (by rw [List.drop_length, hab, List.drop_length]), codeW_loop]
    simp [D.b26_0, runFun, LMode.isPure, LVal.pfs, LVal.pf, Go.L.initVars, codeW_seq, codeW_region, codeW_regionD, codeW_cond, codeW_ret, codeW_skip, codeW_exit, codeW_block, codeW_fence, thenW, outW, fenceOut, kill, LVal.withins, LVal.within, runOps, runOpsD, Go.L.step, stepD, semD, sem, RS.peek, RS.put, RS.give, RS.take, RS.takes, RS.takeElems, RS.takeParts, RS.peeks, RS.peekO, RS.setVar, RS.noPk, RS.settle, RS.alloc, callOut, LVal.arg, LVal.isAgg, LVal.cells, LVal.unpk, LVal.copy, LVal.down, LVal.plain, LVal.settled, binL, binInt, binStr, unL, resL, resOne, res1, resAll, LVal.isTup, outL, LOp.quiet, LOp.acts, LOp.peeks, LOper.fix, calmOk, loadCalm, awayOk, dstFree, LVal.free, LVal.calm, LVal.calm1, LOp.opds, optL, RS.acquire, appendL, elemsL, bound, inRange, intL, loadL, storeL, setElems, setParts, fitsElem, lenL, isNilL, partL, chunks, o5, e5]
  | j + 1, i, z, v2, v4, v5, o2, o4, o5, hz, hij => by
    subst hz
    have hi : i < a.length := by omega
    have hi2 : i < b.length := by omega
    obtain ⟨x, hx⟩ : ∃ x, a[i]? = some x := ⟨_, List.getElem?_eq_getElem hi⟩
    obtain ⟨y, hy⟩ : ∃ y, b[i]? = some y := ⟨_, List.getElem?_eq_getElem hi2⟩
    have hda : a.drop i = x :: a.drop (i + 1) := by
      rw [List.drop_eq_getElem_cons hi]
      rw [List.getElem?_eq_getElem hi] at hx; injection hx with hx; rw [hx]
    have hdb : b.drop i = y :: b.drop (i + 1) := by
      rw [List.drop_eq_getElem_cons hi2]
      rw [List.getElem?_eq_getElem hi2] at hy; injection hy with hy; rw [hy]
    have hm1' : m1 = 4 := hm1 (fun e => by rw [e] at hi; simp at hi)
    have hm2' : m2 = 4 := hm2 (fun e => by rw [e] at hi2; simp at hi2)
    subst hm1'; subst hm2'
    have e1 : (i : Int) < (a.length : Int) := by omega
    have e0 : 0 ≤ (i : Int) ∧ (i : Int) < (a.length : Int) := by omega
    have e0' : 0 ≤ (i : Int) ∧ (i : Int) < (b.length : Int) := by omega
    have e3 : IntKind.i64.wrap ((i : Int) + 1) = (i : Int) + 1 := wi64 (by omega) (by omega)
    have e5 : (duesL a).length = a.length := duesL_len a
    have e5' : (duesL b).length = b.length := duesL_len b
    have e6 : (duesL a)[i]? = some (.agg x.cells) := by rw [duesL_get, hx]; rfl
    have e6' : (duesL b)[i]? = some (.agg y.cells) := by rw [duesL_get, hy]; rfl
    have e7 : ∀ (n : Nat) (l : List DueS), LVal.withins n (duesL l) = true := fun n l => duesL_within n l
    have e8 := eq_due x y
    simp only [DueS.cells] at e6 e6' e8
    rw [codeW_loop]
    generalize hK : thenW (codeW D.T (.loop D.b26_0)) = K
    by_cases hxy : x = y
    · obtain ⟨w, c1⟩ := loop26 n1 n2 4 4 a b hab hl hm1 hm2 j (i + 1) ((i : Int) + 1) .undef .undef .undef rfl rfl rfl (by omega) (by omega)
      refine ⟨w, ?_⟩
      have hc : (a.drop i = b.drop i) = (a.drop (i + 1) = b.drop (i + 1)) := by rw [hda, hdb, hxy]; simp
      simp only [hc]
      rw [decide_eq_true hxy] at e8
      simp [D.b26_0, runFun, LMode.isPure, LVal.pfs, LVal.pf, Go.L.initVars, codeW_seq, codeW_region, codeW_regionD, codeW_cond, codeW_ret, codeW_skip, codeW_exit, codeW_block, codeW_fence, thenW, outW, fenceOut, kill, LVal.withins, LVal.within, runOps, runOpsD, Go.L.step, stepD, semD, sem, RS.peek, RS.put, RS.give, RS.take, RS.takes, RS.takeElems, RS.takeParts, RS.peeks, RS.peekO, RS.setVar, RS.noPk, RS.settle, RS.alloc, callOut, LVal.arg, LVal.isAgg, LVal.cells, LVal.unpk, LVal.copy, LVal.down, LVal.plain, LVal.settled, binL, binInt, binStr, unL, resL, resOne, res1, resAll, LVal.isTup, outL, LOp.quiet, LOp.acts, LOp.peeks, LOper.fix, calmOk, loadCalm, awayOk, dstFree, LVal.free, LVal.calm, LVal.calm1, LOp.opds, optL, RS.acquire, appendL, elemsL, bound, inRange, intL, loadL, storeL, setElems, setParts, fitsElem, lenL, isNilL, partL, chunks, kindsOk, keyKind, o2, o4, o5, e0, e0', e1, e3, e5, e5', e6, e6', e7, e8]
      subst hK
      simpa using c1
    · refine ⟨fun j => [.vs n1 .sh 4 (duesL a), .vs n2 .sh 4 (duesL b), .undef, .int .i64 i, v4.stay, .bool true, .bool true].getD j .undef, ?_⟩
      have hne : ¬ (a.drop i = b.drop i) := by rw [hda, hdb]; simp [hxy]
      rw [if_neg hne]
      rw [decide_eq_false hxy] at e8
      simp [D.b26_0, runFun, LMode.isPure, LVal.pfs, LVal.pf, Go.L.initVars, codeW_seq, codeW_region, codeW_regionD, codeW_cond, codeW_ret, codeW_skip, codeW_exit, codeW_block, codeW_fence, thenW, outW, fenceOut, kill, LVal.withins, LVal.within, runOps, runOpsD, Go.L.step, stepD, semD, sem, RS.peek, RS.put, RS.give, RS.take, RS.takes, RS.takeElems, RS.takeParts, RS.peeks, RS.peekO, RS.setVar, RS.noPk, RS.settle, RS.alloc, callOut, LVal.arg, LVal.isAgg, LVal.cells, LVal.unpk, LVal.copy, LVal.down, LVal.plain, LVal.settled, binL, binInt, binStr, unL, resL, resOne, res1, resAll, LVal.isTup, outL, LOp.quiet, LOp.acts, LOp.peeks, LOper.fix, calmOk, loadCalm, awayOk, dstFree, LVal.free, LVal.calm, LVal.calm1, LOp.opds, optL, RS.acquire, appendL, elemsL, bound, inRange, intL, loadL, storeL, setElems, setParts, fitsElem, lenL, isNilL, partL, chunks, kindsOk, keyKind, o2, o4, o5, e0, e0', e1, e3, e5, e5', e6, e6', e7, e8]
      subst hK
      rfl

open Classical in
set_option maxHeartbeats 4000000 in
theorem dues_eq (n1 n2 : Bool) (m1 m2 : Nat) (a b : List DueS) (hl : a.length ≤ 100) (hl2 : b.length ≤ 100) (hm1 : a ≠ [] → m1 = 4) (hm2 : b ≠ [] → m2 = 4) :
    callW D.T 26 [.vs n1 .sh m1 (duesL a), .vs n2 .sh m2 (duesL b)] [] = some (.bool (decide (a = b)), none) := by
  have e5 : (duesL a).length = a.length := duesL_len a
  have e5' : (duesL b).length = b.length := duesL_len b
  rw [callW_fn fn26]
  by_cases hab : a.length = b.length
  · obtain ⟨w, c1⟩ := loop26 n1 n2 m1 m2 a b hab hl hm1 hm2 a.length 0 0 (.bool false) (.bool false) .undef rfl rfl rfl rfl (by omega)
    simp only [List.drop_zero] at c1
    by_cases he : a = b
    · rw [if_pos he] at c1
      rw [decide_eq_true he]
      simp [D.l26, D.c26, runFun, LMode.isPure, LVal.pfs, LVal.pf, Go.L.initVars, codeW_seq, codeW_region, codeW_regionD, codeW_cond, codeW_ret, codeW_skip, codeW_exit, codeW_block, codeW_fence, thenW, outW, fenceOut, kill, LVal.withins, LVal.within, runOps, runOpsD, Go.L.step, stepD, semD, sem, RS.peek, RS.put, RS.give, RS.take, RS.takes, RS.takeElems, RS.takeParts, RS.peeks, RS.peekO, RS.setVar, RS.noPk, RS.settle, RS.alloc, callOut, LVal.arg, LVal.isAgg, LVal.cells, LVal.unpk, LVal.copy, LVal.down, LVal.plain, LVal.settled, binL, binInt, binStr, unL, resL, resOne, res1, resAll, LVal.isTup, outL, LOp.quiet, LOp.acts, LOp.peeks, LOper.fix, calmOk, loadCalm, awayOk, dstFree, LVal.free, LVal.calm, LVal.calm1, LOp.opds, optL, RS.acquire, appendL, elemsL, bound, inRange, intL, loadL, storeL, setElems, setParts, fitsElem, lenL, isNilL, partL, chunks, e5, e5', hab, c1]
    · rw [if_neg he] at c1
      rw [decide_eq_false he]
      simp [D.l26, D.c26, runFun, LMode.isPure, LVal.pfs, LVal.pf, Go.L.initVars, codeW_seq, codeW_region, codeW_regionD, codeW_cond, codeW_ret, codeW_skip, codeW_exit, codeW_block, codeW_fence, thenW, outW, fenceOut, kill, LVal.withins, LVal.within, runOps, runOpsD, Go.L.step, stepD, semD, sem, RS.peek, RS.put, RS.give, RS.take, RS.takes, RS.takeElems, RS.takeParts, RS.peeks, RS.peekO, RS.setVar, RS.noPk, RS.settle, RS.alloc, callOut, LVal.arg, LVal.isAgg, LVal.cells, LVal.unpk, LVal.copy, LVal.down, LVal.plain, LVal.settled, binL, binInt, binStr, unL, resL, resOne, res1, resAll, LVal.isTup, outL, LOp.quiet, LOp.acts, LOp.peeks, LOper.fix, calmOk, loadCalm, awayOk, dstFree, LVal.free, LVal.calm, LVal.calm1, LOp.opds, optL, RS.acquire, appendL, elemsL, bound, inRange, intL, loadL, storeL, setElems, setParts, fitsElem, lenL, isNilL, partL, chunks, e5, e5', hab, c1]
  · have he : ¬ a = b := fun e => hab (by rw [e])
    have : ¬ (a.length : Int) = (b.length : Int) := by omega
    rw [decide_eq_false he]
    simp [D.l26, D.c26, runFun, LMode.isPure, LVal.pfs, LVal.pf, Go.L.initVars, codeW_seq, codeW_region, codeW_regionD, codeW_cond, codeW_ret, codeW_skip, codeW_exit, codeW_block, codeW_fence, thenW, outW, fenceOut, kill, LVal.withins, LVal.within, runOps, runOpsD, Go.L.step, stepD, semD, sem, RS.peek, RS.put, RS.give, RS.take, RS.takes, RS.takeElems, RS.takeParts, RS.peeks, RS.peekO, RS.setVar, RS.noPk, RS.settle, RS.alloc, callOut, LVal.arg, LVal.isAgg, LVal.cells, LVal.unpk, LVal.copy, LVal.down, LVal.plain, LVal.settled, binL, binInt, binStr, unL, resL, resOne, res1, resAll, LVal.isTup, outL, LOp.quiet, LOp.acts, LOp.peeks, LOper.fix, calmOk, loadCalm, awayOk, dstFree, LVal.free, LVal.calm, LVal.calm1, LOp.opds, optL, RS.acquire, appendL, elemsL, bound, inRange, intL, loadL, storeL, setElems, setParts, fitsElem, lenL, isNilL, partL, chunks, e5, e5', hab, this]
end Go.Proofs.YtpfnlpakcldobaaGreat
