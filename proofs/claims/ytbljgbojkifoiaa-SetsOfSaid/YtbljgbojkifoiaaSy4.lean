/- The key of an endpoint. -/
import Derived.Test.YtbljgbojkifoiaaSy3
set_option linter.unusedVariables false
set_option linter.unusedSimpArgs false
namespace Go.Proofs.Ytbljgbojkifoiaa
open Go Go.L

structure LinkS where
  st : Int
  rest : Int
  naks : Int
  sent : Bool
  answered : Bool
  id : Int
  opts : List UInt8
structure LoginS where
  ours : Int
  theirs : Int
  oursOk : Bool
  theirsOk : Bool
  open_ : Bool
  id : Int
  value : List UInt8
  asked : Bool
  askedId : Int
structure DueS where
  kind : Int
  proto : Int
  id : Int
  data : List UInt8
structure StateS where
  l0 : LinkS
  l1 : LinkS
  l2 : LinkS
  login : LoginS
  nil : Bool
  o : Own
  m : Nat
  due : List DueS

def LinkS.cells (l : LinkS) : List LVal := [.int .i64 l.st, .int .i64 l.rest, .int .i64 l.naks, .bool l.sent, .bool l.answered, .int .i64 l.id, .str l.opts]
def LoginS.cells (l : LoginS) : List LVal := [.int .i64 l.ours, .int .i64 l.theirs, .bool l.oursOk, .bool l.theirsOk, .bool l.open_, .int .i64 l.id, .str l.value, .bool l.asked, .int .i64 l.askedId]
def DueS.cells (d : DueS) : List LVal := [.int .i64 d.kind, .int .i64 d.proto, .int .i64 d.id, .str d.data]
def duesL (l : List DueS) : List LVal := l.map fun d => .agg d.cells
def StateS.cells (s : StateS) : List LVal := s.l0.cells ++ (s.l1.cells ++ (s.l2.cells ++ (s.login.cells ++ [.vs s.nil s.o s.m (duesL s.due)])))

def i64 (n : Int) : Prop := -9223372036854775808 ≤ n ∧ n < 9223372036854775808
def LinkS.ok (l : LinkS) : Prop := i64 l.st ∧ i64 l.rest ∧ i64 l.naks ∧ i64 l.id
def LoginS.ok (l : LoginS) : Prop := i64 l.ours ∧ i64 l.theirs ∧ i64 l.id ∧ i64 l.askedId
def DueS.ok (d : DueS) : Prop := i64 d.kind ∧ i64 d.proto ∧ i64 d.id
def StateS.ok (s : StateS) : Prop := s.l0.ok ∧ s.l1.ok ∧ s.l2.ok ∧ s.login.ok ∧ (∀ d ∈ s.due, d.ok) ∧ (s.nil = true → s.due = []) ∧ (s.o = .sh ∨ s.o = .full) ∧ (s.due ≠ [] → s.m = 4)
/-- Few things are owed, and texts are short. -/
def StateS.few (s : StateS) : Prop := s.due.length ≤ 20 ∧ s.login.value.length ≤ 500 ∧ s.l0.opts.length ≤ 500 ∧ s.l1.opts.length ≤ 500 ∧ s.l2.opts.length ≤ 500 ∧ ∀ d ∈ s.due, d.data.length ≤ 500

def linkB (l : LinkS) : List UInt8 := numB l.st ++ (numB l.rest ++ (numB l.naks ++ (truthB l.sent ++ (truthB l.answered ++ (numB l.id ++ textB l.opts)))))
def loginB (l : LoginS) : List UInt8 := numB l.ours ++ (numB l.theirs ++ (truthB l.oursOk ++ (truthB l.theirsOk ++ (truthB l.open_ ++ (numB l.id ++ (textB l.value ++ (truthB l.asked ++ numB l.askedId)))))))
def dueB (d : DueS) : List UInt8 := numB d.kind ++ (numB d.proto ++ (numB d.id ++ textB d.data))
def duesB : List DueS → List UInt8
  | [] => []
  | d :: r => dueB d ++ duesB r
/-- An endpoint's key. -/
def keyB (s : StateS) : List UInt8 := linkB s.l0 ++ (linkB s.l1 ++ (linkB s.l2 ++ (loginB s.login ++ (numB s.due.length ++ duesB s.due))))

theorem numB_len {n : Int} (h : i64 n) : (numB n).length ≤ 22 := by
  obtain ⟨h1, h2⟩ := h
  unfold numB
  split
  · have := dec_len 19 n.natAbs (by omega); simp; omega
  · have := dec_len 19 n.toNat (by omega); simp; omega
theorem truthB_len (b : Bool) : (truthB b).length = 2 := by cases b <;> rfl
theorem textB_len (s : List UInt8) : (textB s).length = 2 * s.length + 1 := by simp [textB, hexB_len]

abbrev Step (f : Nat) (v : LVal) (o0 : LObj) (p a a' : LVal) (r : List LObj) : Prop := callW D.T f [.ptr 1 0, v] (o0 :: .cells 49 [p, a] :: r) = some (.tup [], some (o0 :: .cells 49 [.ptr 1 0, a'] :: r))

theorem link_calls (o0 : LObj) (r : List LObj) (l : LinkS) (hl : l.ok) (ho : l.opts.length ≤ 500) (hB : Beside o0 r) (p a : LVal) (bs : List UInt8) (hb : Buf p a bs) (hlen : bs.length ≤ 1000000) :
    ∃ a1 a2 a3 a4 a5 a6 a7, Step 20 (.int .i64 l.st) o0 p a a1 r ∧ Step 20 (.int .i64 l.rest) o0 (.ptr 1 0) a1 a2 r ∧ Step 20 (.int .i64 l.naks) o0 (.ptr 1 0) a2 a3 r ∧ Step 21 (.bool l.sent) o0 (.ptr 1 0) a3 a4 r ∧
      Step 21 (.bool l.answered) o0 (.ptr 1 0) a4 a5 r ∧ Step 20 (.int .i64 l.id) o0 (.ptr 1 0) a5 a6 r ∧ Step 22 (.str l.opts) o0 (.ptr 1 0) a6 a7 r ∧ Buf (.ptr 1 0) a7 (bs ++ linkB l) := by
  obtain ⟨h1, h2, h3, h4⟩ := hl
  have n1 := numB_len h1; have n2 := numB_len h2; have n3 := numB_len h3; have n4 := numB_len h4; have n5 := truthB_len l.sent; have n6 := truthB_len l.answered; have n7 := textB_len l.opts
  obtain ⟨a1, k1, b1⟩ := num_eq o0 p a r bs _ h1.1 h1.2 hB hb (by omega)
  obtain ⟨a2, k2, b2⟩ := num_eq o0 _ a1 r _ _ h2.1 h2.2 hB b1 (by simp only [List.length_append]; omega)
  obtain ⟨a3, k3, b3⟩ := num_eq o0 _ a2 r _ _ h3.1 h3.2 hB b2 (by simp only [List.length_append]; omega)
  obtain ⟨a4, k4, b4⟩ := truth_eq o0 _ a3 r _ l.sent hB b3 (by simp only [List.length_append]; omega)
  obtain ⟨a5, k5, b5⟩ := truth_eq o0 _ a4 r _ l.answered hB b4 (by simp only [List.length_append]; omega)
  obtain ⟨a6, k6, b6⟩ := num_eq o0 _ a5 r _ _ h4.1 h4.2 hB b5 (by simp only [List.length_append]; omega)
  obtain ⟨a7, k7, b7⟩ := text_eq o0 _ a6 r _ l.opts (by omega) hB b6 (by simp only [List.length_append]; omega)
  exact ⟨a1, a2, a3, a4, a5, a6, a7, k1, k2, k3, k4, k5, k6, k7, by simpa [linkB] using b7⟩

theorem login_calls (o0 : LObj) (r : List LObj) (l : LoginS) (hl : l.ok) (ho : l.value.length ≤ 500) (hB : Beside o0 r) (p a : LVal) (bs : List UInt8) (hb : Buf p a bs) (hlen : bs.length ≤ 1000000) :
    ∃ a1 a2 a3 a4 a5 a6 a7 a8 a9, Step 20 (.int .i64 l.ours) o0 p a a1 r ∧ Step 20 (.int .i64 l.theirs) o0 (.ptr 1 0) a1 a2 r ∧ Step 21 (.bool l.oursOk) o0 (.ptr 1 0) a2 a3 r ∧ Step 21 (.bool l.theirsOk) o0 (.ptr 1 0) a3 a4 r ∧
      Step 21 (.bool l.open_) o0 (.ptr 1 0) a4 a5 r ∧ Step 20 (.int .i64 l.id) o0 (.ptr 1 0) a5 a6 r ∧ Step 22 (.str l.value) o0 (.ptr 1 0) a6 a7 r ∧ Step 21 (.bool l.asked) o0 (.ptr 1 0) a7 a8 r ∧ Step 20 (.int .i64 l.askedId) o0 (.ptr 1 0) a8 a9 r ∧
      Buf (.ptr 1 0) a9 (bs ++ loginB l) := by
  obtain ⟨h1, h2, h3, h4⟩ := hl
  have n1 := numB_len h1; have n2 := numB_len h2; have n3 := numB_len h3; have n4 := numB_len h4; have n5 := truthB_len l.oursOk; have n6 := truthB_len l.theirsOk; have n8 := truthB_len l.open_; have n9 := truthB_len l.asked; have n7 := textB_len l.value
  obtain ⟨a1, k1, b1⟩ := num_eq o0 p a r bs _ h1.1 h1.2 hB hb (by omega)
  obtain ⟨a2, k2, b2⟩ := num_eq o0 _ a1 r _ _ h2.1 h2.2 hB b1 (by simp only [List.length_append]; omega)
  obtain ⟨a3, k3, b3⟩ := truth_eq o0 _ a2 r _ l.oursOk hB b2 (by simp only [List.length_append]; omega)
  obtain ⟨a4, k4, b4⟩ := truth_eq o0 _ a3 r _ l.theirsOk hB b3 (by simp only [List.length_append]; omega)
  obtain ⟨a5, k5, b5⟩ := truth_eq o0 _ a4 r _ l.open_ hB b4 (by simp only [List.length_append]; omega)
  obtain ⟨a6, k6, b6⟩ := num_eq o0 _ a5 r _ _ h3.1 h3.2 hB b5 (by simp only [List.length_append]; omega)
  obtain ⟨a7, k7, b7⟩ := text_eq o0 _ a6 r _ l.value (by omega) hB b6 (by simp only [List.length_append]; omega)
  obtain ⟨a8, k8, b8⟩ := truth_eq o0 _ a7 r _ l.asked hB b7 (by simp only [List.length_append]; omega)
  obtain ⟨a9, k9, b9⟩ := num_eq o0 _ a8 r _ _ h4.1 h4.2 hB b8 (by simp only [List.length_append]; omega)
  exact ⟨a1, a2, a3, a4, a5, a6, a7, a8, a9, k1, k2, k3, k4, k5, k6, k7, k8, k9, by simpa [loginB] using b9⟩

theorem due_calls (o0 : LObj) (r : List LObj) (l : DueS) (hl : l.ok) (ho : l.data.length ≤ 500) (hB : Beside o0 r) (p a : LVal) (bs : List UInt8) (hb : Buf p a bs) (hlen : bs.length ≤ 1000000) :
    ∃ a1 a2 a3 a4, Step 20 (.int .i64 l.kind) o0 p a a1 r ∧ Step 20 (.int .i64 l.proto) o0 (.ptr 1 0) a1 a2 r ∧ Step 20 (.int .i64 l.id) o0 (.ptr 1 0) a2 a3 r ∧ Step 22 (.str l.data) o0 (.ptr 1 0) a3 a4 r ∧
      Buf (.ptr 1 0) a4 (bs ++ dueB l) := by
  obtain ⟨h1, h2, h3⟩ := hl
  have n1 := numB_len h1; have n2 := numB_len h2; have n3 := numB_len h3; have n7 := textB_len l.data
  obtain ⟨a1, k1, b1⟩ := num_eq o0 p a r bs _ h1.1 h1.2 hB hb (by omega)
  obtain ⟨a2, k2, b2⟩ := num_eq o0 _ a1 r _ _ h2.1 h2.2 hB b1 (by simp only [List.length_append]; omega)
  obtain ⟨a3, k3, b3⟩ := num_eq o0 _ a2 r _ _ h3.1 h3.2 hB b2 (by simp only [List.length_append]; omega)
  obtain ⟨a4, k4, b4⟩ := text_eq o0 _ a3 r _ l.data (by omega) hB b3 (by simp only [List.length_append]; omega)
  exact ⟨a1, a2, a3, a4, k1, k2, k3, k4, by simpa [dueB] using b4⟩

theorem beside_cells (cs : List LVal) (o0 : LObj) (t : Nat) (h0 : ∀ n, o0.within n = true) (h1 : o0.settle = o0) (h2 : ∀ n, LVal.withins n cs = true) (h3 : cs.map LVal.stay = cs) : Beside o0 [.cells t cs] :=
  ⟨h0 _, by intro x hx; simp at hx; subst hx; simp [h2], h1, by simp [h3]⟩

set_option maxHeartbeats 2000000 in
theorem link_iter (o0 : LObj) (h0 : ∀ n, o0.within n = true) (h1 : o0.settle = o0) (i : Nat) (hi : i < 3) (lk : List LVal) (hlk : lk.length = 21) (l : LinkS) (hp : (lk.drop (i * 7)).take 7 = l.cells) (hw : ∀ n, LVal.withins n lk = true)
    (hl : l.ok) (ho : l.opts.length ≤ 500) (p a : LVal) (bs : List UInt8) (hb : Buf p a bs) (hlen : bs.length ≤ 1000000) (v0 v2 v4 v5 v6 v9 v10 v11 v12 v13 : LVal) (o4 : v4.isOwn = false) (o9 : v9.isOwn = false) (o8 : v9.isOwn = false) :
    ∃ a', codeW D.T D.b10_0 { vars := [v0, .ptr 0 0, v2, .ptr 1 0, v4, v5, v6, .agg lk, .int .i64 i, v9, v10, v11, v12, v13], st := [o0, .cells 49 [p, a]], rs := [] } =
      some (.normal, { vars := [.undef, .ptr 0 0, .undef, .ptr 1 0, .undef, .undef, .undef, .agg lk, .int .i64 (i + 1), .undef, .undef, .undef, .undef, .undef], st := [o0, .cells 49 [.ptr 1 0, a']], rs := [] }) ∧ Buf (.ptr 1 0) a' (bs ++ linkB l) := by
  obtain ⟨a1, a2, a3, a4, a5, a6, a7, k1, k2, k3, k4, k5, k6, k7, b7⟩ := link_calls o0 [.cells 25 l.cells] l hl ho (beside_cells _ _ _ h0 h1 (fun n => rfl) rfl) p a bs hb hlen
  refine ⟨a7, ?_, b7⟩
  simp only [LinkS.cells] at k1 k2 k3 k4 k5 k6 k7 hp
  have hwa := (buf_within b7 (n := 2) (by omega)).2
  have e1 : (i : Int) < 3 := by omega
  have e2 : i * 7 + 7 ≤ 21 := by omega
  have e3 : IntKind.i64.wrap ((i : Int) + 1) = (i : Int) + 1 := wi64 (by omega) (by omega)
  simp [D.b10_0, runFun, LMode.isPure, LVal.pfs, LVal.pf, Go.L.initVars, codeW_seq, codeW_region, codeW_regionD, codeW_cond, codeW_ret, codeW_skip, codeW_exit, codeW_block, codeW_fence, thenW, outW, fenceOut, kill, LVal.withins, LVal.within, runOps, runOpsD, Go.L.step, stepD, semD, sem, RS.peek, RS.put, RS.give, RS.take, RS.takes, RS.takeElems, RS.takeParts, RS.peeks, RS.peekO, RS.setVar, RS.noPk, RS.settle, RS.alloc, callOut, LVal.arg, LVal.isAgg, LVal.cells, LVal.unpk, LVal.copy, LVal.down, LVal.plain, LVal.settled, binL, binInt, binStr, unL, resL, resOne, res1, resAll, LVal.isTup, outL, LOp.quiet, LOp.acts, LOp.peeks, LOper.fix, calmOk, loadCalm, awayOk, dstFree, LVal.free, LVal.calm, LVal.calm1, LOp.opds, optL, RS.acquire, appendL, elemsL, bound, inRange, intL, loadL, storeL, setElems, setParts, fitsElem, lenL, isNilL, partL, chunks, o4, o9, e1, e2, e3, hlk, hp, h0, hw, hwa, k1, k2, k3, k4, k5, k6, k7]
end Go.Proofs.Ytbljgbojkifoiaa
