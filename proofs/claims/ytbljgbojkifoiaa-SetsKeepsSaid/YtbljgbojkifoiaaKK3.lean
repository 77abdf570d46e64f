/- SetsKeeps: Of, of a list that is read and of one that may be written. -/
import Derived.Test.YtbljgbojkifoiaaKK2
set_option linter.unusedVariables false
set_option linter.unusedSimpArgs false
namespace Go.Proofs.Ytbljgbojkifoiaa
open Go Go.L

theorem fn15 : D.T.fns 15 = some (.fn D.l15) := rfl
abbrev W15 (m : List StateS) (v0 v1 : LVal) (b : Bool) (n : Nat) (l : List StateS) (i : Int) : RS :=
  { vars := [v0, v1, .map 0, .undef, .vs b .sh n (statesL l), .int .i64 l.length, .int .i64 i, .undef], st := [.map (entL m)], rs := [] }

theorem putS_mem {s x : StateS} : ∀ {m : List StateS}, x ∈ putS s m → x = s ∨ x ∈ m
  | [], h => by simp [putS] at h; exact .inl h
  | y :: m, h => by
    simp only [putS] at h
    split at h
    · simp only [List.mem_cons] at h ⊢
      rcases h with h | h <;> simp [h]
    · simp only [List.mem_cons] at h ⊢
      rcases h with h | h
      · simp [h]
      · rcases putS_mem h with h | h <;> simp [h]
theorem putS_len {s : StateS} : ∀ {m : List StateS}, (putS s m).length ≤ m.length + 1
  | [] => by simp [putS]
  | y :: m => by
    simp only [putS]
    split
    · simp
    · have := putS_len (s := s) (m := m)
      simp; omega

theorem cells_settled {s : StateS} (h : s.lies) : ∀ x, x ∈ s.cells → LVal.settled x = true := by
  have : s.cells.all LVal.settled = true := by
    simp only [StateS.cells]; rcases h.1 with ho | ho <;> rw [ho] <;> rfl
  exact List.all_eq_true.1 this

def zc : List LVal := [(.int .i64 0), (.int .i64 0), (.int .i64 0), (.bool false), (.bool false), (.int .i64 0), (.str []), (.int .i64 0), (.int .i64 0), (.int .i64 0), (.bool false), (.bool false), (.int .i64 0), (.str []), (.int .i64 0), (.int .i64 0), (.int .i64 0), (.bool false), (.bool false), (.int .i64 0), (.str []), (.int .i64 0), (.int .i64 0), (.bool false), (.bool false), (.bool false), (.int .i64 0), (.str []), (.bool false), (.int .i64 0), (.vs true .sh 0 [])]

set_option maxHeartbeats 8000000 in
theorem loop15 (b : Bool) (n : Nat) (l : List StateS) (hn : l = [] ∨ n = 31) (hok : ∀ x ∈ l, x.ok ∧ x.few) (hl : l.length ≤ 900) : ∀ (j i : Nat) (m : List StateS) (v0 v1 : LVal),
    v0.isOwn = false → v1.isOwn = false → v0.stay = v0 → v1.stay = v1 → i + j = l.length → (∀ x ∈ m, x ∈ l) → m.length ≤ i →
    ∃ (w : Nat → LVal), codeW D.T (.loop D.b15_0) (W15 m v0 v1 b n l i) =
      some (.exit 0, { vars := [w 0, w 1, .map 0, w 3, w 4, w 5, w 6, w 7], st := [.map (entL ((l.drop i).foldl (fun m s => putS s m) m))], rs := [] })
  | 0, i, m, v0, v1, o0, o1, s0, s1, hij, hmem, hlen => by
    have hi : i = l.length := by omega
    rw [hi, List.drop_length]
    refine ⟨fun j => ([v0, v1, .undef, .undef, .vs b .sh n (statesL l), .int .i64 l.length, .int .i64 l.length, .bool false] : List LVal).getD j .undef, ?_⟩
    rw [codeW_loop]
    simp [D.b15_0, runFun, LMode.isPure, LVal.pfs, LVal.pf, Go.L.initVars, codeW_seq, codeW_region, codeW_regionD, codeW_cond, codeW_ret, codeW_skip, codeW_exit, codeW_block, codeW_fence, thenW, outW, fenceOut, kill, LVal.withins, LVal.within, runOps, runOpsD, Go.L.step, stepD, semD, sem, RS.peek, RS.put, RS.give, RS.take, RS.takes, RS.takeElems, RS.takeParts, RS.peeks, RS.peekO, RS.setVar, RS.noPk, RS.settle, RS.alloc, callOut, LVal.arg, LVal.isAgg, LVal.cells, LVal.unpk, LVal.copy, LVal.down, LVal.plain, LVal.settled, binL, binInt, binStr, unL, resL, resOne, res1, resAll, LVal.isTup, outL, LOp.quiet, LOp.acts, LOp.peeks, LOper.fix, calmOk, loadCalm, awayOk, dstFree, LVal.free, LVal.calm, LVal.calm1, LOp.opds, optL, RS.acquire, appendL, elemsL, bound, inRange, intL, loadL, storeL, setElems, setParts, fitsElem, lenL, isNilL, partL, chunks, o0, o1]
  | j + 1, i, m, v0, v1, o0, o1, s0, s1, hij, hmem, hlen => by
    have hi : i < l.length := by omega
    obtain ⟨x, hx⟩ : ∃ x, l[i]? = some x := ⟨_, List.getElem?_eq_getElem hi⟩
    have hxm : x ∈ l := List.mem_of_getElem? hx
    have hdrop : l.drop i = x :: l.drop (i + 1) := by
      rw [List.drop_eq_getElem_cons hi]
      rw [List.getElem?_eq_getElem hi] at hx; injection hx with hx; rw [hx]
    have hn' : n = 31 := by
      rcases hn with rfl | h
      · simp at hi
      · exact h
    subst hn'
    have hxo := hok x hxm
    have e1 : (i : Int) < (l.length : Int) := by omega
    have e0 : 0 ≤ (i : Int) ∧ (i : Int) < (l.length : Int) := by omega
    have e3 : IntKind.i64.wrap ((i : Int) + 1) = (i : Int) + 1 := wi64 (by omega) (by omega)
    have e5 : (statesL l).length = l.length := statesL_len l
    have e6 : (statesL l)[i]? = some (.agg x.cells) := by rw [statesL_get, hx]; rfl
    have e7 : ∀ (n : Nat) (l : List StateS), LVal.withins n (statesL l) = true := fun n l => statesL_within n l
    have e8 : ∀ (n : Nat) (s : StateS), LVal.withins n s.cells = true := fun n s => cells_within n
    have lx : x.lies := ⟨hxo.1.2.2.2.2.2.2.1, hxo.1.2.2.2.2.2.2.2⟩
    obtain ⟨fx1, fx2, fx3⟩ := fits_state lx
    have fx4 := cells_own lx
    have fx5 := cells_down lx
    have fx6 := cells_stay lx
    have fx7 := cells_settled lx
    have fx8 : ∀ x_1, x_1 ∈ x.cells → x_1.plain = true ∨ x_1.isOwn = true := fun _ h => .inl (fx3 _ h)
    have ft : List.take 31 x.cells = x.cells := rfl
    have k10 := key_eq x hxo.1 hxo.2
    have p1 := putL_ent x m
    obtain ⟨g1, g2⟩ := entL_within 1 (putS x m)
    have g0 : LObj.within 1 (.map (entL (putS x m))) = true := by simp [LObj.within, g1, g2]
    obtain ⟨w, IH⟩ := loop15 b 31 l hn hok hl j (i + 1) (putS x m) .undef .undef rfl rfl rfl rfl (by omega) (fun y hy => by
      rcases putS_mem hy with h | h
      · exact h ▸ hxm
      · exact hmem y h) (Nat.le_trans putS_len (by omega))
    rw [hdrop]
    refine ⟨w, ?_⟩
    rw [codeW_loop]
    generalize hK : thenW (codeW D.T (.loop D.b15_0)) = K
    simp [D.b15_0, runFun, LMode.isPure, LVal.pfs, LVal.pf, Go.L.initVars, codeW_seq, codeW_region, codeW_regionD, codeW_cond, codeW_ret, codeW_skip, codeW_exit, codeW_block, codeW_fence, thenW, outW, fenceOut, kill, LVal.withins, LVal.within, runOps, runOpsD, Go.L.step, stepD, semD, sem, RS.peek, RS.put, RS.give, RS.take, RS.takes, RS.takeElems, RS.takeParts, RS.peeks, RS.peekO, RS.setVar, RS.noPk, RS.settle, RS.alloc, callOut, LVal.arg, LVal.isAgg, LVal.cells, LVal.unpk, LVal.copy, LVal.down, binL, binInt, binStr, unL, resL, resOne, res1, resAll, LVal.isTup, outL, LOp.quiet, LOp.acts, LOp.peeks, LOper.fix, calmOk, loadCalm, awayOk, dstFree, LVal.free, LVal.calm, LVal.calm1, LOp.opds, optL, RS.acquire, appendL, elemsL, bound, inRange, intL, loadL, storeL, setElems, setParts, fitsElem, lenL, isNilL, partL, chunks, storeL, keyKind, o0, o1, s0, s1, e0, e1, e3, e5, e6, e7, e8, fx1, fx2, eq_true fx3, eq_true fx7, eq_true fx8, fx4, fx5, fx6, ft, k10, p1, g0]
    subst hK
    exact IH

def mapS (l : List StateS) : List StateS := l.foldl (fun m s => putS s m) []
def setS (l : List StateS) : List StateS := byKeyS (mapS l)

theorem foldP_mem : ∀ (l acc : List StateS) (x : StateS), x ∈ l.foldl (fun m s => putS s m) acc → x ∈ acc ∨ x ∈ l
  | [], acc, x, h => .inl h
  | y :: l, acc, x, h => by
    rcases foldP_mem l (putS y acc) x h with h1 | h1
    · rcases putS_mem h1 with h2 | h2
      · exact .inr (by simp [h2])
      · exact .inl h2
    · exact .inr (by simp [h1])
theorem foldP_len : ∀ (l acc : List StateS), (l.foldl (fun m s => putS s m) acc).length ≤ acc.length + l.length
  | [], acc => by simp
  | y :: l, acc => by
    have h1 := foldP_len l (putS y acc)
    have h2 := putS_len (s := y) (m := acc)
    simp only [List.foldl_cons, List.length_cons]
    omega
theorem mapS_mem {l : List StateS} {x : StateS} (h : x ∈ mapS l) : x ∈ l := by
  rcases foldP_mem l [] x h with h1 | h1
  · simp at h1
  · exact h1
theorem mapS_len (l : List StateS) : (mapS l).length ≤ l.length := by
  have := foldP_len l []
  simpa [mapS] using this
theorem setS_mem {l : List StateS} {x : StateS} (h : x ∈ setS l) : x ∈ l := mapS_mem (byKeyS_mem h)
theorem setS_len (l : List StateS) : (setS l).length ≤ l.length := by
  have h1 : (setS l).length = (mapS l).length := by
    have := congrArg List.length (byKeyS_keys (mapS l))
    simpa [sortK_len, setS] using this
  have := mapS_len l
  omega

set_option maxHeartbeats 8000000 in
/-- Of. -/
theorem of_eq {b : Bool} {n : Nat} {l : List StateS} (hn : l = [] ∨ n = 31) (hok : ∀ x ∈ l, x.ok ∧ x.few) (hl : l.length ≤ 900) :
    ∃ v', callW D.T 15 [.vs b .sh n (statesL l)] [] = some (v', some []) ∧ LstO v' (setS l) := by
  obtain ⟨w, c1⟩ := loop15 b n l hn hok hl l.length 0 [] (.vs b .sh n (statesL l)) (.vs true .sh 0 []) rfl rfl rfl rfl (by omega) (by simp) (by simp)
  have z0 : ((0 : Nat) : Int) = 0 := rfl
  rw [z0] at c1
  have hM : l.foldl (fun m s => putS s m) [] = mapS l := rfl
  have hE : entL [] = [] := rfl
  simp only [W15, List.drop_zero, hM, hE] at c1
  have e5 : (statesL l).length = l.length := statesL_len l
  have e7 : ∀ l : List StateS, LVal.pfs (statesL l) = true := statesL_pfs
  obtain ⟨v, k29, hS⟩ := byKey_eq (mapS l) (fun x hx => hok x (mapS_mem hx)) (Nat.le_trans (mapS_len l) (by omega))
  obtain ⟨g1, g2⟩ := entL_within 1 (mapS l)
  have g0 : LObj.within 1 (.map (entL (mapS l))) = true := by simp [LObj.within, g1, g2]
  have hS' : LstO v (setS l) := hS
  have e0 : (0 : Int) ≤ (l.length : Int) := by omega
  rcases hS' with ⟨q1, rfl⟩ | ⟨q1, rfl⟩
  · refine ⟨_, ?_, .inl ⟨q1, rfl⟩⟩
    rw [callW_fn fn15]
    simp [D.l15, D.c15, runFun, LMode.isPure, LVal.pfs, LVal.pf, Go.L.initVars, codeW_seq, codeW_region, codeW_regionD, codeW_cond, codeW_ret, codeW_skip, codeW_exit, codeW_block, codeW_fence, thenW, outW, fenceOut, kill, LVal.withins, LVal.within, runOps, runOpsD, Go.L.step, stepD, semD, sem, RS.peek, RS.put, RS.give, RS.take, RS.takes, RS.takeElems, RS.takeParts, RS.peeks, RS.peekO, RS.setVar, RS.noPk, RS.settle, RS.alloc, callOut, LVal.arg, LVal.isAgg, LVal.cells, LVal.unpk, LVal.copy, LVal.down, LVal.plain, LVal.settled, binL, binInt, binStr, unL, resL, resOne, res1, resAll, LVal.isTup, outL, LOp.quiet, LOp.acts, LOp.peeks, LOper.fix, calmOk, loadCalm, awayOk, dstFree, LVal.free, LVal.calm, LVal.calm1, LOp.opds, optL, RS.acquire, appendL, elemsL, bound, inRange, intL, loadL, storeL, setElems, setParts, fitsElem, lenL, isNilL, partL, chunks, e0, e5, e7]
    rw [c1]
    simp [runFun, LMode.isPure, LVal.pfs, LVal.pf, Go.L.initVars, codeW_seq, codeW_region, codeW_regionD, codeW_cond, codeW_ret, codeW_skip, codeW_exit, codeW_block, codeW_fence, thenW, outW, fenceOut, kill, LVal.withins, LVal.within, runOps, runOpsD, Go.L.step, stepD, semD, sem, RS.peek, RS.put, RS.give, RS.take, RS.takes, RS.takeElems, RS.takeParts, RS.peeks, RS.peekO, RS.setVar, RS.noPk, RS.settle, RS.alloc, callOut, LVal.arg, LVal.isAgg, LVal.cells, LVal.unpk, LVal.copy, LVal.down, LVal.plain, LVal.settled, binL, binInt, binStr, unL, resL, resOne, res1, resAll, LVal.isTup, outL, LOp.quiet, LOp.acts, LOp.peeks, LOper.fix, calmOk, loadCalm, awayOk, dstFree, LVal.free, LVal.calm, LVal.calm1, LOp.opds, optL, RS.acquire, appendL, elemsL, bound, inRange, intL, loadL, storeL, setElems, setParts, fitsElem, lenL, isNilL, partL, chunks, g0, k29, e7]
  · refine ⟨_, ?_, .inr ⟨q1, rfl⟩⟩
    rw [callW_fn fn15]
    simp [D.l15, D.c15, runFun, LMode.isPure, LVal.pfs, LVal.pf, Go.L.initVars, codeW_seq, codeW_region, codeW_regionD, codeW_cond, codeW_ret, codeW_skip, codeW_exit, codeW_block, codeW_fence, thenW, outW, fenceOut, kill, LVal.withins, LVal.within, runOps, runOpsD, Go.L.step, stepD, semD, sem, RS.peek, RS.put, RS.give, RS.take, RS.takes, RS.takeElems, RS.takeParts, RS.peeks, RS.peekO, RS.setVar, RS.noPk, RS.settle, RS.alloc, callOut, LVal.arg, LVal.isAgg, LVal.cells, LVal.unpk, LVal.copy, LVal.down, LVal.plain, LVal.settled, binL, binInt, binStr, unL, resL, resOne, res1, resAll, LVal.isTup, outL, LOp.quiet, LOp.acts, LOp.peeks, LOper.fix, calmOk, loadCalm, awayOk, dstFree, LVal.free, LVal.calm, LVal.calm1, LOp.opds, optL, RS.acquire, appendL, elemsL, bound, inRange, intL, loadL, storeL, setElems, setParts, fitsElem, lenL, isNilL, partL, chunks, e0, e5, e7]
    rw [c1]
    simp [runFun, LMode.isPure, LVal.pfs, LVal.pf, Go.L.initVars, codeW_seq, codeW_region, codeW_regionD, codeW_cond, codeW_ret, codeW_skip, codeW_exit, codeW_block, codeW_fence, thenW, outW, fenceOut, kill, LVal.withins, LVal.within, runOps, runOpsD, Go.L.step, stepD, semD, sem, RS.peek, RS.put, RS.give, RS.take, RS.takes, RS.takeElems, RS.takeParts, RS.peeks, RS.peekO, RS.setVar, RS.noPk, RS.settle, RS.alloc, callOut, LVal.arg, LVal.isAgg, LVal.cells, LVal.unpk, LVal.copy, LVal.down, LVal.plain, LVal.settled, binL, binInt, binStr, unL, resL, resOne, res1, resAll, LVal.isTup, outL, LOp.quiet, LOp.acts, LOp.peeks, LOper.fix, calmOk, loadCalm, awayOk, dstFree, LVal.free, LVal.calm, LVal.calm1, LOp.opds, optL, RS.acquire, appendL, elemsL, bound, inRange, intL, loadL, storeL, setElems, setParts, fitsElem, lenL, isNilL, partL, chunks, g0, k29, e7]
abbrev W15M (c : List LVal) (m : List StateS) (v0 v1 : LVal) (k : Nat) (i : Int) : RS :=
  { vars := [v0, v1, .map 1, .undef, .ms 0 0 k 31 true, .int .i64 k, .int .i64 i, .undef], st := [.cells 31 c, .map (entL m)], rs := [] }

set_option maxHeartbeats 8000000 in
theorem loop15M (l : List StateS) (hok : ∀ x ∈ l, x.ok ∧ x.few) (hl : l.length ≤ 900) : ∀ (j i : Nat) (m : List StateS) (v0 v1 : LVal),
    v0.isOwn = false → v1.isOwn = false → v0.stay = v0 → v1.stay = v1 → i + j = l.length → (∀ x ∈ m, x ∈ l) → m.length ≤ i →
    ∃ (w : Nat → LVal), codeW D.T (.loop D.b15_0) (W15M (flat l) m v0 v1 l.length i) =
      some (.exit 0, { vars := [w 0, w 1, .map 1, w 3, w 4, w 5, w 6, w 7], st := [.cells 31 (flat l), .map (entL ((l.drop i).foldl (fun m s => putS s m) m))], rs := [] })
  | 0, i, m, v0, v1, o0, o1, s0, s1, hij, hmem, hlen => by
    have hi : i = l.length := by omega
    rw [hi, List.drop_length]
    obtain ⟨c1, c2, c3, c4, c5, c6, c7, c8, c9, c10, c11⟩ := (flat_flat (l := l) fun x hx => ok_lies (hok x hx)).fx
    generalize flat l = c at *
    refine ⟨fun j => ([v0, v1, .undef, .undef, .ms 0 0 l.length 31 true, .int .i64 l.length, .int .i64 l.length, .bool false] : List LVal).getD j .undef, ?_⟩
    rw [codeW_loop]
    simp [D.b15_0, runFun, LMode.isPure, LVal.pfs, LVal.pf, Go.L.initVars, codeW_seq, codeW_region, codeW_regionD, codeW_cond, codeW_ret, codeW_skip, codeW_exit, codeW_block, codeW_fence, thenW, outW, fenceOut, kill, LVal.withins, LVal.within, runOps, runOpsD, Go.L.step, stepD, semD, sem, RS.peek, RS.put, RS.give, RS.take, RS.takes, RS.takeElems, RS.takeParts, RS.peeks, RS.peekO, RS.setVar, RS.noPk, RS.settle, RS.alloc, callOut, LVal.arg, LVal.isAgg, LVal.cells, LVal.unpk, LVal.copy, LVal.down, LVal.plain, LVal.settled, binL, binInt, binStr, unL, resL, resOne, res1, resAll, LVal.isTup, outL, LOp.quiet, LOp.acts, LOp.peeks, LOper.fix, calmOk, loadCalm, awayOk, dstFree, LVal.free, LVal.calm, LVal.calm1, LOp.opds, optL, RS.acquire, appendL, elemsL, bound, inRange, intL, loadL, storeL, setElems, setParts, fitsElem, lenL, isNilL, partL, chunks, o0, o1]
  | j + 1, i, m, v0, v1, o0, o1, s0, s1, hij, hmem, hlen => by
    have hi : i < l.length := by omega
    obtain ⟨x, hx⟩ : ∃ x, l[i]? = some x := ⟨_, List.getElem?_eq_getElem hi⟩
    have hxm : x ∈ l := List.mem_of_getElem? hx
    have hdrop : l.drop i = x :: l.drop (i + 1) := by
      rw [List.drop_eq_getElem_cons hi]
      rw [List.getElem?_eq_getElem hi] at hx; injection hx with hx; rw [hx]
    have hxo := hok x hxm
    have e1 : (i : Int) < (l.length : Int) := by omega
    have e0 : 0 ≤ (i : Int) ∧ (i : Int) < (l.length : Int) := by omega
    have e3 : IntKind.i64.wrap ((i : Int) + 1) = (i : Int) + 1 := wi64 (by omega) (by omega)
    have e5 : (statesL l).length = l.length := statesL_len l
    have e6 : (statesL l)[i]? = some (.agg x.cells) := by rw [statesL_get, hx]; rfl
    have e7 : ∀ (n : Nat) (l : List StateS), LVal.withins n (statesL l) = true := fun n l => statesL_within n l
    have e8 : ∀ (n : Nat) (s : StateS), LVal.withins n s.cells = true := fun n s => cells_within n
    have lx : x.lies := ⟨hxo.1.2.2.2.2.2.2.1, hxo.1.2.2.2.2.2.2.2⟩
    obtain ⟨fx1, fx2, fx3⟩ := fits_state lx
    have fx4 := cells_own lx
    have fx5 := cells_down lx
    have fx6 := cells_stay lx
    have fx7 := cells_settled lx
    have fx8 : ∀ x_1, x_1 ∈ x.cells → x_1.plain = true ∨ x_1.isOwn = true := fun _ h => .inl (fx3 _ h)
    have ft : List.take 31 x.cells = x.cells := rfl
    have k10 := key_eq x hxo.1 hxo.2
    have p1 := putL_ent x m
    obtain ⟨g1, g2⟩ := entL_within 2 (putS x m)
    have g0 : LObj.within 2 (.map (entL (putS x m))) = true := by simp [LObj.within, g1, g2]
    obtain ⟨w, IH⟩ := loop15M l hok hl j (i + 1) (putS x m) .undef .undef rfl rfl rfl rfl (by omega) (fun y hy => by
      rcases putS_mem hy with h | h
      · exact h ▸ hxm
      · exact hmem y h) (Nat.le_trans putS_len (by omega))
    rw [hdrop]
    refine ⟨w, ?_⟩
    obtain ⟨c1, c2, c3, c4, c5, c6, c7, c8, c9, c10, c11⟩ := (flat_flat (l := l) fun x hx => ok_lies (hok x hx)).fx
    have hE := flat_at hx
    have hle : i * 31 + 31 ≤ l.length * 31 := by omega
    have fx10 : ¬ ∃ y, y ∈ x.cells ∧ y.isOwn = true := by
      rintro ⟨y, q1, q2⟩
      rw [List.any_eq_false] at fx4
      exact fx4 y q1 q2
    generalize flat l = c at *
    rw [codeW_loop]
    generalize hK : thenW (codeW D.T (.loop D.b15_0)) = K
    simp [D.b15_0, runFun, LMode.isPure, LVal.pfs, LVal.pf, Go.L.initVars, codeW_seq, codeW_region, codeW_regionD, codeW_cond, codeW_ret, codeW_skip, codeW_exit, codeW_block, codeW_fence, thenW, outW, fenceOut, kill, LVal.withins, LVal.within, runOps, runOpsD, Go.L.step, stepD, semD, sem, RS.peek, RS.put, RS.give, RS.take, RS.takes, RS.takeElems, RS.takeParts, RS.peeks, RS.peekO, RS.setVar, RS.noPk, RS.settle, RS.alloc, callOut, LVal.arg, LVal.isAgg, LVal.cells, LVal.unpk, LVal.copy, LVal.down, binL, binInt, binStr, unL, resL, resOne, res1, resAll, LVal.isTup, outL, LOp.quiet, LOp.acts, LOp.peeks, LOper.fix, calmOk, loadCalm, awayOk, dstFree, LVal.free, LVal.calm, LVal.calm1, LOp.opds, optL, RS.acquire, appendL, elemsL, bound, inRange, intL, loadL, storeL, setElems, setParts, fitsElem, lenL, isNilL, partL, chunks, storeL, keyKind, o0, o1, s0, s1, e0, e1, e3, e7, e8, fx1, fx2, eq_true fx3, eq_true fx7, eq_true fx8, fx4, fx5, fx6, ft, k10, p1, g0, eq_false fx10, c1, c2, eq_true c3, eq_true c4, eq_true c5, c6, c7, c8, c11, hE, hle]
    subst hK
    exact IH

set_option maxHeartbeats 8000000 in
/-- Of. -/
theorem ofM_eq {l : List StateS} (hok : ∀ x ∈ l, x.ok ∧ x.few) (hl : l.length ≤ 900) :
    ∃ v', callW D.T 15 [.ms 0 0 l.length 31 true] [.cells 31 (flat l)] = some (v', some [.cells 31 (flat l)]) ∧ LstO v' (setS l) := by
  obtain ⟨w, c1⟩ := loop15M l hok hl l.length 0 [] (.ms 0 0 l.length 31 true) (.vs true .sh 0 []) rfl rfl rfl rfl (by omega) (by simp) (by simp)
  have z0 : ((0 : Nat) : Int) = 0 := rfl
  rw [z0] at c1
  have hM : l.foldl (fun m s => putS s m) [] = mapS l := rfl
  have hE : entL [] = [] := rfl
  simp only [W15M, List.drop_zero, hM, hE] at c1
  have e5 : (statesL l).length = l.length := statesL_len l
  have e7 : ∀ l : List StateS, LVal.pfs (statesL l) = true := statesL_pfs
  obtain ⟨f1, f2, f3, f4, f5, f6, f7, f8, f9, f10, f11⟩ := (flat_flat (l := l) fun x hx => ok_lies (hok x hx)).fx
  have hO : ∀ n, LObj.within n (.cells 31 (flat l)) = true := fun n => f11 n
  obtain ⟨v, k29, hS⟩ := byKeyM_eq _ hO (mapS l) (fun x hx => hok x (mapS_mem hx)) (Nat.le_trans (mapS_len l) (by omega))
  obtain ⟨g1, g2⟩ := entL_within 2 (mapS l)
  have g0 : LObj.within 2 (.map (entL (mapS l))) = true := by simp [LObj.within, g1, g2]
  have hS' : LstO v (setS l) := hS
  have e0 : (0 : Int) ≤ (l.length : Int) := by omega
  generalize flat l = c at *
  rcases hS' with ⟨q1, rfl⟩ | ⟨q1, rfl⟩
  · refine ⟨_, ?_, .inl ⟨q1, rfl⟩⟩
    rw [callW_fn fn15]
    simp [D.l15, D.c15, runFun, LMode.isPure, LVal.pfs, LVal.pf, Go.L.initVars, codeW_seq, codeW_region, codeW_regionD, codeW_cond, codeW_ret, codeW_skip, codeW_exit, codeW_block, codeW_fence, thenW, outW, fenceOut, kill, LVal.withins, LVal.within, runOps, runOpsD, Go.L.step, stepD, semD, sem, RS.peek, RS.put, RS.give, RS.take, RS.takes, RS.takeElems, RS.takeParts, RS.peeks, RS.peekO, RS.setVar, RS.noPk, RS.settle, RS.alloc, callOut, LVal.arg, LVal.isAgg, LVal.cells, LVal.unpk, LVal.copy, LVal.down, LVal.plain, LVal.settled, binL, binInt, binStr, unL, resL, resOne, res1, resAll, LVal.isTup, outL, LOp.quiet, LOp.acts, LOp.peeks, LOper.fix, calmOk, loadCalm, awayOk, dstFree, LVal.free, LVal.calm, LVal.calm1, LOp.opds, optL, RS.acquire, appendL, elemsL, bound, inRange, intL, loadL, storeL, setElems, setParts, fitsElem, lenL, isNilL, partL, chunks, e0, e7, f11]
    rw [c1]
    simp [runFun, LMode.isPure, LVal.pfs, LVal.pf, Go.L.initVars, codeW_seq, codeW_region, codeW_regionD, codeW_cond, codeW_ret, codeW_skip, codeW_exit, codeW_block, codeW_fence, thenW, outW, fenceOut, kill, LVal.withins, LVal.within, runOps, runOpsD, Go.L.step, stepD, semD, sem, RS.peek, RS.put, RS.give, RS.take, RS.takes, RS.takeElems, RS.takeParts, RS.peeks, RS.peekO, RS.setVar, RS.noPk, RS.settle, RS.alloc, callOut, LVal.arg, LVal.isAgg, LVal.cells, LVal.unpk, LVal.copy, LVal.down, LVal.plain, LVal.settled, binL, binInt, binStr, unL, resL, resOne, res1, resAll, LVal.isTup, outL, LOp.quiet, LOp.acts, LOp.peeks, LOper.fix, calmOk, loadCalm, awayOk, dstFree, LVal.free, LVal.calm, LVal.calm1, LOp.opds, optL, RS.acquire, appendL, elemsL, bound, inRange, intL, loadL, storeL, setElems, setParts, fitsElem, lenL, isNilL, partL, chunks, g0, k29, e7, f11]
  · refine ⟨_, ?_, .inr ⟨q1, rfl⟩⟩
    rw [callW_fn fn15]
    simp [D.l15, D.c15, runFun, LMode.isPure, LVal.pfs, LVal.pf, Go.L.initVars, codeW_seq, codeW_region, codeW_regionD, codeW_cond, codeW_ret, codeW_skip, codeW_exit, codeW_block, codeW_fence, thenW, outW, fenceOut, kill, LVal.withins, LVal.within, runOps, runOpsD, Go.L.step, stepD, semD, sem, RS.peek, RS.put, RS.give, RS.take, RS.takes, RS.takeElems, RS.takeParts, RS.peeks, RS.peekO, RS.setVar, RS.noPk, RS.settle, RS.alloc, callOut, LVal.arg, LVal.isAgg, LVal.cells, LVal.unpk, LVal.copy, LVal.down, LVal.plain, LVal.settled, binL, binInt, binStr, unL, resL, resOne, res1, resAll, LVal.isTup, outL, LOp.quiet, LOp.acts, LOp.peeks, LOper.fix, calmOk, loadCalm, awayOk, dstFree, LVal.free, LVal.calm, LVal.calm1, LOp.opds, optL, RS.acquire, appendL, elemsL, bound, inRange, intL, loadL, storeL, setElems, setParts, fitsElem, lenL, isNilL, partL, chunks, e0, e7, f11]
    rw [c1]
    simp [runFun, LMode.isPure, LVal.pfs, LVal.pf, Go.L.initVars, codeW_seq, codeW_region, codeW_regionD, codeW_cond, codeW_ret, codeW_skip, codeW_exit, codeW_block, codeW_fence, thenW, outW, fenceOut, kill, LVal.withins, LVal.within, runOps, runOpsD, Go.L.step, stepD, semD, sem, RS.peek, RS.put, RS.give, RS.take, RS.takes, RS.takeElems, RS.takeParts, RS.peeks, RS.peekO, RS.setVar, RS.noPk, RS.settle, RS.alloc, callOut, LVal.arg, LVal.isAgg, LVal.cells, LVal.unpk, LVal.copy, LVal.down, LVal.plain, LVal.settled, binL, binInt, binStr, unL, resL, resOne, res1, resAll, LVal.isTup, outL, LOp.quiet, LOp.acts, LOp.peeks, LOper.fix, calmOk, loadCalm, awayOk, dstFree, LVal.free, LVal.calm, LVal.calm1, LOp.opds, optL, RS.acquire, appendL, elemsL, bound, inRange, intL, loadL, storeL, setElems, setParts, fitsElem, lenL, isNilL, partL, chunks, g0, k29, e7, f11]
end Go.Proofs.Ytbljgbojkifoiaa
