/- SetsKeeps: states that lie where they may be written. -/
import Derived.Test.YtbljgbojkifoiaaKVH
import Derived.Test.YtbljgbojkifoiaaKVF
set_option linter.unusedVariables false
set_option linter.unusedSimpArgs false
namespace Go.Proofs.Ytbljgbojkifoiaa
open Go Go.L

theorem fn14 : D.T.fns 14 = some (.fn D.l14) := rfl
/-- The same states, one by one. -/
def sameS (l m : List StateS) : Bool := l.map keyB == m.map keyB

theorem sameS_len {l m : List StateS} (h : l.length ≠ m.length) : sameS l m = false := by
  simp only [sameS, beq_eq_false_iff_ne, ne_eq]
  intro e
  exact h (by simpa using congrArg List.length e)

theorem plain_own {v : LVal} (h : v.plain = true) : v.isOwn = false := by
  cases v with
  | vs b o n xs => cases o <;> simp_all [LVal.plain]
  | _ => rfl
theorem plain_down {v : LVal} (h : v.plain = true) : v.down = v := by
  cases v with
  | vs b o n xs => cases o <;> simp_all [LVal.plain, LVal.down]
  | _ => rfl
theorem plain_stay {v : LVal} (h : v.plain = true) : v.stay = v := by
  cases v with
  | vs b o n xs => cases o <;> simp_all [LVal.plain, LVal.stay]
  | _ => rfl
theorem plain_settled {v : LVal} (h : v.plain = true) : v.settled = true := by
  cases v with
  | vs b o n xs => cases o <;> simp_all [LVal.plain, LVal.settled]
  | _ => rfl
mutual
theorem pf_within {n : Nat} : ∀ (v : LVal), v.pf = true → v.within n = true
  | .ptr .., h => by simp [LVal.pf] at h
  | .ms .., h => by simp [LVal.pf] at h
  | .map _, h => by simp [LVal.pf] at h
  | .func _ caps, h => by simp only [LVal.pf] at h; simp only [LVal.within]; exact pfs_within caps h
  | .iface _ v, h => by simp only [LVal.pf] at h; simp only [LVal.within]; exact pf_within v h
  | .agg cs, h => by simp only [LVal.pf] at h; simp only [LVal.within]; exact pfs_within cs h
  | .tup l, h => by simp only [LVal.pf] at h; simp only [LVal.within]; exact pfs_within l h
  | .undef, _ => rfl
  | .bool _, _ => rfl
  | .int .., _ => rfl
  | .str _, _ => rfl
  | .ref _, _ => rfl
  | .nilptr, _ => rfl
  | .vs .., _ => rfl
  | .nilmap, _ => rfl
  | .nilfunc, _ => rfl
  | .niliface, _ => rfl
theorem pfs_within {n : Nat} : ∀ (l : List LVal), LVal.pfs l = true → LVal.withins n l = true
  | [], _ => rfl
  | v :: r, h => by
    simp only [LVal.pfs, Bool.and_eq_true] at h
    simp only [LVal.withins, Bool.and_eq_true]
    exact ⟨pf_within v h.1, pfs_within r h.2⟩
end

/-- Cells of their own, of so many. -/
structure Flat (n : Nat) (cs : List LVal) : Prop where
  len : cs.length = n
  plain : ∀ x ∈ cs, x.plain = true
  pfs : LVal.pfs cs = true

theorem Flat.fx {n : Nat} {cs : List LVal} (h : Flat n cs) : cs.length = n ∧ LVal.pfs cs = true ∧ (∀ x ∈ cs, x.plain = true) ∧ (∀ x ∈ cs, x.settled = true) ∧ (∀ x ∈ cs, x.plain = true ∨ x.isOwn = true) ∧ cs.any LVal.isOwn = false ∧
    cs.map LVal.down = cs ∧ cs.map LVal.stay = cs ∧ List.take n cs = cs ∧ (¬ ∃ x, x ∈ cs ∧ x.isOwn = true) ∧ (∀ k, LVal.withins k cs = true) := by
  refine ⟨h.len, h.pfs, h.plain, fun x hx => plain_settled (h.plain x hx), fun x hx => .inl (h.plain x hx), ?_, ?_, ?_, ?_, ?_, fun k => pfs_within _ h.pfs⟩
  · rw [List.any_eq_false]
    intro x hx
    rw [plain_own (h.plain x hx)]; simp
  · conv => rhs; rw [← List.map_id cs]
    exact List.map_congr_left fun x hx => plain_down (h.plain x hx)
  · conv => rhs; rw [← List.map_id cs]
    exact List.map_congr_left fun x hx => plain_stay (h.plain x hx)
  · exact List.take_of_length_le (by rw [h.len]; exact Nat.le_refl _)
  · rintro ⟨x, h1, h2⟩
    rw [plain_own (h.plain x h1)] at h2; cases h2


/-- A list's cells, one behind the other. -/
def flat (l : List StateS) : List LVal := (statesL l).flatMap LVal.cells
theorem flat_uni (l : List StateS) : ∀ x ∈ statesL l, x.cells.length = 31 := by
  intro x hx
  simp only [statesL, List.mem_map] at hx
  obtain ⟨s, _, rfl⟩ := hx
  rfl
theorem flat_len (l : List StateS) : (flat l).length = l.length * 31 := by
  rw [flat, sum_cells (flat_uni l), statesL_len]
theorem flat_at {l : List StateS} {i : Nat} {x : StateS} (h : l[i]? = some x) : List.take 31 (List.drop (i * 31) (flat l)) = x.cells := by
  have := flat_elem (n := 31) (flat_uni l) (i := i) (v := .agg x.cells) (by rw [statesL_get, h]; rfl)
  exact this
theorem flat_cons (x : StateS) (l : List StateS) : flat (x :: l) = x.cells ++ flat l := rfl
theorem pfs_append : ∀ (a b : List LVal), LVal.pfs (a ++ b) = (LVal.pfs a && LVal.pfs b)
  | [], b => rfl
  | x :: a, b => by simp only [List.cons_append, LVal.pfs, pfs_append a b, Bool.and_assoc]
theorem flat_flat : ∀ {l : List StateS}, (∀ x ∈ l, x.lies) → Flat (l.length * 31) (flat l)
  | [], _ => ⟨rfl, by simp [flat, statesL], rfl⟩
  | x :: l, h => by
    have ih := flat_flat (l := l) fun y hy => h y (List.mem_cons_of_mem _ hy)
    have lx := h x (List.mem_cons_self ..)
    obtain ⟨f1, f2, f3⟩ := fits_state lx
    refine ⟨flat_len _, fun y hy => ?_, ?_⟩
    · rw [flat_cons] at hy
      rcases List.mem_append.1 hy with hy | hy
      · exact f3 y hy
      · exact ih.plain y hy
    · rw [flat_cons, pfs_append, f2, ih.pfs]; rfl
theorem ok_lies {x : StateS} (h : x.ok ∧ x.few) : x.lies := ⟨h.1.2.2.2.2.2.2.1, h.1.2.2.2.2.2.2.2⟩

abbrev W14 (b0 b1 : Bool) (n0 n1 : Nat) (l m : List StateS) (st : List LObj) (v2 : LVal) (i : Int) (v4 : LVal) : RS :=
  { vars := [.vs b0 .sh n0 (statesL l), .vs b1 .sh n1 (statesL m), v2,   .int .i64 i, v4, .undef, .undef], st := st, rs := [] }
abbrev W14M (b1 : Bool) (n1 : Nat) (k : Nat) (c : List LVal) (m : List StateS) (st : List LObj) (v2 : LVal) (i : Int) (v4 : LVal) : RS :=
  { vars := [.ms 0 0 k 31 true, .vs b1 .sh n1 (statesL m), v2,   .int .i64 i, v4, .undef, .undef], st := .cells 31 c :: st, rs := [] }

set_option maxHeartbeats 8000000 in
theorem loop14 (b0 b1 : Bool) (n0 n1 : Nat) (l m : List StateS) (h0 : l = [] ∨ n0 = 31) (h1 : m = [] ∨ n1 = 31) (hl1 : ∀ x ∈ l, x.ok ∧ x.few) (hm1 : ∀ x ∈ m, x.ok ∧ x.few) (hlen : l.length = m.length) (hl : l.length ≤ 100000) (st : List LObj) (hw : ∀ x ∈ st, LObj.within st.length x = true) (hse : st.map LObj.settle = st) : ∀ (j i : Nat) (v2 v4 : LVal),
    v2.isOwn = false → v4.isOwn = false → i + j = l.length →
    ∃ (w : Nat → LVal), codeW D.T (.loop D.b14_0) (W14 b0 b1 n0 n1 l m st v2 i v4) =
      some (if sameS (l.drop i) (m.drop i) then .exit 0 else .ret, { vars := [w 0, w 1, if sameS (l.drop i) (m.drop i) then w 2 else .bool false, w 3, w 4, w 5, w 6], st := st, rs := [] })
  | 0, i, v2, v4, o2, o4, hij => by
    have hi : i = l.length := by omega
    subst hi
    have e5 : (statesL l).length = l.length := statesL_len l
    have hlen' : (statesL m).length = m.length := statesL_len m
    rw [List.drop_length, hlen, List.drop_length]
    refine ⟨fun j => ([.vs b0 .sh n0 (statesL l), .vs b1 .sh n1 (statesL m), v2, .int .i64 m.length, v4, .bool false, .undef] : List LVal).getD j .undef, ?_⟩
    rw [codeW_loop]
    simp [D.b14_0, runFun, LMode.isPure, LVal.pfs, LVal.pf, Go.L.initVars, codeW_seq, codeW_region, codeW_regionD, codeW_cond, codeW_ret, codeW_skip, codeW_exit, codeW_block, codeW_fence, thenW, outW, fenceOut, kill, LVal.withins, LVal.within, runOps, runOpsD, Go.L.step, stepD, semD, sem, RS.peek, RS.put, RS.give, RS.take, RS.takes, RS.takeElems, RS.takeParts, RS.peeks, RS.peekO, RS.setVar, RS.noPk, RS.settle, RS.alloc, callOut, LVal.arg, LVal.isAgg, LVal.cells, LVal.unpk, LVal.copy, LVal.down, LVal.plain, LVal.settled, binL, binInt, binStr, unL, resL, resOne, res1, resAll, LVal.isTup, outL, LOp.quiet, LOp.acts, LOp.peeks, LOper.fix, calmOk, loadCalm, awayOk, dstFree, LVal.free, LVal.calm, LVal.calm1, LOp.opds, optL, RS.acquire, appendL, elemsL, bound, inRange, intL, loadL, storeL, setElems, setParts, fitsElem, lenL, isNilL, partL, chunks, o2, o4, e5, sameS, hlen, hlen', eq_true hw, hse]
  | j + 1, i, v2, v4, o2, o4, hij => by
    have hi : i < l.length := by omega
    have hi' : i < m.length := by omega
    obtain ⟨x, hx⟩ : ∃ x, l[i]? = some x := ⟨_, List.getElem?_eq_getElem hi⟩
    obtain ⟨y, hy⟩ : ∃ y, m[i]? = some y := ⟨_, List.getElem?_eq_getElem hi'⟩
    have hdrop : l.drop i = x :: l.drop (i + 1) := by
      rw [List.drop_eq_getElem_cons hi]
      rw [List.getElem?_eq_getElem hi] at hx; injection hx with hx; rw [hx]
    have hdrop' : m.drop i = y :: m.drop (i + 1) := by
      rw [List.drop_eq_getElem_cons hi']
      rw [List.getElem?_eq_getElem hi'] at hy; injection hy with hy; rw [hy]
    have hn0 : n0 = 31 := by
      rcases h0 with rfl | h
      · simp at hi
      · exact h
    have hn1 : n1 = 31 := by
      rcases h1 with rfl | h
      · simp at hi'
      · exact h
    subst hn0 hn1
    have e1 : (i : Int) < (m.length : Int) := by omega
    have e2 : (i : Int) < (l.length : Int) := by omega
    have e0 : 0 ≤ (i : Int) ∧ (i : Int) < (m.length : Int) := by omega
    have e0' : 0 ≤ (i : Int) ∧ (i : Int) < (l.length : Int) := by omega
    have e3 : IntKind.i64.wrap ((i : Int) + 1) = (i : Int) + 1 := wi64 (by omega) (by omega)
    have e5 : (statesL l).length = l.length := statesL_len l
    have e5' : (statesL m).length = m.length := statesL_len m
    have e6 : (statesL l)[i]? = some (.agg x.cells) := by rw [statesL_get, hx]; rfl
    have e6' : (statesL m)[i]? = some (.agg y.cells) := by rw [statesL_get, hy]; rfl
    have hxo := hl1 x (List.mem_of_getElem? hx)
    have hyo := hm1 y (List.mem_of_getElem? hy)
    have e7 : ∀ l : List StateS, LVal.pfs (statesL l) = true := statesL_pfs
    have lx : x.lies := ⟨hxo.1.2.2.2.2.2.2.1, hxo.1.2.2.2.2.2.2.2⟩
    have ly : y.lies := ⟨hyo.1.2.2.2.2.2.2.1, hyo.1.2.2.2.2.2.2.2⟩
    obtain ⟨fx1, fx2, fx3⟩ := fits_state lx
    obtain ⟨fy1, fy2, fy3⟩ := fits_state ly
    have c12 := same_eq x y (hxo.1.shut hxo.2) (hyo.1.shut hyo.2)
    have hk : @decide (Alike x y) (Classical.propDecidable _) = (keyB x == keyB y) := by
      rw [Bool.eq_iff_iff]
      simp [key_inj]
    rw [hk] at c12
    rw [hdrop, hdrop']
    obtain ⟨w, IH⟩ := loop14 b0 b1 31 31 l m (.inr rfl) (.inr rfl) hl1 hm1 hlen hl st hw hse j (i + 1) .undef .undef rfl rfl (by omega)
    rw [codeW_loop]
    generalize hK : thenW (codeW D.T (.loop D.b14_0)) = K
    cases hq : keyB x == keyB y with
    | false =>
      have hs : sameS (x :: l.drop (i + 1)) (y :: m.drop (i + 1)) = false := by simp [sameS] at hq ⊢; simp [hq]
      rw [hs]
      rw [hq] at c12
      refine ⟨fun j => ([.vs b0 .sh 31 (statesL l), .vs b1 .sh 31 (statesL m), v2, .int .i64 i, v4.stay, .bool true, .bool true] : List LVal).getD j .undef, ?_⟩
      simp [D.b14_0, runFun, LMode.isPure, LVal.pfs, LVal.pf, Go.L.initVars, codeW_seq, codeW_region, codeW_regionD, codeW_cond, codeW_ret, codeW_skip, codeW_exit, codeW_block, codeW_fence, thenW, outW, fenceOut, kill, LVal.withins, LVal.within, runOps, runOpsD, Go.L.step, stepD, semD, sem, RS.peek, RS.put, RS.give, RS.take, RS.takes, RS.takeElems, RS.takeParts, RS.peeks, RS.peekO, RS.setVar, RS.noPk, RS.settle, RS.alloc, callOut, LVal.arg, LVal.isAgg, LVal.cells, LVal.unpk, LVal.copy, LVal.down, LVal.plain, LVal.settled, binL, binInt, binStr, unL, resL, resOne, res1, resAll, LVal.isTup, outL, LOp.quiet, LOp.acts, LOp.peeks, LOper.fix, calmOk, loadCalm, awayOk, dstFree, LVal.free, LVal.calm, LVal.calm1, LOp.opds, optL, RS.acquire, appendL, elemsL, bound, inRange, intL, loadL, storeL, setElems, setParts, fitsElem, lenL, isNilL, partL, chunks, o2, o4, e0, e0', e1, e2, e3, e5, e5', e6, e6', e7, fx1, fx2, fy1, fy2, c12, eq_true hw, hse]
      subst hK
      rfl
    | true =>
      have hs : sameS (x :: l.drop (i + 1)) (y :: m.drop (i + 1)) = sameS (l.drop (i + 1)) (m.drop (i + 1)) := by simp [sameS] at hq ⊢; simp [hq]
      rw [hs]
      rw [hq] at c12
      refine ⟨w, ?_⟩
      simp [D.b14_0, runFun, LMode.isPure, LVal.pfs, LVal.pf, Go.L.initVars, codeW_seq, codeW_region, codeW_regionD, codeW_cond, codeW_ret, codeW_skip, codeW_exit, codeW_block, codeW_fence, thenW, outW, fenceOut, kill, LVal.withins, LVal.within, runOps, runOpsD, Go.L.step, stepD, semD, sem, RS.peek, RS.put, RS.give, RS.take, RS.takes, RS.takeElems, RS.takeParts, RS.peeks, RS.peekO, RS.setVar, RS.noPk, RS.settle, RS.alloc, callOut, LVal.arg, LVal.isAgg, LVal.cells, LVal.unpk, LVal.copy, LVal.down, LVal.plain, LVal.settled, binL, binInt, binStr, unL, resL, resOne, res1, resAll, LVal.isTup, outL, LOp.quiet, LOp.acts, LOp.peeks, LOper.fix, calmOk, loadCalm, awayOk, dstFree, LVal.free, LVal.calm, LVal.calm1, LOp.opds, optL, RS.acquire, appendL, elemsL, bound, inRange, intL, loadL, storeL, setElems, setParts, fitsElem, lenL, isNilL, partL, chunks, o2, o4, e0, e0', e1, e2, e3, e5, e5', e6, e6', e7, fx1, fx2, fy1, fy2, c12, eq_true hw, hse]
      subst hK
      exact IH

set_option maxHeartbeats 8000000 in
theorem loop14M (b1 : Bool) (n1 : Nat) (l m : List StateS) (h1 : m = [] ∨ n1 = 31) (hl1 : ∀ x ∈ l, x.ok ∧ x.few) (hm1 : ∀ x ∈ m, x.ok ∧ x.few) (hlen : l.length = m.length) (hl : l.length ≤ 100000) (st : List LObj) (hw : ∀ x ∈ st, LObj.within (st.length + 1) x = true) (hse : st.map LObj.settle = st) : ∀ (j i : Nat) (v2 v4 : LVal),
    v2.isOwn = false → v4.isOwn = false → i + j = l.length →
    ∃ (w : Nat → LVal), codeW D.T (.loop D.b14_0) (W14M b1 n1 l.length (flat l) m st v2 i v4) =
      some (if sameS (l.drop i) (m.drop i) then .exit 0 else .ret, { vars := [w 0, w 1, if sameS (l.drop i) (m.drop i) then w 2 else .bool false, w 3, w 4, w 5, w 6], st := .cells 31 (flat l) :: st, rs := [] })
  | 0, i, v2, v4, o2, o4, hij => by
    have hi : i = l.length := by omega
    subst hi
    obtain ⟨c1, c2, c3, c4, c5, c6, c7, c8, c9, c10, c11⟩ := (flat_flat (l := l) fun x hx => ok_lies (hl1 x hx)).fx
    generalize flat l = c at *
    have hlen' : (statesL m).length = m.length := statesL_len m
    rw [List.drop_length, hlen, List.drop_length]
    refine ⟨fun j => ([.ms 0 0 l.length 31 true, .vs b1 .sh n1 (statesL m), v2, .int .i64 m.length, v4, .bool false, .undef] : List LVal).getD j .undef, ?_⟩
    rw [codeW_loop]
    simp [D.b14_0, runFun, LMode.isPure, LVal.pfs, LVal.pf, Go.L.initVars, codeW_seq, codeW_region, codeW_regionD, codeW_cond, codeW_ret, codeW_skip, codeW_exit, codeW_block, codeW_fence, thenW, outW, fenceOut, kill, LVal.withins, LVal.within, runOps, runOpsD, Go.L.step, stepD, semD, sem, RS.peek, RS.put, RS.give, RS.take, RS.takes, RS.takeElems, RS.takeParts, RS.peeks, RS.peekO, RS.setVar, RS.noPk, RS.settle, RS.alloc, callOut, LVal.arg, LVal.isAgg, LVal.cells, LVal.unpk, LVal.copy, LVal.down, binL, binInt, binStr, unL, resL, resOne, res1, resAll, LVal.isTup, outL, LOp.quiet, LOp.acts, LOp.peeks, LOper.fix, calmOk, loadCalm, awayOk, dstFree, LVal.free, LVal.calm, LVal.calm1, LOp.opds, optL, RS.acquire, appendL, elemsL, bound, inRange, intL, loadL, storeL, setElems, setParts, fitsElem, lenL, isNilL, partL, chunks, o2, o4, sameS, hlen, hlen', eq_true hw, hse, c8, c11]
  | j + 1, i, v2, v4, o2, o4, hij => by
    have hi : i < l.length := by omega
    have hi' : i < m.length := by omega
    obtain ⟨x, hx⟩ : ∃ x, l[i]? = some x := ⟨_, List.getElem?_eq_getElem hi⟩
    obtain ⟨y, hy⟩ : ∃ y, m[i]? = some y := ⟨_, List.getElem?_eq_getElem hi'⟩
    have hdrop : l.drop i = x :: l.drop (i + 1) := by
      rw [List.drop_eq_getElem_cons hi]
      rw [List.getElem?_eq_getElem hi] at hx; injection hx with hx; rw [hx]
    have hdrop' : m.drop i = y :: m.drop (i + 1) := by
      rw [List.drop_eq_getElem_cons hi']
      rw [List.getElem?_eq_getElem hi'] at hy; injection hy with hy; rw [hy]
    have hn1 : n1 = 31 := by
      rcases h1 with rfl | h
      · simp at hi'
      · exact h
    subst hn1
    have e1 : (i : Int) < (m.length : Int) := by omega
    have e2 : (i : Int) < (l.length : Int) := by omega
    have e0 : 0 ≤ (i : Int) ∧ (i : Int) < (m.length : Int) := by omega
    have e0' : 0 ≤ (i : Int) ∧ (i : Int) < (l.length : Int) := by omega
    have e3 : IntKind.i64.wrap ((i : Int) + 1) = (i : Int) + 1 := wi64 (by omega) (by omega)
    have e5 : (statesL l).length = l.length := statesL_len l
    have e5' : (statesL m).length = m.length := statesL_len m
    have e6 : (statesL l)[i]? = some (.agg x.cells) := by rw [statesL_get, hx]; rfl
    have e6' : (statesL m)[i]? = some (.agg y.cells) := by rw [statesL_get, hy]; rfl
    have hxo := hl1 x (List.mem_of_getElem? hx)
    have hyo := hm1 y (List.mem_of_getElem? hy)
    have e7 : ∀ l : List StateS, LVal.pfs (statesL l) = true := statesL_pfs
    have lx : x.lies := ⟨hxo.1.2.2.2.2.2.2.1, hxo.1.2.2.2.2.2.2.2⟩
    have ly : y.lies := ⟨hyo.1.2.2.2.2.2.2.1, hyo.1.2.2.2.2.2.2.2⟩
    obtain ⟨fx1, fx2, fx3⟩ := fits_state lx
    obtain ⟨fy1, fy2, fy3⟩ := fits_state ly
    have c12 := same_eq x y (hxo.1.shut hxo.2) (hyo.1.shut hyo.2)
    have hk : @decide (Alike x y) (Classical.propDecidable _) = (keyB x == keyB y) := by
      rw [Bool.eq_iff_iff]
      simp [key_inj]
    rw [hk] at c12
    rw [hdrop, hdrop']
    obtain ⟨c1, c2, c3, c4, c5, c6, c7, c8, c9, c10, c11⟩ := (flat_flat (l := l) fun x hx => ok_lies (hl1 x hx)).fx
    have hE := flat_at hx
    have hle : i * 31 + 31 ≤ l.length * 31 := by omega
    have fx4 := cells_own lx
    have fx5 := cells_down lx
    have fx8 : ∀ x_1, x_1 ∈ x.cells → x_1.plain = true ∨ x_1.isOwn = true := fun _ h => .inl (fx3 _ h)
    have fx10 : ¬ ∃ y, y ∈ x.cells ∧ y.isOwn = true := by
      rintro ⟨y, q1, q2⟩
      rw [List.any_eq_false] at fx4
      exact fx4 y q1 q2
    obtain ⟨w, IH⟩ := loop14M b1 31 l m (.inr rfl) hl1 hm1 hlen hl st hw hse j (i + 1) .undef .undef rfl rfl (by omega)
    generalize flat l = c at *
    rw [codeW_loop]
    generalize hK : thenW (codeW D.T (.loop D.b14_0)) = K
    cases hq : keyB x == keyB y with
    | false =>
      have hs : sameS (x :: l.drop (i + 1)) (y :: m.drop (i + 1)) = false := by simp [sameS] at hq ⊢; simp [hq]
      rw [hs]
      rw [hq] at c12
      refine ⟨fun j => ([.ms 0 0 l.length 31 true, .vs b1 .sh 31 (statesL m), v2, .int .i64 i, v4.stay, .bool true, .bool true] : List LVal).getD j .undef, ?_⟩
      simp [D.b14_0, runFun, LMode.isPure, LVal.pfs, LVal.pf, Go.L.initVars, codeW_seq, codeW_region, codeW_regionD, codeW_cond, codeW_ret, codeW_skip, codeW_exit, codeW_block, codeW_fence, thenW, outW, fenceOut, kill, LVal.withins, LVal.within, runOps, runOpsD, Go.L.step, stepD, semD, sem, RS.peek, RS.put, RS.give, RS.take, RS.takes, RS.takeElems, RS.takeParts, RS.peeks, RS.peekO, RS.setVar, RS.noPk, RS.settle, RS.alloc, callOut, LVal.arg, LVal.isAgg, LVal.cells, LVal.unpk, LVal.copy, LVal.down, binL, binInt, binStr, unL, resL, resOne, res1, resAll, LVal.isTup, outL, LOp.quiet, LOp.acts, LOp.peeks, LOper.fix, calmOk, loadCalm, awayOk, dstFree, LVal.free, LVal.calm, LVal.calm1, LOp.opds, optL, RS.acquire, appendL, elemsL, bound, inRange, intL, loadL, storeL, setElems, setParts, fitsElem, lenL, isNilL, partL, chunks, o2, o4, e0, e0', e1, e2, e3, e5', e6', e7, fx1, fx2, eq_true fx3, fx4, fx5, eq_false fx10, fy1, fy2, c12, eq_true hw, hse, c1, c2, eq_true c3, eq_true c4, eq_true c5, c6, c7, c8, c11, hE, hle, eq_true fx8]
      subst hK
      rfl
    | true =>
      have hs : sameS (x :: l.drop (i + 1)) (y :: m.drop (i + 1)) = sameS (l.drop (i + 1)) (m.drop (i + 1)) := by simp [sameS] at hq ⊢; simp [hq]
      rw [hs]
      rw [hq] at c12
      refine ⟨w, ?_⟩
      simp [D.b14_0, runFun, LMode.isPure, LVal.pfs, LVal.pf, Go.L.initVars, codeW_seq, codeW_region, codeW_regionD, codeW_cond, codeW_ret, codeW_skip, codeW_exit, codeW_block, codeW_fence, thenW, outW, fenceOut, kill, LVal.withins, LVal.within, runOps, runOpsD, Go.L.step, stepD, semD, sem, RS.peek, RS.put, RS.give, RS.take, RS.takes, RS.takeElems, RS.takeParts, RS.peeks, RS.peekO, RS.setVar, RS.noPk, RS.settle, RS.alloc, callOut, LVal.arg, LVal.isAgg, LVal.cells, LVal.unpk, LVal.copy, LVal.down, binL, binInt, binStr, unL, resL, resOne, res1, resAll, LVal.isTup, outL, LOp.quiet, LOp.acts, LOp.peeks, LOper.fix, calmOk, loadCalm, awayOk, dstFree, LVal.free, LVal.calm, LVal.calm1, LOp.opds, optL, RS.acquire, appendL, elemsL, bound, inRange, intL, loadL, storeL, setElems, setParts, fitsElem, lenL, isNilL, partL, chunks, o2, o4, e0, e0', e1, e2, e3, e5', e6', e7, fx1, fx2, eq_true fx3, fx4, fx5, eq_false fx10, fy1, fy2, c12, eq_true hw, hse, c1, c2, eq_true c3, eq_true c4, eq_true c5, c6, c7, c8, c11, hE, hle, eq_true fx8]
      subst hK
      exact IH

set_option maxHeartbeats 8000000 in
/-- Same. -/
theorem rsame_eq {b0 b1 : Bool} {n0 n1 : Nat} {l m : List StateS} (h0 : l = [] ∨ n0 = 31) (h1 : m = [] ∨ n1 = 31) (hl1 : ∀ x ∈ l, x.ok ∧ x.few) (hm1 : ∀ x ∈ m, x.ok ∧ x.few) (hl : l.length ≤ 100000) (hl' : m.length ≤ 100000) {st : List LObj} (hw : ∀ x ∈ st, LObj.within st.length x = true) (hse : st.map LObj.settle = st) :
    callW D.T 14 [.vs b0 .sh n0 (statesL l), .vs b1 .sh n1 (statesL m)] st = some (.bool (sameS l m), some st) := by
  have e5 : (statesL l).length = l.length := statesL_len l
  have e5' : (statesL m).length = m.length := statesL_len m
  have e7 : ∀ l : List StateS, LVal.pfs (statesL l) = true := statesL_pfs
  rw [callW_fn fn14]
  by_cases hlen : l.length = m.length
  · obtain ⟨w, c1⟩ := loop14 b0 b1 n0 n1 l m h0 h1 hl1 hm1 hlen hl st hw hse l.length 0 (.bool false) (.bool false) rfl rfl (by omega)
    have z0 : ((0 : Nat) : Int) = 0 := rfl
    rw [z0] at c1
    simp only [List.drop_zero] at c1
    simp [D.l14, D.c14, runFun, LMode.isPure, LVal.pfs, LVal.pf, Go.L.initVars, codeW_seq, codeW_region, codeW_regionD, codeW_cond, codeW_ret, codeW_skip, codeW_exit, codeW_block, codeW_fence, thenW, outW, fenceOut, kill, LVal.withins, LVal.within, runOps, runOpsD, Go.L.step, stepD, semD, sem, RS.peek, RS.put, RS.give, RS.take, RS.takes, RS.takeElems, RS.takeParts, RS.peeks, RS.peekO, RS.setVar, RS.noPk, RS.settle, RS.alloc, callOut, LVal.arg, LVal.isAgg, LVal.cells, LVal.unpk, LVal.copy, LVal.down, LVal.plain, LVal.settled, binL, binInt, binStr, unL, resL, resOne, res1, resAll, LVal.isTup, outL, LOp.quiet, LOp.acts, LOp.peeks, LOper.fix, calmOk, loadCalm, awayOk, dstFree, LVal.free, LVal.calm, LVal.calm1, LOp.opds, optL, RS.acquire, appendL, elemsL, bound, inRange, intL, loadL, storeL, setElems, setParts, fitsElem, lenL, isNilL, partL, chunks, e5, e5', e7, hlen, eq_true hw]
    rw [c1]
    cases sameS l m <;> simp [runFun, LMode.isPure, LVal.pfs, LVal.pf, Go.L.initVars, codeW_seq, codeW_region, codeW_regionD, codeW_cond, codeW_ret, codeW_skip, codeW_exit, codeW_block, codeW_fence, thenW, outW, fenceOut, kill, LVal.withins, LVal.within, runOps, runOpsD, Go.L.step, stepD, semD, sem, RS.peek, RS.put, RS.give, RS.take, RS.takes, RS.takeElems, RS.takeParts, RS.peeks, RS.peekO, RS.setVar, RS.noPk, RS.settle, RS.alloc, callOut, LVal.arg, LVal.isAgg, LVal.cells, LVal.unpk, LVal.copy, LVal.down, LVal.plain, LVal.settled, binL, binInt, binStr, unL, resL, resOne, res1, resAll, LVal.isTup, outL, LOp.quiet, LOp.acts, LOp.peeks, LOper.fix, calmOk, loadCalm, awayOk, dstFree, LVal.free, LVal.calm, LVal.calm1, LOp.opds, optL, RS.acquire, appendL, elemsL, bound, inRange, intL, loadL, storeL, setElems, setParts, fitsElem, lenL, isNilL, partL, chunks, eq_true hw]
  · rw [sameS_len hlen]
    have h2 : ¬ ((l.length : Int) = (m.length : Int)) := by omega
    simp [D.l14, D.c14, runFun, LMode.isPure, LVal.pfs, LVal.pf, Go.L.initVars, codeW_seq, codeW_region, codeW_regionD, codeW_cond, codeW_ret, codeW_skip, codeW_exit, codeW_block, codeW_fence, thenW, outW, fenceOut, kill, LVal.withins, LVal.within, runOps, runOpsD, Go.L.step, stepD, semD, sem, RS.peek, RS.put, RS.give, RS.take, RS.takes, RS.takeElems, RS.takeParts, RS.peeks, RS.peekO, RS.setVar, RS.noPk, RS.settle, RS.alloc, callOut, LVal.arg, LVal.isAgg, LVal.cells, LVal.unpk, LVal.copy, LVal.down, LVal.plain, LVal.settled, binL, binInt, binStr, unL, resL, resOne, res1, resAll, LVal.isTup, outL, LOp.quiet, LOp.acts, LOp.peeks, LOper.fix, calmOk, loadCalm, awayOk, dstFree, LVal.free, LVal.calm, LVal.calm1, LOp.opds, optL, RS.acquire, appendL, elemsL, bound, inRange, intL, loadL, storeL, setElems, setParts, fitsElem, lenL, isNilL, partL, chunks, e5, e5', e7, h2, hlen, eq_true hw]
set_option maxHeartbeats 8000000 in
/-- Same. -/
theorem rsameM_eq {b1 : Bool} {n1 : Nat} {l m : List StateS} (h1 : m = [] ∨ n1 = 31) (hl1 : ∀ x ∈ l, x.ok ∧ x.few) (hm1 : ∀ x ∈ m, x.ok ∧ x.few) (hl : l.length ≤ 100000) (hl' : m.length ≤ 100000) {st : List LObj} (hw : ∀ x ∈ st, LObj.within (st.length + 1) x = true) (hse : st.map LObj.settle = st) :
    callW D.T 14 [.ms 0 0 l.length 31 true, .vs b1 .sh n1 (statesL m)] (.cells 31 (flat l) :: st) = some (.bool (sameS l m), some (.cells 31 (flat l) :: st)) := by
  have e5 : (statesL l).length = l.length := statesL_len l
  have e5' : (statesL m).length = m.length := statesL_len m
  have e7 : ∀ l : List StateS, LVal.pfs (statesL l) = true := statesL_pfs
  obtain ⟨c1, c2, c3, c4, c5, c6, c7, c8, c9, c10, c11⟩ := (flat_flat (l := l) fun x hx => ok_lies (hl1 x hx)).fx
  rw [callW_fn fn14]
  by_cases hlen : l.length = m.length
  · obtain ⟨w, c1⟩ := loop14M b1 n1 l m h1 hl1 hm1 hlen hl st hw hse l.length 0 (.bool false) (.bool false) rfl rfl (by omega)
    have z0 : ((0 : Nat) : Int) = 0 := rfl
    rw [z0] at c1
    simp only [List.drop_zero, W14M] at c1
    rw [hlen] at c1
    simp [D.l14, D.c14, runFun, LMode.isPure, LVal.pfs, LVal.pf, Go.L.initVars, codeW_seq, codeW_region, codeW_regionD, codeW_cond, codeW_ret, codeW_skip, codeW_exit, codeW_block, codeW_fence, thenW, outW, fenceOut, kill, LVal.withins, LVal.within, runOps, runOpsD, Go.L.step, stepD, semD, sem, RS.peek, RS.put, RS.give, RS.take, RS.takes, RS.takeElems, RS.takeParts, RS.peeks, RS.peekO, RS.setVar, RS.noPk, RS.settle, RS.alloc, callOut, LVal.arg, LVal.isAgg, LVal.cells, LVal.unpk, LVal.copy, LVal.down, LVal.plain, LVal.settled, binL, binInt, binStr, unL, resL, resOne, res1, resAll, LVal.isTup, outL, LOp.quiet, LOp.acts, LOp.peeks, LOper.fix, calmOk, loadCalm, awayOk, dstFree, LVal.free, LVal.calm, LVal.calm1, LOp.opds, optL, RS.acquire, appendL, elemsL, bound, inRange, intL, loadL, storeL, setElems, setParts, fitsElem, lenL, isNilL, partL, chunks, e5, e5', e7, hlen, eq_true hw, c11]
    rw [c1]
    cases sameS l m <;> simp [runFun, LMode.isPure, LVal.pfs, LVal.pf, Go.L.initVars, codeW_seq, codeW_region, codeW_regionD, codeW_cond, codeW_ret, codeW_skip, codeW_exit, codeW_block, codeW_fence, thenW, outW, fenceOut, kill, LVal.withins, LVal.within, runOps, runOpsD, Go.L.step, stepD, semD, sem, RS.peek, RS.put, RS.give, RS.take, RS.takes, RS.takeElems, RS.takeParts, RS.peeks, RS.peekO, RS.setVar, RS.noPk, RS.settle, RS.alloc, callOut, LVal.arg, LVal.isAgg, LVal.cells, LVal.unpk, LVal.copy, LVal.down, LVal.plain, LVal.settled, binL, binInt, binStr, unL, resL, resOne, res1, resAll, LVal.isTup, outL, LOp.quiet, LOp.acts, LOp.peeks, LOper.fix, calmOk, loadCalm, awayOk, dstFree, LVal.free, LVal.calm, LVal.calm1, LOp.opds, optL, RS.acquire, appendL, elemsL, bound, inRange, intL, loadL, storeL, setElems, setParts, fitsElem, lenL, isNilL, partL, chunks, eq_true hw, c11]
  · rw [sameS_len hlen]
    have h2 : ¬ ((l.length : Int) = (m.length : Int)) := by omega
    simp [D.l14, D.c14, runFun, LMode.isPure, LVal.pfs, LVal.pf, Go.L.initVars, codeW_seq, codeW_region, codeW_regionD, codeW_cond, codeW_ret, codeW_skip, codeW_exit, codeW_block, codeW_fence, thenW, outW, fenceOut, kill, LVal.withins, LVal.within, runOps, runOpsD, Go.L.step, stepD, semD, sem, RS.peek, RS.put, RS.give, RS.take, RS.takes, RS.takeElems, RS.takeParts, RS.peeks, RS.peekO, RS.setVar, RS.noPk, RS.settle, RS.alloc, callOut, LVal.arg, LVal.isAgg, LVal.cells, LVal.unpk, LVal.copy, LVal.down, LVal.plain, LVal.settled, binL, binInt, binStr, unL, resL, resOne, res1, resAll, LVal.isTup, outL, LOp.quiet, LOp.acts, LOp.peeks, LOper.fix, calmOk, loadCalm, awayOk, dstFree, LVal.free, LVal.calm, LVal.calm1, LOp.opds, optL, RS.acquire, appendL, elemsL, bound, inRange, intL, loadL, storeL, setElems, setParts, fitsElem, lenL, isNilL, partL, chunks, e5, e5', e7, h2, hlen, eq_true hw, c11]
end Go.Proofs.Ytbljgbojkifoiaa
