/- SetsKeeps is proved: at every two lists of states that are handed in as the row says, the law setsKeeps returns true, does not panic, and leaves what it was handed as it found it.
   Conditions: those of the given statement alone (every machine that has started, every world, every reading of the lists); no premise is added. -/
import Derived.Test.YtbljgbojkifoiaaKK7
import Derived.Test.YtbljgbojkifoiaaKK8
import Derived.Test.YtbljgbojkifoiaaKK9
import Derived.Test.YtbljgbojkifoiaaKTblOk
import Derived.ProofKit
set_option linter.unusedVariables false
set_option linter.unusedSimpArgs false
set_option maxRecDepth 100000
namespace Go.Proofs.Ytbljgbojkifoiaa
open Go Go.L Go.ChangeShapes Go.WideShapes Go.ChangeAt Go.RowKit

set_option maxHeartbeats 40000000 in
theorem setsKeeps_eq (b0 b1 : Bool) (l m : List StateS) (hl : ∀ s ∈ l, s.given) (hm : ∀ s ∈ m, s.given) : callW D.T 7 [.vs b0 .sh 31 (statesL l), .vs b1 .sh 31 (statesL m)] [] = some (.bool true, none) := by
  have hf := few_eq b0 l (fun s hs => given_lies (hl s hs))
  have hg := few_eq b1 m (fun s hs => given_lies (hm s hs))
  by_cases hx : (fewL l && fewL m) = true
  · simp only [Bool.and_eq_true] at hx
    obtain ⟨hx1, hx2⟩ := hx
    obtain ⟨nl, fl⟩ := fewL_ok hx1
    obtain ⟨nm, fm⟩ := fewL_ok hx2
    rw [hx1] at hf
    rw [hx2] at hg
    have okl : ∀ x ∈ l, x.ok ∧ x.few := fun x h => ⟨(hl x h).1, fl x h⟩
    have okm : ∀ x ∈ m, x.ok ∧ x.few := fun x h => ⟨(hm x h).1, fm x h⟩
    have okB : ∀ x ∈ ofS m, x.ok ∧ x.few := fun x h => okm x (ofS_mem h)
    have nB := ofS_len m
    obtain ⟨vb, k13, hB⟩ := rof_eq (b := b1) (n := 31) (l := m) (.inr rfl) okm (by omega)
    by_cases hne : l = []
    · subst hne
      rcases hB with ⟨_, rfl⟩ | ⟨q, o, rfl, ho⟩
      · exact keeps1 b0 b1 m hf hg k13
      · exact keeps2 b0 b1 m _ o ho q okB (by omega) hf hg k13
    · rcases hB with ⟨_, rfl⟩ | ⟨q, o, rfl, ho⟩
      · exact keeps3 b0 b1 l m hne okl nl hf hg k13
      · exact keeps4 b0 b1 l m _ o ho hne okl nl q okB (by omega) hf hg k13
  · have hf' : (fewL l && fewL m) = false := by simpa using hx
    have e7 : ∀ l : List StateS, LVal.pfs (statesL l) = true := statesL_pfs
    rw [callW_fn fn7]
    generalize fewL l = p at *
    generalize fewL m = q at *
    cases p
    · simp [D.l7, D.c7, runFun, LMode.isPure, LVal.pfs, LVal.pf, Go.L.initVars, codeW_seq, codeW_region, codeW_regionD, codeW_cond, codeW_ret, codeW_skip, codeW_exit, codeW_block, codeW_fence, thenW, outW, fenceOut, kill, LVal.withins, LVal.within, runOps, runOpsD, Go.L.step, stepD, semD, sem, RS.peek, RS.put, RS.give, RS.take, RS.takes, RS.takeElems, RS.takeParts, RS.peeks, RS.peekO, RS.setVar, RS.noPk, RS.settle, RS.alloc, callOut, LVal.arg, LVal.isAgg, LVal.cells, LVal.unpk, LVal.copy, LVal.down, LVal.plain, LVal.settled, binL, binInt, binStr, unL, resL, resOne, res1, resAll, LVal.isTup, outL, LOp.quiet, LOp.acts, LOp.peeks, LOper.fix, calmOk, loadCalm, awayOk, dstFree, LVal.free, LVal.calm, LVal.calm1, LOp.opds, optL, RS.acquire, appendL, elemsL, bound, inRange, intL, loadL, storeL, setElems, setParts, fitsElem, lenL, isNilL, partL, chunks, awake_eq, hf, hg, e7]
    · cases q
      · simp [D.l7, D.c7, runFun, LMode.isPure, LVal.pfs, LVal.pf, Go.L.initVars, codeW_seq, codeW_region, codeW_regionD, codeW_cond, codeW_ret, codeW_skip, codeW_exit, codeW_block, codeW_fence, thenW, outW, fenceOut, kill, LVal.withins, LVal.within, runOps, runOpsD, Go.L.step, stepD, semD, sem, RS.peek, RS.put, RS.give, RS.take, RS.takes, RS.takeElems, RS.takeParts, RS.peeks, RS.peekO, RS.setVar, RS.noPk, RS.settle, RS.alloc, callOut, LVal.arg, LVal.isAgg, LVal.cells, LVal.unpk, LVal.copy, LVal.down, LVal.plain, LVal.settled, binL, binInt, binStr, unL, resL, resOne, res1, resAll, LVal.isTup, outL, LOp.quiet, LOp.acts, LOp.peeks, LOper.fix, calmOk, loadCalm, awayOk, dstFree, LVal.free, LVal.calm, LVal.calm1, LOp.opds, optL, RS.acquire, appendL, elemsL, bound, inRange, intL, loadL, storeL, setElems, setParts, fitsElem, lenL, isNilL, partL, chunks, awake_eq, hf, hg, e7]
      · simp at hf'

theorem Try.own : ownKnob Try.prog.godebug = none := by kernel_rfl
theorem Try.laidOut : laidOutB Try.prog = true := by kernel_rfl

theorem trodAll_len {H : Type} {enc : TypeId × Value → H} {P : Program} {w : World} {base : Nat} {sp : Nat → Bool} {hd : Bool} : ∀ {ts : List TypeId} {vs : List Value} {ds : List (DataW H)} {ps : List MemPlace}, DataW.TrodAll enc P w base sp hd ts vs ds ps → ds.length = ts.length
  | [], _, _, _, h => by
    obtain ⟨rfl, rfl, rfl⟩ := trodAll_nil h
    rfl
  | t :: ts, _, _, _, h => by
    obtain ⟨v, vs1, d, ds1, a, b, rfl, rfl, rfl, h1, h2⟩ := trodAll_cons h
    simp [trodAll_len h2]

theorem u4 : Try.prog.underlying 4 = some .bool := by kernel_rfl

theorem rd34 : rdOk Try.prog 9 34 = true := by kernel_rfl
theorem ag34 : aggT Try.prog 34 = false := by kernel_rfl
theorem rr34 : Try.prog.readableRec 34 = true ∧ 34 < Try.prog.types.size := ⟨by kernel_rfl, of_decide_eq_true (by kernel_rfl)⟩

theorem rd_states {d : Nat} : ∀ {xs : List LVal}, (∀ x ∈ xs, x.isAgg = true ∧ x.cells.length = 31 ∧ Rd Try.prog (d + 5) 31 x.cells) → ∃ l : List StateS, xs = statesL l ∧ ∀ e ∈ l, e.given
  | [], _ => ⟨[], rfl, fun e he => by simp at he⟩
  | x :: xs, h => by
    obtain ⟨h1, h2, h3⟩ := h x (List.mem_cons_self ..)
    obtain ⟨e, k1, k2⟩ := rd_state h3
    obtain ⟨l, m1, m2⟩ := rd_states (fun y hy => h y (List.mem_cons_of_mem _ hy))
    refine ⟨e :: l, ?_, fun y hy => ?_⟩
    · cases x <;> simp [LVal.isAgg] at h1
      rw [m1]
      simp only [LVal.cells] at k1
      rw [k1]; rfl
    · rcases List.mem_cons.1 hy with rfl | hy
      · exact k2
      · exact m2 y hy

theorem states_arg {u : LVal} (h : ∃ cs, Rd Try.prog 9 34 cs ∧ u = mkArg (aggT Try.prog 34) cs) : ∃ b l, u = .vs b .sh 31 (statesL l) ∧ (b = true → l = []) ∧ ∀ s ∈ l, s.given := by
  obtain ⟨cs, h1, rfl⟩ := h
  obtain ⟨b, xs, rfl, k1, k2, k3⟩ := Rd_shape h1 sh34
  obtain ⟨l, rfl, k4⟩ := rd_states (d := 3) k3
  refine ⟨b, l, by rw [ag34]; rfl, fun hb => ?_, k4⟩
  have := k1 hb
  simpa [statesL] using this

theorem setsKeeps_lifted (os : Os) (started : os.Started) (H : Type) (enc : TypeId × Value → H) :
    ReturnsInHanded {} Try.checked os 7 .any (Rows.setsKeepsSpec.pre6 enc Try.prog Try.f7 Rows.setsKeepsRow.domain false) (Rows.setsKeepsSpec.post enc Try.prog Try.f7 false true false false) := by
  refine returnsInHanded_of_change (C := Try.checked) Try.own started (by kernel_rfl) Try.func7
    (ChangeSpec.witness6 (enc := enc) (C := Try.checked) false ⟨#[], #[.slice none 0 0, .slice none 0 0], []⟩ 8 (by kernel_rfl) (by kernel_rfl) (by kernel_rfl) (by kernel_rfl)) ?_
  intro W base args ds gs before hval hW _ _
  have hval' : ∀ (j : Nat) t v, Try.f7.params[j]? = some t → args[j]? = some v → Value.okWide Try.prog W .any base t v := hval
  have hW' : DataW.Whole enc Try.prog Try.f7.params.toList Rows.setsKeepsSpec.vars false W args.toList ds gs before := hW
  have hp : Try.f7.params.toList = [34, 34] := by rw [Try.params7]
  refine law_contract tblOk (fn := Try.f7) (s := Rows.setsKeepsSpec) (d := 9) (tb := 4) Try.laidOut (by kernel_rfl) u4 ?_ ?_ rfl ?_ hval' hW' ?_
  · rw [hp]; intro t ht; simp at ht; subst ht; exact rr34
  · rw [hp]; intro t ht; simp at ht; subst ht; exact rd34
  · rw [hp]
    intro largs h
    obtain ⟨u, v, rfl, h1, h2⟩ := args_two h
    obtain ⟨b, l, rfl, _, hl⟩ := states_arg h1
    obtain ⟨b', m, rfl, _, hm⟩ := states_arg h2
    exact setsKeeps_eq b b' l m hl hm
  · obtain ⟨p, q, hA, hV, _, _, _⟩ := hW'
    rw [hp] at hA
    have hl := trodAll_len hA
    obtain ⟨rfl, _⟩ := trodVars_none hV
    match ds, hl with
    | [d1, d2], _ => exact ⟨rfl, rfl, rfl⟩

theorem setsKeeps_holds : Rows.SetsKeepsSaid :=
  OpenClaim.holds_of_wide 7 Try.f7 rfl rfl rfl rfl rfl rfl rfl ⟨rfl, rfl, rfl, rfl, rfl⟩ rfl rfl rfl rfl rfl (by kernel_rfl) Try.func7 (by kernel_rfl)
    (of_decide_eq_true (by kernel_rfl)) (by unfold Func.isWrapper; first | (rw [if_pos (by decide +kernel)]; kernel_rfl) | (rw [if_neg (by decide +kernel)]; exact ⟨rfl, rfl⟩))
    (fun os started H enc _ => setsKeeps_lifted os started H enc)
#print axioms setsKeeps_holds
end Go.Proofs.Ytbljgbojkifoiaa
