/- SetsHas is proved: at every two lists of states and every state that are handed in as the row says, the law setsHas returns true, does not panic, and leaves what it was handed as it found it.
   Conditions: those of the given statement alone (every machine that has started, every world, every reading of the lists and the state); no premise is added. -/
import Derived.Test.YtbljgbojkifoiaaXB
set_option linter.unusedVariables false
set_option linter.unusedSimpArgs false
set_option maxRecDepth 100000
namespace Go.Proofs.Ytbljgbojkifoiaa
open Go Go.L Go.ChangeShapes Go.WideShapes Go.ChangeAt Go.RowKit

theorem rd31h : rdOk Try.prog 9 31 = true := by kernel_rfl

theorem state_arg9 {u : LVal} (h : ∃ cs, Rd Try.prog 9 31 cs ∧ u = mkArg (aggT Try.prog 31) cs) : ∃ s : StateS, u = .agg s.cells ∧ s.given := by
  obtain ⟨cs, h1, rfl⟩ := h
  obtain ⟨s, rfl, h2⟩ := rd_state (d := 4) h1
  exact ⟨s, by rw [ag31]; rfl, h2⟩

theorem setsHas_lifted (os : Os) (started : os.Started) (H : Type) (enc : TypeId × Value → H) :
    ReturnsInHanded {} Try.checked os 5 .any (Rows.setsHasSpec.pre6 enc Try.prog Try.f5 Rows.setsHasRow.domain false) (Rows.setsHasSpec.post enc Try.prog Try.f5 false true false false) := by
  refine returnsInHanded_of_change (C := Try.checked) Try.own started (by kernel_rfl) Try.func5
    (ChangeSpec.witness6 (enc := enc) (C := Try.checked) false ⟨#[], #[.slice none 0 0, .slice none 0 0, z31], []⟩ 8 (by kernel_rfl) (by kernel_rfl) (by kernel_rfl) (by kernel_rfl)) ?_
  intro W base args ds gs before hval hW _ _
  have hval' : ∀ (j : Nat) t v, Try.f5.params[j]? = some t → args[j]? = some v → Value.okWide Try.prog W .any base t v := hval
  have hW' : DataW.Whole enc Try.prog Try.f5.params.toList Rows.setsHasSpec.vars false W args.toList ds gs before := hW
  have hp : Try.f5.params.toList = [34, 34, 31] := by rw [Try.params5]
  refine law_contract tblOk (fn := Try.f5) (s := Rows.setsHasSpec) (d := 9) (tb := 4) Try.laidOut (by kernel_rfl) u4 ?_ ?_ rfl ?_ hval' hW' ?_
  · rw [hp]; intro t ht; simp at ht; rcases ht with rfl | rfl
    · exact rr34
    · exact rr31
  · rw [hp]; intro t ht; simp at ht; rcases ht with rfl | rfl
    · exact rd34
    · exact rd31h
  · rw [hp]
    intro largs h
    obtain ⟨u, v, x, rfl, h1, h2, h3⟩ := args_three h
    obtain ⟨b, l, rfl, _, hl⟩ := states_arg h1
    obtain ⟨b', m, rfl, _, hm⟩ := states_arg h2
    obtain ⟨s, rfl, hs⟩ := state_arg9 h3
    exact setsHas_eq b b' l m s hl hm hs
  · obtain ⟨p, q, hA, hV, _, _, _⟩ := hW'
    rw [hp] at hA
    have hl := trodAll_len hA
    obtain ⟨rfl, _⟩ := trodVars_none hV
    match ds, hl with
    | [d1, d2, d3], _ => exact ⟨rfl, rfl, rfl⟩

theorem setsHas_holds : Rows.SetsHasSaid :=
  OpenClaim.holds_of_wide 5 Try.f5 rfl rfl rfl rfl rfl rfl rfl ⟨rfl, rfl, rfl, rfl, rfl⟩ rfl rfl rfl rfl rfl (by kernel_rfl) Try.func5 (by kernel_rfl)
    (of_decide_eq_true (by kernel_rfl)) (by unfold Func.isWrapper; first | (rw [if_pos (by decide +kernel)]; kernel_rfl) | (rw [if_neg (by decide +kernel)]; exact ⟨rfl, rfl⟩))
    (fun os started H enc _ => setsHas_lifted os started H enc)
#print axioms setsHas_holds
end Go.Proofs.Ytbljgbojkifoiaa
