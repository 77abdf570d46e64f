/- SetsOrders is proved: at every two lists of states that are handed in as the row says, the law setsOrders returns true, does not panic, and leaves what it was handed as it found it.
   Conditions: those of the given statement alone (every machine that has started, every world, every reading of the lists); no premise is added. -/
import Derived.Test.YtbljgbojkifoiaaWE
set_option linter.unusedVariables false
set_option linter.unusedSimpArgs false
set_option maxRecDepth 100000
namespace Go.Proofs.Ytbljgbojkifoiaa
open Go Go.L Go.ChangeShapes Go.WideShapes Go.ChangeAt Go.RowKit

theorem setsOrders_lifted (os : Os) (started : os.Started) (H : Type) (enc : TypeId × Value → H) :
    ReturnsInHanded {} Try.checked os 6 .any (Rows.setsOrdersSpec.pre6 enc Try.prog Try.f6 Rows.setsOrdersRow.domain false) (Rows.setsOrdersSpec.post enc Try.prog Try.f6 false true false false) := by
  refine returnsInHanded_of_change (C := Try.checked) Try.own started (by kernel_rfl) Try.func6
    (ChangeSpec.witness6 (enc := enc) (C := Try.checked) false ⟨#[], #[.slice none 0 0, .slice none 0 0], []⟩ 8 (by kernel_rfl) (by kernel_rfl) (by kernel_rfl) (by kernel_rfl)) ?_
  intro W base args ds gs before hval hW _ _
  have hval' : ∀ (j : Nat) t v, Try.f6.params[j]? = some t → args[j]? = some v → Value.okWide Try.prog W .any base t v := hval
  have hW' : DataW.Whole enc Try.prog Try.f6.params.toList Rows.setsOrdersSpec.vars false W args.toList ds gs before := hW
  have hp : Try.f6.params.toList = [34, 34] := by rw [Try.params6]
  refine law_contract tblOk (fn := Try.f6) (s := Rows.setsOrdersSpec) (d := 9) (tb := 4) Try.laidOut (by kernel_rfl) u4 ?_ ?_ rfl ?_ hval' hW' ?_
  · rw [hp]; intro t ht; simp at ht; subst ht; exact rr34
  · rw [hp]; intro t ht; simp at ht; subst ht; exact rd34
  · rw [hp]
    intro largs h
    obtain ⟨u, v, rfl, h1, h2⟩ := args_two h
    obtain ⟨b, l, rfl, _, hl⟩ := states_arg h1
    obtain ⟨b', m, rfl, _, hm⟩ := states_arg h2
    exact setsOrders_eq b b' l m hl hm
  · obtain ⟨p, q, hA, hV, _, _, _⟩ := hW'
    rw [hp] at hA
    have hl := trodAll_len hA
    obtain ⟨rfl, _⟩ := trodVars_none hV
    match ds, hl with
    | [d1, d2], _ => exact ⟨rfl, rfl, rfl⟩

theorem setsOrders_holds : Rows.SetsOrdersSaid :=
  OpenClaim.holds_of_wide 6 Try.f6 rfl rfl rfl rfl rfl rfl rfl ⟨rfl, rfl, rfl, rfl, rfl⟩ rfl rfl rfl rfl rfl (by kernel_rfl) Try.func6 (by kernel_rfl)
    (of_decide_eq_true (by kernel_rfl)) (by unfold Func.isWrapper; first | (rw [if_pos (by decide +kernel)]; kernel_rfl) | (rw [if_neg (by decide +kernel)]; exact ⟨rfl, rfl⟩))
    (fun os started H enc _ => setsOrders_lifted os started H enc)
#print axioms setsOrders_holds
end Go.Proofs.Ytbljgbojkifoiaa
