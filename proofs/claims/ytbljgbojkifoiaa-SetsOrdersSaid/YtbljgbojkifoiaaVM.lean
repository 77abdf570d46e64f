/- SetsOf is proved: at every list of states that is handed in as the row says, the law setsOf returns true, does not panic, and leaves what it was handed as it found it.
   Conditions: those of the given statement alone (every machine that has started, every world, every reading of the list); no premise is added. -/
import Derived.Test.YtbljgbojkifoiaaVL
import Derived.Test.YtbljgbojkifoiaaVG
set_option linter.unusedVariables false
set_option linter.unusedSimpArgs false
set_option maxRecDepth 100000
namespace Go.Proofs.Ytbljgbojkifoiaa
open Go Go.L Go.ChangeShapes Go.WideShapes Go.ChangeAt Go.RowKit

theorem rd34 : rdOk Try.prog 9 34 = true := by kernel_rfl
theorem ag34 : aggT Try.prog 34 = false := by kernel_rfl
theorem rr34 : Try.prog.readableRec 34 = true ∧ 34 < Try.prog.types.size := ⟨by kernel_rfl, of_decide_eq_true (by kernel_rfl)⟩

theorem rd_states {d : Nat} : ∀ {xs : List LVal}, (∀ x ∈ xs, x.isAgg = true ∧ x.cells.length = 31 ∧ Rd Try.prog (d + 5) 31 x.cells) → ∃ l : List StateS, xs = statesL l ∧ ∀ e ∈ l, e.given
  | [], _ => ⟨[], rfl, fun e he => by simp at he⟩
  | x :: xs, h => by
    obtain ⟨h1, h2, h3⟩ := h x (List.mem_cons_self ..)
    obtain ⟨e, k1, k2⟩ := rd_state h3
    obtain ⟨l, m1, m2⟩ := rd_states (fun y hy => h y (List.mem_cons_of_mem _ hy))
    refine ⟨e :: l, ?_, fun y hy => ?_⟩
    · cases x <;> simp [LVal.isAgg] at h1
      rw [m1]
      simp only [LVal.cells] at k1
      rw [k1]; rfl
    · rcases List.mem_cons.1 hy with rfl | hy
      · exact k2
      · exact m2 y hy

theorem states_arg {u : LVal} (h : ∃ cs, Rd Try.prog 9 34 cs ∧ u = mkArg (aggT Try.prog 34) cs) : ∃ b l, u = .vs b .sh 31 (statesL l) ∧ (b = true → l = []) ∧ ∀ s ∈ l, s.given := by
  obtain ⟨cs, h1, rfl⟩ := h
  obtain ⟨b, xs, rfl, k1, k2, k3⟩ := Rd_shape h1 sh34
  obtain ⟨l, rfl, k4⟩ := rd_states (d := 3) k3
  refine ⟨b, l, by rw [ag34]; rfl, fun hb => ?_, k4⟩
  have := k1 hb
  simpa [statesL] using this

theorem setsOf_lifted (os : Os) (started : os.Started) (H : Type) (enc : TypeId × Value → H) :
    ReturnsInHanded {} Try.checked os 4 .any (Rows.setsOfSpec.pre6 enc Try.prog Try.f4 Rows.setsOfRow.domain false) (Rows.setsOfSpec.post enc Try.prog Try.f4 false true false false) := by
  refine returnsInHanded_of_change (C := Try.checked) Try.own started (by kernel_rfl) Try.func4
    (ChangeSpec.witness6 (enc := enc) (C := Try.checked) false ⟨#[], #[.slice none 0 0], []⟩ 8 (by kernel_rfl) (by kernel_rfl) (by kernel_rfl) (by kernel_rfl)) ?_
  intro W base args ds gs before hval hW _ _
  have hval' : ∀ (j : Nat) t v, Try.f4.params[j]? = some t → args[j]? = some v → Value.okWide Try.prog W .any base t v := hval
  have hW' : DataW.Whole enc Try.prog Try.f4.params.toList Rows.setsOfSpec.vars false W args.toList ds gs before := hW
  have hp : Try.f4.params.toList = [34] := by rw [Try.params4]
  refine law_contract tblOk (fn := Try.f4) (s := Rows.setsOfSpec) (d := 9) (tb := 4) Try.laidOut (by kernel_rfl) u4 ?_ ?_ rfl ?_ hval' hW' ?_
  · rw [hp]; intro t ht; simp at ht; subst ht; exact rr34
  · rw [hp]; intro t ht; simp at ht; subst ht; exact rd34
  · rw [hp]
    intro largs h
    obtain ⟨u, rfl, h1⟩ := args_one h
    obtain ⟨b, l, rfl, _, hl⟩ := states_arg h1
    exact setsOf_eq b l hl
  · obtain ⟨p, q, hA, hV, _, _, _⟩ := hW'
    rw [hp] at hA
    have hl := trodAll_len hA
    obtain ⟨rfl, _⟩ := trodVars_none hV
    match ds, hl with
    | [d1], _ => exact ⟨rfl, rfl, rfl⟩

theorem setsOf_holds : Rows.SetsOfSaid :=
  OpenClaim.holds_of_wide 4 Try.f4 rfl rfl rfl rfl rfl rfl rfl ⟨rfl, rfl, rfl, rfl, rfl⟩ rfl rfl rfl rfl rfl (by kernel_rfl) Try.func4 (by kernel_rfl)
    (of_decide_eq_true (by kernel_rfl)) (by unfold Func.isWrapper; first | (rw [if_pos (by decide +kernel)]; kernel_rfl) | (rw [if_neg (by decide +kernel)]; exact ⟨rfl, rfl⟩))
    (fun os started H enc _ => setsOf_lifted os started H enc)
#print axioms setsOf_holds
end Go.Proofs.Ytbljgbojkifoiaa
