/- SetsKeys is proved: at every two states that are handed in as the row says, the law setsKeys returns true, does not panic, and leaves what it was handed as it found it.
   Conditions: those of the given statement alone (every machine that has started, every world, every reading of the two states); no premise is added. -/
import Derived.Test.YtbljgbojkifoiaaVF
import Derived.ProofKit
set_option linter.unusedVariables false
set_option linter.unusedSimpArgs false
set_option maxRecDepth 100000
namespace Go.Proofs.Ytbljgbojkifoiaa
open Go Go.L Go.ChangeShapes Go.WideShapes Go.ChangeAt Go.RowKit

theorem Try.own : ownKnob Try.prog.godebug = none := by kernel_rfl
theorem Try.laidOut : laidOutB Try.prog = true := by kernel_rfl

theorem trodAll_len {H : Type} {enc : TypeId × Value → H} {P : Program} {w : World} {base : Nat} {sp : Nat → Bool} {hd : Bool} : ∀ {ts : List TypeId} {vs : List Value} {ds : List (DataW H)} {ps : List MemPlace}, DataW.TrodAll enc P w base sp hd ts vs ds ps → ds.length = ts.length
  | [], _, _, _, h => by
    obtain ⟨rfl, rfl, rfl⟩ := trodAll_nil h
    rfl
  | t :: ts, _, _, _, h => by
    obtain ⟨v, vs1, d, ds1, a, b, rfl, rfl, rfl, h1, h2⟩ := trodAll_cons h
    simp [trodAll_len h2]

def z31 : Value := .agg #[.int .i64 0, .int .i64 0, .int .i64 0, .bool false, .bool false, .int .i64 0, .string ⟨#[]⟩, .int .i64 0, .int .i64 0, .int .i64 0, .bool false, .bool false, .int .i64 0, .string ⟨#[]⟩, .int .i64 0, .int .i64 0, .int .i64 0, .bool false, .bool false, .int .i64 0, .string ⟨#[]⟩,
  .int .i64 0, .int .i64 0, .bool false, .bool false, .bool false, .int .i64 0, .string ⟨#[]⟩, .bool false, .int .i64 0, .slice none 0 0]

theorem rd31 : rdOk Try.prog 8 31 = true := by kernel_rfl
theorem ag31 : aggT Try.prog 31 = true := by kernel_rfl
theorem rr31 : Try.prog.readableRec 31 = true ∧ 31 < Try.prog.types.size := ⟨by kernel_rfl, of_decide_eq_true (by kernel_rfl)⟩
theorem u4 : Try.prog.underlying 4 = some .bool := by kernel_rfl

theorem state_arg {u : LVal} (h : ∃ cs, Rd Try.prog 8 31 cs ∧ u = mkArg (aggT Try.prog 31) cs) : ∃ s : StateS, u = .agg s.cells ∧ s.given := by
  obtain ⟨cs, h1, rfl⟩ := h
  obtain ⟨s, rfl, h2⟩ := rd_state (d := 3) h1
  exact ⟨s, by rw [ag31]; rfl, h2⟩

theorem setsKeys_lifted (os : Os) (started : os.Started) (H : Type) (enc : TypeId × Value → H) :
    ReturnsInHanded {} Try.checked os 3 .any (Rows.setsKeysSpec.pre6 enc Try.prog Try.f3 Rows.setsKeysRow.domain false) (Rows.setsKeysSpec.post enc Try.prog Try.f3 false true false false) := by
  refine returnsInHanded_of_change (C := Try.checked) Try.own started (by kernel_rfl) Try.func3
    (ChangeSpec.witness6 (enc := enc) (C := Try.checked) false ⟨#[], #[z31, z31], []⟩ 8 (by kernel_rfl) (by kernel_rfl) (by kernel_rfl) (by kernel_rfl)) ?_
  intro W base args ds gs before hval hW _ _
  have hval' : ∀ (j : Nat) t v, Try.f3.params[j]? = some t → args[j]? = some v → Value.okWide Try.prog W .any base t v := hval
  have hW' : DataW.Whole enc Try.prog Try.f3.params.toList Rows.setsKeysSpec.vars false W args.toList ds gs before := hW
  have hp : Try.f3.params.toList = [31, 31] := by rw [Try.params3]
  refine law_contract tblOk (fn := Try.f3) (s := Rows.setsKeysSpec) (d := 8) (tb := 4) Try.laidOut (by kernel_rfl) u4 ?_ ?_ rfl ?_ hval' hW' ?_
  · rw [hp]; intro t ht; simp at ht; subst ht; exact rr31
  · rw [hp]; intro t ht; simp at ht; subst ht; exact rd31
  · rw [hp]
    intro largs h
    obtain ⟨u, v, rfl, h1, h2⟩ := args_two h
    obtain ⟨a, rfl, ha⟩ := state_arg h1
    obtain ⟨b, rfl, hb⟩ := state_arg h2
    exact setsKeys_eq a b ha hb
  · obtain ⟨p, q, hA, hV, _, _, _⟩ := hW'
    rw [hp] at hA
    have hl := trodAll_len hA
    obtain ⟨rfl, _⟩ := trodVars_none hV
    match ds, hl with
    | [d1, d2], _ => exact ⟨rfl, rfl, rfl⟩

theorem setsKeys_holds : Rows.SetsKeysSaid :=
  OpenClaim.holds_of_wide 3 Try.f3 rfl rfl rfl rfl rfl rfl rfl ⟨rfl, rfl, rfl, rfl, rfl⟩ rfl rfl rfl rfl rfl (by kernel_rfl) Try.func3 (by kernel_rfl)
    (of_decide_eq_true (by kernel_rfl)) (by unfold Func.isWrapper; first | (rw [if_pos (by decide +kernel)]; kernel_rfl) | (rw [if_neg (by decide +kernel)]; exact ⟨rfl, rfl⟩))
    (fun os started H enc _ => setsKeys_lifted os started H enc)
#print axioms setsKeys_holds
end Go.Proofs.Ytbljgbojkifoiaa
