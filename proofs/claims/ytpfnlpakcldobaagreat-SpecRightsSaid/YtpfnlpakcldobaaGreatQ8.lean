/- SpecRights is proved: at every config and every two states that are handed in as the row says, the law specRights returns true, does not panic, and leaves what it was handed as it found it.
   Conditions: those of the given statement alone (every machine that has started, every world, every reading of the config and the states); no premise is added. -/
import Derived.Test.YtpfnlpakcldobaaGreatQ6
import Derived.Test.YtpfnlpakcldobaaGreatTblOk
import Derived.ProofKit
set_option linter.unusedVariables false
set_option linter.unusedSimpArgs false
set_option maxRecDepth 100000
namespace Go.Proofs.YtpfnlpakcldobaaGreat
open Go Go.L Go.ChangeShapes Go.WideShapes Go.ChangeAt Go.RowKit

theorem Tryz.own : ownKnob Tryz.prog.godebug = none := by kernel_rfl
theorem Tryz.laidOut : laidOutB Tryz.prog = true := by kernel_rfl

theorem trodAll_len {H : Type} {enc : TypeId × Value → H} {P : Program} {w : World} {base : Nat} {sp : Nat → Bool} {hd : Bool} : ∀ {ts : List TypeId} {vs : List Value} {ds : List (DataW H)} {ps : List MemPlace}, DataW.TrodAll enc P w base sp hd ts vs ds ps → ds.length = ts.length
  | [], _, _, _, h => by
    obtain ⟨rfl, rfl, rfl⟩ := trodAll_nil h
    rfl
  | t :: ts, _, _, _, h => by
    obtain ⟨v, vs1, d, ds1, a, b, rfl, rfl, rfl, h1, h2⟩ := trodAll_cons h
    simp [trodAll_len h2]

def z24 : Value := .agg #[.int .i64 0, .int .i64 0, .int .i64 0, .int .i64 0, .string ⟨#[]⟩, .string ⟨#[]⟩, .int .i64 0, .int .u32 0, .bool false]
def z34 : Value := .agg #[.int .i64 0, .int .i64 0, .int .i64 0, .bool false, .bool false, .int .i64 0, .string ⟨#[]⟩, .int .i64 0, .int .i64 0, .int .i64 0, .bool false, .bool false, .int .i64 0, .string ⟨#[]⟩, .int .i64 0, .int .i64 0, .int .i64 0, .bool false, .bool false, .int .i64 0, .string ⟨#[]⟩,
  .int .i64 0, .int .i64 0, .bool false, .bool false, .bool false, .int .i64 0, .string ⟨#[]⟩, .bool false, .int .i64 0, .slice none 0 0]

theorem rd24 : rdOk Tryz.prog 8 24 = true := by kernel_rfl
theorem rd34 : rdOk Tryz.prog 8 34 = true := by kernel_rfl
theorem ag24 : aggT Tryz.prog 24 = true := by kernel_rfl
theorem ag34 : aggT Tryz.prog 34 = true := by kernel_rfl
theorem rr24 : Tryz.prog.readableRec 24 = true ∧ 24 < Tryz.prog.types.size := ⟨by kernel_rfl, of_decide_eq_true (by kernel_rfl)⟩
theorem rr34 : Tryz.prog.readableRec 34 = true ∧ 34 < Tryz.prog.types.size := ⟨by kernel_rfl, of_decide_eq_true (by kernel_rfl)⟩
theorem u4 : Tryz.prog.underlying 4 = some .bool := by kernel_rfl

theorem conf_arg {u : LVal} (h : ∃ cs, Rd Tryz.prog 8 24 cs ∧ u = mkArg (aggT Tryz.prog 24) cs) : ∃ c : ConfS, u = .agg c.cells ∧ i64 c.mc ∧ i64 c.mt ∧ i64 c.mf ∧ i64 c.mru := by
  obtain ⟨cs, h1, rfl⟩ := h
  obtain ⟨c, rfl, h2⟩ := rd_conf (d := 6) h1
  exact ⟨c, by rw [ag24]; rfl, h2⟩
theorem state_arg {u : LVal} (h : ∃ cs, Rd Tryz.prog 8 34 cs ∧ u = mkArg (aggT Tryz.prog 34) cs) : ∃ s : StateS, u = .agg s.cells ∧ s.given := by
  obtain ⟨cs, h1, rfl⟩ := h
  obtain ⟨s, rfl, h2⟩ := rd_state (d := 3) h1
  exact ⟨s, by rw [ag34]; rfl, h2⟩

theorem specRights_lifted (os : Os) (started : os.Started) (H : Type) (enc : TypeId × Value → H) :
    ReturnsInHanded {} Tryz.checked os 3 .any (Rows.specRightsSpec.pre6 enc Tryz.prog Tryz.f3 Rows.specRightsRow.domain false) (Rows.specRightsSpec.post enc Tryz.prog Tryz.f3 false true false false) := by
  refine returnsInHanded_of_change (C := Tryz.checked) Tryz.own started (by kernel_rfl) Tryz.func3
    (ChangeSpec.witness6 (enc := enc) (C := Tryz.checked) false ⟨#[], #[z24, z34, z34], []⟩ 8 (by kernel_rfl) (by kernel_rfl) (by kernel_rfl) (by kernel_rfl)) ?_
  intro W base args ds gs before hval hW _ _
  have hval' : ∀ (j : Nat) t v, Tryz.f3.params[j]? = some t → args[j]? = some v → Value.okWide Tryz.prog W .any base t v := hval
  have hW' : DataW.Whole enc Tryz.prog Tryz.f3.params.toList Rows.specRightsSpec.vars false W args.toList ds gs before := hW
  have hp : Tryz.f3.params.toList = [24, 34, 34] := by rw [Tryz.params3]
  refine law_contract tblOk (fn := Tryz.f3) (s := Rows.specRightsSpec) (d := 8) (tb := 4) Tryz.laidOut (by kernel_rfl) u4 ?_ ?_ rfl ?_ hval' hW' ?_
  · rw [hp]; intro t ht; simp at ht; rcases ht with rfl | rfl
    · exact rr24
    · exact rr34
  · rw [hp]; intro t ht; simp at ht; rcases ht with rfl | rfl
    · exact rd24
    · exact rd34
  · rw [hp]
    intro largs h
    obtain ⟨u, v, x, rfl, h1, h2, h3⟩ := args_three h
    obtain ⟨c, rfl, _⟩ := conf_arg h1
    obtain ⟨a, rfl, ha⟩ := state_arg h2
    obtain ⟨b, rfl, hb⟩ := state_arg h3
    exact specRights_eq c a b ha hb
  · obtain ⟨p, q, hA, hV, _, _, _⟩ := hW'
    rw [hp] at hA
    have hl := trodAll_len hA
    obtain ⟨rfl, _⟩ := trodVars_none hV
    match ds, hl with
    | [d1, d2, d3], _ => exact ⟨rfl, rfl, rfl⟩

theorem specRights_holds : Rows.SpecRightsSaid :=
  OpenClaim.holds_of_wide 3 Tryz.f3 rfl rfl rfl rfl rfl rfl rfl ⟨rfl, rfl, rfl, rfl, rfl⟩ rfl rfl rfl rfl rfl (by kernel_rfl) Tryz.func3 (by kernel_rfl)
    (of_decide_eq_true (by kernel_rfl)) (by unfold Func.isWrapper; first | (rw [if_pos (by decide +kernel)]; kernel_rfl) | (rw [if_neg (by decide +kernel)]; exact ⟨rfl, rfl⟩))
    (fun os started H enc _ => specRights_lifted os started H enc)
#print axioms specRights_holds
end Go.Proofs.YtpfnlpakcldobaaGreat
