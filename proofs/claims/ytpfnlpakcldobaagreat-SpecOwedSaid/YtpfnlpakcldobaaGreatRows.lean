/-
  No cell of these rows narrows 'for every input' (looked for: loops, veiled, ifaces, maps, wideKeys, modest, calm, conditions, laid).
  DERIVED. THE GIVEN ROWS OF THIS SEAT. 4 by the template 'for every input the law returns true; each argument reads behind the call as it read before'; 0 by the template 'total and deterministic' (their statements: YtpfnlpakcldobaaGreatTotals.lean).
  GIVEN WITH THE SEED: the statements are not yours to turn. If you find one false, say at which input.
  Laid BY PROGRAM, IN A SANDBOX (cutbox-rows.mjs): the forced cells as the released guide's own fill.sh prints them over the translation 92caed33f8a4b414… (all of the seat's roots in one cut). By AI agents, Wed Nov 11 2026. No macro, syntax, notation, axiom, sorry.
-/
import Derived.Test.YtpfnlpakcldobaaGreatChecked
import GoSem.Claim
import GoSem.ClaimJoined
import GoSem.ClaimMapViews
import Derived.JoinedTies
import Derived.KernelRfl
namespace Go.Proofs.YtpfnlpakcldobaaGreat
/- THE CELL 'sum', in the pinned program and in every row, IS THE sha256 OF THE DUMP (.gsa) THAT YtpfnlpakcldobaaGreatProg.lean LOADS. Nothing in Lean hashes anything: it is a label: what it is worth is what the hold of that sum in a sandbox is worth. -/
noncomputable def Tryz.pinned : Pinned := { name := "ytpfnlpakcldobaagreat", sum := "92caed33f8a4b414a6837f146c8a9180bcab892b3d320ac13556a2ce40d0efb5", checked := Tryz.checked }
namespace Rows
def none {H : Type} : Left H := { results := [], args := [] }

/-- 'umpirelaw22.SpecRights': WHATEVER THE INPUT: true; the input reads as it did. -/
def specRightsSpec : ChangeSpec := { name := "specRights", fn := fun _ => fun
  | [d1, d2, d3] => { results := [.lit (.bool true)], args := [d1, d2, d3] }
  | _ => none }
def specRightsRow : OpenClaim := { program := "ytpfnlpakcldobaagreat", sum := "92caed33f8a4b414a6837f146c8a9180bcab892b3d320ac13556a2ce40d0efb5", func := "umpire/umpirelaw22.SpecRights", spec := "specRights", unfollowed := true, recurses := true, apart := false }
def SpecRightsSaid : Prop := specRightsRow.holds Tryz.pinned (OpenSpec.ofChange specRightsSpec)

/-- ITS FALSE NEIGHBOUR: 'it returns false'. Refute it at one input. -/
def specRightsWrong : ChangeSpec := { name := "specRights", fn := fun _ => fun
  | [d1, d2, d3] => { results := [.lit (.bool false)], args := [d1, d2, d3] }
  | _ => none }
def SpecRightsWrongFalsely : Prop := specRightsRow.holds Tryz.pinned (OpenSpec.ofChange specRightsWrong)

/-- 'umpirelaw22.SpecOwed': WHATEVER THE INPUT: true; the input reads as it did. -/
def specOwedSpec : ChangeSpec := { name := "specOwed", fn := fun _ => fun
  | [d1, d2, d3] => { results := [.lit (.bool true)], args := [d1, d2, d3] }
  | _ => none }
def specOwedRow : OpenClaim := { program := "ytpfnlpakcldobaagreat", sum := "92caed33f8a4b414a6837f146c8a9180bcab892b3d320ac13556a2ce40d0efb5", func := "umpire/umpirelaw22.SpecOwed", spec := "specOwed", unfollowed := true, recurses := true, apart := false }
def SpecOwedSaid : Prop := specOwedRow.holds Tryz.pinned (OpenSpec.ofChange specOwedSpec)

/-- ITS FALSE NEIGHBOUR: 'it returns false'. Refute it at one input. -/
def specOwedWrong : ChangeSpec := { name := "specOwed", fn := fun _ => fun
  | [d1, d2, d3] => { results := [.lit (.bool false)], args := [d1, d2, d3] }
  | _ => none }
def SpecOwedWrongFalsely : Prop := specOwedRow.holds Tryz.pinned (OpenSpec.ofChange specOwedWrong)

/-- 'umpirelaw22.SpecNetwork': WHATEVER THE INPUT: true; the input reads as it did. -/
def specNetworkSpec : ChangeSpec := { name := "specNetwork", fn := fun _ => fun
  | [d1, d2] => { results := [.lit (.bool true)], args := [d1, d2] }
  | _ => none }
def specNetworkRow : OpenClaim := { program := "ytpfnlpakcldobaagreat", sum := "92caed33f8a4b414a6837f146c8a9180bcab892b3d320ac13556a2ce40d0efb5", func := "umpire/umpirelaw22.SpecNetwork", spec := "specNetwork", unfollowed := true, recurses := true, apart := false }
def SpecNetworkSaid : Prop := specNetworkRow.holds Tryz.pinned (OpenSpec.ofChange specNetworkSpec)

/-- ITS FALSE NEIGHBOUR: 'it returns false'. Refute it at one input. -/
def specNetworkWrong : ChangeSpec := { name := "specNetwork", fn := fun _ => fun
  | [d1, d2] => { results := [.lit (.bool false)], args := [d1, d2] }
  | _ => none }
def SpecNetworkWrongFalsely : Prop := specNetworkRow.holds Tryz.pinned (OpenSpec.ofChange specNetworkWrong)

/-- 'umpirelaw22.SpecNaks': WHATEVER THE INPUT: true; the input reads as it did. -/
def specNaksSpec : ChangeSpec := { name := "specNaks", fn := fun _ => fun
  | [d1, d2] => { results := [.lit (.bool true)], args := [d1, d2] }
  | _ => none }
def specNaksRow : OpenClaim := { program := "ytpfnlpakcldobaagreat", sum := "92caed33f8a4b414a6837f146c8a9180bcab892b3d320ac13556a2ce40d0efb5", func := "umpire/umpirelaw22.SpecNaks", spec := "specNaks", unfollowed := true, recurses := true, apart := false }
def SpecNaksSaid : Prop := specNaksRow.holds Tryz.pinned (OpenSpec.ofChange specNaksSpec)

/-- ITS FALSE NEIGHBOUR: 'it returns false'. Refute it at one input. -/
def specNaksWrong : ChangeSpec := { name := "specNaks", fn := fun _ => fun
  | [d1, d2] => { results := [.lit (.bool false)], args := [d1, d2] }
  | _ => none }
def SpecNaksWrongFalsely : Prop := specNaksRow.holds Tryz.pinned (OpenSpec.ofChange specNaksWrong)

/- THE SECOND FORM. 'bulk': how many values and letters a reading holds, each counted each time it is reached (what is shared counts as often as it is met; a slice's spare places count too). A statement '..UptoSaid' is the law's where the arguments, and the package variables that the reading takes, are together of bulk at most 1048576: NARROWER than '..Said'. Prove '..Said' where nothing that the law and all that it calls make is longer than what came in: it says more and counts as full. Else prove '..UptoSaid'. A law counts once. -/
mutual
def uptoBulk {H : Type} : DataW H → Nat
  | .lit (.string bytes) => bytes.length + 1
  | .lit _ => 1
  | .nil => 1
  | .ptr d => uptoBulk d + 1
  | .slice elems spare => uptoBulkAll elems + uptoBulkAll spare + 1
  | .agg parts => uptoBulkAll parts + 1
  | .iface _ d => uptoBulk d + 1
  | .map entries => uptoBulkEntries entries + 1
  | .held _ => 1
def uptoBulkAll {H : Type} : List (DataW H) → Nat
  | [] => 0
  | d :: r => uptoBulk d + uptoBulkAll r
def uptoBulkEntries {H : Type} : List (Lit × DataW H) → Nat
  | [] => 0
  | x :: r => uptoBulkEntry x + uptoBulkEntries r
def uptoBulkEntry {H : Type} : Lit × DataW H → Nat
  | (.string bytes, d) => bytes.length + uptoBulk d + 1
  | (_, d) => uptoBulk d + 1
 end
def uptoSmall : (H : Type) → List (DataW H) → Bool := fun _ ds => decide (uptoBulkAll ds ≤ 1048576)
def OpenSpec.upto (s : _root_.Go.ChangeSpec) : _root_.Go.OpenSpec := { _root_.Go.OpenSpec.ofChange s with cond := some uptoSmall }

/-- 'umpirelaw22.SpecRights', WHERE WHAT IT READS IS OF BULK AT MOST 1048576: true; the input reads as it did. -/
def specRightsUptoRow : OpenClaim := { program := "ytpfnlpakcldobaagreat", sum := "92caed33f8a4b414a6837f146c8a9180bcab892b3d320ac13556a2ce40d0efb5", func := "umpire/umpirelaw22.SpecRights", spec := "specRights", unfollowed := true, recurses := true, apart := false, narrowed := true }
def SpecRightsUptoSaid : Prop := specRightsUptoRow.holds Tryz.pinned (OpenSpec.upto specRightsSpec)

/-- 'umpirelaw22.SpecOwed', WHERE WHAT IT READS IS OF BULK AT MOST 1048576: true; the input reads as it did. -/
def specOwedUptoRow : OpenClaim := { program := "ytpfnlpakcldobaagreat", sum := "92caed33f8a4b414a6837f146c8a9180bcab892b3d320ac13556a2ce40d0efb5", func := "umpire/umpirelaw22.SpecOwed", spec := "specOwed", unfollowed := true, recurses := true, apart := false, narrowed := true }
def SpecOwedUptoSaid : Prop := specOwedUptoRow.holds Tryz.pinned (OpenSpec.upto specOwedSpec)

/-- 'umpirelaw22.SpecNetwork', WHERE WHAT IT READS IS OF BULK AT MOST 1048576: true; the input reads as it did. -/
def specNetworkUptoRow : OpenClaim := { program := "ytpfnlpakcldobaagreat", sum := "92caed33f8a4b414a6837f146c8a9180bcab892b3d320ac13556a2ce40d0efb5", func := "umpire/umpirelaw22.SpecNetwork", spec := "specNetwork", unfollowed := true, recurses := true, apart := false, narrowed := true }
def SpecNetworkUptoSaid : Prop := specNetworkUptoRow.holds Tryz.pinned (OpenSpec.upto specNetworkSpec)

/-- 'umpirelaw22.SpecNaks', WHERE WHAT IT READS IS OF BULK AT MOST 1048576: true; the input reads as it did. -/
def specNaksUptoRow : OpenClaim := { program := "ytpfnlpakcldobaagreat", sum := "92caed33f8a4b414a6837f146c8a9180bcab892b3d320ac13556a2ce40d0efb5", func := "umpire/umpirelaw22.SpecNaks", spec := "specNaks", unfollowed := true, recurses := true, apart := false, narrowed := true }
def SpecNaksUptoSaid : Prop := specNaksUptoRow.holds Tryz.pinned (OpenSpec.upto specNaksSpec)

end Rows
end Go.Proofs.YtpfnlpakcldobaaGreat
