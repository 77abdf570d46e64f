/-
  No cell of these rows narrows 'for every input' (looked for: loops, veiled, ifaces, maps, wideKeys, modest, calm, conditions, laid).
  DERIVED. THE GIVEN ROWS OF THIS SEAT. 5 by the template 'for every input the law returns true; each argument reads behind the call as it read before'; 0 by the template 'total and deterministic' (their statements: YtbljgbojkifoiaaTotals.lean).
  GIVEN WITH THE SEED: the statements are not yours to turn. If you find one false, say at which input.
  Laid BY PROGRAM, IN A SANDBOX (cutbox-rows.mjs): the forced cells as the released guide's own fill.sh prints them over the translation 5e3177ffd3e204a2… (all of the seat's roots in one cut). By AI agents, Wed Nov 11 2026. No macro, syntax, notation, axiom, sorry.
-/
import Derived.Test.YtbljgbojkifoiaaChecked
import GoSem.Claim
import GoSem.ClaimJoined
import GoSem.ClaimMapViews
import Derived.JoinedTies
import Derived.KernelRfl
namespace Go.Proofs.Ytbljgbojkifoiaa
/- THE CELL 'sum', in the pinned program and in every row, IS THE sha256 OF THE DUMP (.gsa) THAT YtbljgbojkifoiaaProg.lean LOADS. Nothing in Lean hashes anything: it is a label: what it is worth is what the hold of that sum in a sandbox is worth. -/
noncomputable def Try.pinned : Pinned := { name := "ytbljgbojkifoiaa", sum := "5e3177ffd3e204a288943dad0f51248d337eaf1a1a403a4dc3459969fd3ee260", checked := Try.checked }
namespace Rows
def none {H : Type} : Left H := { results := [], args := [] }

/-- 'umpirelaw23.SetsKeys': WHATEVER THE INPUT: true; the input reads as it did. -/
def setsKeysSpec : ChangeSpec := { name := "setsKeys", fn := fun _ => fun
  | [d1, d2] => { results := [.lit (.bool true)], args := [d1, d2] }
  | _ => none }
def setsKeysRow : OpenClaim := { program := "ytbljgbojkifoiaa", sum := "5e3177ffd3e204a288943dad0f51248d337eaf1a1a403a4dc3459969fd3ee260", func := "umpire/umpirelaw23.SetsKeys", spec := "setsKeys", inPlace := ["internal/abi.NoEscape", "internal/bytealg.abigen_runtime_cmpstring"], unfollowed := true, recurses := true, apart := false }
def SetsKeysSaid : Prop := setsKeysRow.holds Try.pinned (OpenSpec.ofChange setsKeysSpec)

/-- ITS FALSE NEIGHBOUR: 'it returns false'. Refute it at one input. -/
def setsKeysWrong : ChangeSpec := { name := "setsKeys", fn := fun _ => fun
  | [d1, d2] => { results := [.lit (.bool false)], args := [d1, d2] }
  | _ => none }
def SetsKeysWrongFalsely : Prop := setsKeysRow.holds Try.pinned (OpenSpec.ofChange setsKeysWrong)

/-- 'umpirelaw23.SetsOf': WHATEVER THE INPUT: true; the input reads as it did. -/
def setsOfSpec : ChangeSpec := { name := "setsOf", fn := fun _ => fun
  | [d] => { results := [.lit (.bool true)], args := [d] }
  | _ => none }
def setsOfRow : OpenClaim := { program := "ytbljgbojkifoiaa", sum := "5e3177ffd3e204a288943dad0f51248d337eaf1a1a403a4dc3459969fd3ee260", func := "umpire/umpirelaw23.SetsOf", spec := "setsOf", inPlace := ["internal/abi.NoEscape", "internal/bytealg.abigen_runtime_cmpstring"], unfollowed := true, recurses := true, apart := false }
def SetsOfSaid : Prop := setsOfRow.holds Try.pinned (OpenSpec.ofChange setsOfSpec)

/-- ITS FALSE NEIGHBOUR: 'it returns false'. Refute it at one input. -/
def setsOfWrong : ChangeSpec := { name := "setsOf", fn := fun _ => fun
  | [d] => { results := [.lit (.bool false)], args := [d] }
  | _ => none }
def SetsOfWrongFalsely : Prop := setsOfRow.holds Try.pinned (OpenSpec.ofChange setsOfWrong)

/-- 'umpirelaw23.SetsHas': WHATEVER THE INPUT: true; the input reads as it did. -/
def setsHasSpec : ChangeSpec := { name := "setsHas", fn := fun _ => fun
  | [d1, d2, d3] => { results := [.lit (.bool true)], args := [d1, d2, d3] }
  | _ => none }
def setsHasRow : OpenClaim := { program := "ytbljgbojkifoiaa", sum := "5e3177ffd3e204a288943dad0f51248d337eaf1a1a403a4dc3459969fd3ee260", func := "umpire/umpirelaw23.SetsHas", spec := "setsHas", inPlace := ["internal/abi.NoEscape", "internal/bytealg.abigen_runtime_cmpstring"], unfollowed := true, recurses := true, apart := false }
def SetsHasSaid : Prop := setsHasRow.holds Try.pinned (OpenSpec.ofChange setsHasSpec)

/-- ITS FALSE NEIGHBOUR: 'it returns false'. Refute it at one input. -/
def setsHasWrong : ChangeSpec := { name := "setsHas", fn := fun _ => fun
  | [d1, d2, d3] => { results := [.lit (.bool false)], args := [d1, d2, d3] }
  | _ => none }
def SetsHasWrongFalsely : Prop := setsHasRow.holds Try.pinned (OpenSpec.ofChange setsHasWrong)

/-- 'umpirelaw23.SetsOrders': WHATEVER THE INPUT: true; the input reads as it did. -/
def setsOrdersSpec : ChangeSpec := { name := "setsOrders", fn := fun _ => fun
  | [d1, d2] => { results := [.lit (.bool true)], args := [d1, d2] }
  | _ => none }
def setsOrdersRow : OpenClaim := { program := "ytbljgbojkifoiaa", sum := "5e3177ffd3e204a288943dad0f51248d337eaf1a1a403a4dc3459969fd3ee260", func := "umpire/umpirelaw23.SetsOrders", spec := "setsOrders", inPlace := ["internal/abi.NoEscape", "internal/bytealg.abigen_runtime_cmpstring"], unfollowed := true, recurses := true, apart := false }
def SetsOrdersSaid : Prop := setsOrdersRow.holds Try.pinned (OpenSpec.ofChange setsOrdersSpec)

/-- ITS FALSE NEIGHBOUR: 'it returns false'. Refute it at one input. -/
def setsOrdersWrong : ChangeSpec := { name := "setsOrders", fn := fun _ => fun
  | [d1, d2] => { results := [.lit (.bool false)], args := [d1, d2] }
  | _ => none }
def SetsOrdersWrongFalsely : Prop := setsOrdersRow.holds Try.pinned (OpenSpec.ofChange setsOrdersWrong)

/-- 'umpirelaw23.SetsKeeps': WHATEVER THE INPUT: true; the input reads as it did. -/
def setsKeepsSpec : ChangeSpec := { name := "setsKeeps", fn := fun _ => fun
  | [d1, d2] => { results := [.lit (.bool true)], args := [d1, d2] }
  | _ => none }
def setsKeepsRow : OpenClaim := { program := "ytbljgbojkifoiaa", sum := "5e3177ffd3e204a288943dad0f51248d337eaf1a1a403a4dc3459969fd3ee260", func := "umpire/umpirelaw23.SetsKeeps", spec := "setsKeeps", inPlace := ["internal/abi.NoEscape", "internal/bytealg.abigen_runtime_cmpstring"], unfollowed := true, recurses := true, apart := false }
def SetsKeepsSaid : Prop := setsKeepsRow.holds Try.pinned (OpenSpec.ofChange setsKeepsSpec)

/-- ITS FALSE NEIGHBOUR: 'it returns false'. Refute it at one input. -/
def setsKeepsWrong : ChangeSpec := { name := "setsKeeps", fn := fun _ => fun
  | [d1, d2] => { results := [.lit (.bool false)], args := [d1, d2] }
  | _ => none }
def SetsKeepsWrongFalsely : Prop := setsKeepsRow.holds Try.pinned (OpenSpec.ofChange setsKeepsWrong)

/- THE SECOND FORM. 'bulk': how many values and letters a reading holds, each counted each time it is reached (what is shared counts as often as it is met; a slice's spare places count too). A statement '..UptoSaid' is the law's where the arguments, and the package variables that the reading takes, are together of bulk at most 1048576: NARROWER than '..Said'. Prove '..Said' where nothing that the law and all that it calls make is longer than what came in: it says more and counts as full. Else prove '..UptoSaid'. A law counts once. -/
mutual
def uptoBulk {H : Type} : DataW H → Nat
  | .lit (.string bytes) => bytes.length + 1
  | .lit _ => 1
  | .nil => 1
  | .ptr d => uptoBulk d + 1
  | .slice elems spare => uptoBulkAll elems + uptoBulkAll spare + 1
  | .agg parts => uptoBulkAll parts + 1
  | .iface _ d => uptoBulk d + 1
  | .map entries => uptoBulkEntries entries + 1
  | .held _ => 1
def uptoBulkAll {H : Type} : List (DataW H) → Nat
  | [] => 0
  | d :: r => uptoBulk d + uptoBulkAll r
def uptoBulkEntries {H : Type} : List (Lit × DataW H) → Nat
  | [] => 0
  | x :: r => uptoBulkEntry x + uptoBulkEntries r
def uptoBulkEntry {H : Type} : Lit × DataW H → Nat
  | (.string bytes, d) => bytes.length + uptoBulk d + 1
  | (_, d) => uptoBulk d + 1
 end
def uptoSmall : (H : Type) → List (DataW H) → Bool := fun _ ds => decide (uptoBulkAll ds ≤ 1048576)
def OpenSpec.upto (s : _root_.Go.ChangeSpec) : _root_.Go.OpenSpec := { _root_.Go.OpenSpec.ofChange s with cond := some uptoSmall }

/-- 'umpirelaw23.SetsKeys', WHERE WHAT IT READS IS OF BULK AT MOST 1048576: true; the input reads as it did. -/
def setsKeysUptoRow : OpenClaim := { program := "ytbljgbojkifoiaa", sum := "5e3177ffd3e204a288943dad0f51248d337eaf1a1a403a4dc3459969fd3ee260", func := "umpire/umpirelaw23.SetsKeys", spec := "setsKeys", inPlace := ["internal/abi.NoEscape", "internal/bytealg.abigen_runtime_cmpstring"], unfollowed := true, recurses := true, apart := false, narrowed := true }
def SetsKeysUptoSaid : Prop := setsKeysUptoRow.holds Try.pinned (OpenSpec.upto setsKeysSpec)

/-- 'umpirelaw23.SetsOf', WHERE WHAT IT READS IS OF BULK AT MOST 1048576: true; the input reads as it did. -/
def setsOfUptoRow : OpenClaim := { program := "ytbljgbojkifoiaa", sum := "5e3177ffd3e204a288943dad0f51248d337eaf1a1a403a4dc3459969fd3ee260", func := "umpire/umpirelaw23.SetsOf", spec := "setsOf", inPlace := ["internal/abi.NoEscape", "internal/bytealg.abigen_runtime_cmpstring"], unfollowed := true, recurses := true, apart := false, narrowed := true }
def SetsOfUptoSaid : Prop := setsOfUptoRow.holds Try.pinned (OpenSpec.upto setsOfSpec)

/-- 'umpirelaw23.SetsHas', WHERE WHAT IT READS IS OF BULK AT MOST 1048576: true; the input reads as it did. -/
def setsHasUptoRow : OpenClaim := { program := "ytbljgbojkifoiaa", sum := "5e3177ffd3e204a288943dad0f51248d337eaf1a1a403a4dc3459969fd3ee260", func := "umpire/umpirelaw23.SetsHas", spec := "setsHas", inPlace := ["internal/abi.NoEscape", "internal/bytealg.abigen_runtime_cmpstring"], unfollowed := true, recurses := true, apart := false, narrowed := true }
def SetsHasUptoSaid : Prop := setsHasUptoRow.holds Try.pinned (OpenSpec.upto setsHasSpec)

/-- 'umpirelaw23.SetsOrders', WHERE WHAT IT READS IS OF BULK AT MOST 1048576: true; the input reads as it did. -/
def setsOrdersUptoRow : OpenClaim := { program := "ytbljgbojkifoiaa", sum := "5e3177ffd3e204a288943dad0f51248d337eaf1a1a403a4dc3459969fd3ee260", func := "umpire/umpirelaw23.SetsOrders", spec := "setsOrders", inPlace := ["internal/abi.NoEscape", "internal/bytealg.abigen_runtime_cmpstring"], unfollowed := true, recurses := true, apart := false, narrowed := true }
def SetsOrdersUptoSaid : Prop := setsOrdersUptoRow.holds Try.pinned (OpenSpec.upto setsOrdersSpec)

/-- 'umpirelaw23.SetsKeeps', WHERE WHAT IT READS IS OF BULK AT MOST 1048576: true; the input reads as it did. -/
def setsKeepsUptoRow : OpenClaim := { program := "ytbljgbojkifoiaa", sum := "5e3177ffd3e204a288943dad0f51248d337eaf1a1a403a4dc3459969fd3ee260", func := "umpire/umpirelaw23.SetsKeeps", spec := "setsKeeps", inPlace := ["internal/abi.NoEscape", "internal/bytealg.abigen_runtime_cmpstring"], unfollowed := true, recurses := true, apart := false, narrowed := true }
def SetsKeepsUptoSaid : Prop := setsKeepsUptoRow.holds Try.pinned (OpenSpec.upto setsKeepsSpec)

end Rows
end Go.Proofs.Ytbljgbojkifoiaa
