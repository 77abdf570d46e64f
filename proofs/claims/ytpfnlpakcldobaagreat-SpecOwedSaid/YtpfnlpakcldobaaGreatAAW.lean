/- Texts of the proof: AW. -/
import Derived.Test.YtpfnlpakcldobaaGreatATbl
import Derived.KernelRfl
set_option linter.unusedVariables false
set_option linter.unusedSimpArgs false
set_option linter.unusedSectionVars false
set_option maxRecDepth 1000000
namespace Go.Proofs.YtpfnlpakcldobaaGreat
open Go Go.L
theorem jl : yG D.T 400 7 [] [] = some (.bool true, none) := by kernel_rfl
end Go.Proofs.YtpfnlpakcldobaaGreat
