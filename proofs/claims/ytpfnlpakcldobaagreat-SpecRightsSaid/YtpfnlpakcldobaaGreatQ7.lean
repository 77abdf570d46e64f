/- awake, run by the kernel. -/
import Derived.Test.YtpfnlpakcldobaaGreatTbl
import Derived.Test.YtpfnlpakcldobaaGreatLH
import Derived.KernelRfl
set_option maxRecDepth 1000000
namespace Go.Proofs.YtpfnlpakcldobaaGreat
open Go Go.L
theorem awake_run : callN D.T 300 7 [] [] = some (.bool true, none) := by kernel_rfl
theorem awake_eq : callW D.T 7 [] [] = some (.bool true, none) := callW_iff.2 ⟨300, awake_run⟩
end Go.Proofs.YtpfnlpakcldobaaGreat
