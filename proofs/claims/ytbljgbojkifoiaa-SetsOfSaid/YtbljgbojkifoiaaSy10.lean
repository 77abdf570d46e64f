/- awake. -/
import Derived.Test.YtbljgbojkifoiaaSy9
namespace Go.Proofs.Ytbljgbojkifoiaa
open Go Go.L
theorem awake_run : callN T2 60 8 [] [] = some (.bool true, none) := by kernel_rfl
theorem awake_eq : callW D.T 8 [] [] = some (.bool true, none) := callN_swap swaps 60 8 [] [] _ awake_run
end Go.Proofs.Ytbljgbojkifoiaa
