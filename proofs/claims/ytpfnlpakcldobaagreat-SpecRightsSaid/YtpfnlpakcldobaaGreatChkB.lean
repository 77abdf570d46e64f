/- The texts are checked, part B. -/
import Derived.Test.YtpfnlpakcldobaaGreatDumpC
import Derived.Test.YtpfnlpakcldobaaGreatProg
import Derived.KernelRfl
set_option linter.unusedVariables false
namespace Go.Proofs.YtpfnlpakcldobaaGreat
open Go Go.L
namespace D
theorem k46 : chkFun Tryz.prog 46 vm46 l46 = true := by kernel_rfl
theorem k41 : chkFun Tryz.prog 41 vm41 l41 = true := by kernel_rfl
theorem k42 : chkFun Tryz.prog 42 vm42 l42 = true := by kernel_rfl
theorem k133 : chkFun Tryz.prog 133 vm133 l133 = true := by kernel_rfl
theorem k167 : chkFun Tryz.prog 167 vm167 l167 = true := by kernel_rfl
theorem k43 : chkFun Tryz.prog 43 vm43 l43 = true := by kernel_rfl
theorem k53 : chkFun Tryz.prog 53 vm53 l53 = true := by kernel_rfl
theorem k54 : chkFun Tryz.prog 54 vm54 l54 = true := by kernel_rfl
theorem k47 : chkFun Tryz.prog 47 vm47 l47 = true := by kernel_rfl
theorem k48 : chkFun Tryz.prog 48 vm48 l48 = true := by kernel_rfl
theorem k49 : chkFun Tryz.prog 49 vm49 l49 = true := by kernel_rfl
theorem k50 : chkFun Tryz.prog 50 vm50 l50 = true := by kernel_rfl
theorem k51 : chkFun Tryz.prog 51 vm51 l51 = true := by kernel_rfl
theorem k135 : chkFun Tryz.prog 135 vm135 l135 = true := by kernel_rfl
theorem k136 : chkFun Tryz.prog 136 vm136 l136 = true := by kernel_rfl
theorem k137 : chkFun Tryz.prog 137 vm137 l137 = true := by kernel_rfl
theorem k66 : chkFun Tryz.prog 66 vm66 l66 = true := by kernel_rfl
theorem k169 : chkFun Tryz.prog 169 vm169 l169 = true := by kernel_rfl
theorem k52 : chkFun Tryz.prog 52 vm52 l52 = true := by kernel_rfl
theorem k55 : chkFun Tryz.prog 55 vm55 l55 = true := by kernel_rfl
theorem k56 : chkFun Tryz.prog 56 vm56 l56 = true := by kernel_rfl
theorem k57 : chkFun Tryz.prog 57 vm57 l57 = true := by kernel_rfl
theorem k58 : chkFun Tryz.prog 58 vm58 l58 = true := by kernel_rfl
theorem k59 : chkFun Tryz.prog 59 vm59 l59 = true := by kernel_rfl
theorem k60 : chkFun Tryz.prog 60 vm60 l60 = true := by kernel_rfl
theorem k61 : chkFun Tryz.prog 61 vm61 l61 = true := by kernel_rfl
theorem k62 : chkFun Tryz.prog 62 vm62 l62 = true := by kernel_rfl
theorem k63 : chkFun Tryz.prog 63 vm63 l63 = true := by kernel_rfl
theorem k64 : chkFun Tryz.prog 64 vm64 l64 = true := by kernel_rfl
theorem k138 : chkFun Tryz.prog 138 vm138 l138 = true := by kernel_rfl
theorem k139 : chkFun Tryz.prog 139 vm139 l139 = true := by kernel_rfl
theorem k140 : chkFun Tryz.prog 140 vm140 l140 = true := by kernel_rfl
theorem k141 : chkFun Tryz.prog 141 vm141 l141 = true := by kernel_rfl
theorem k142 : chkFun Tryz.prog 142 vm142 l142 = true := by kernel_rfl
theorem k143 : chkFun Tryz.prog 143 vm143 l143 = true := by kernel_rfl
theorem k144 : chkFun Tryz.prog 144 vm144 l144 = true := by kernel_rfl
theorem k145 : chkFun Tryz.prog 145 vm145 l145 = true := by kernel_rfl
theorem k147 : chkFun Tryz.prog 147 vm147 l147 = true := by kernel_rfl
theorem k146 : chkFun Tryz.prog 146 vm146 l146 = true := by kernel_rfl
theorem k83 : chkFun Tryz.prog 83 vm83 l83 = true := by kernel_rfl
end D
end Go.Proofs.YtpfnlpakcldobaaGreat
