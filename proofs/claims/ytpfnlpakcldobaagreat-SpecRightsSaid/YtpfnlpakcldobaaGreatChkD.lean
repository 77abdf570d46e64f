/- The texts are checked, part D. -/
import Derived.Test.YtpfnlpakcldobaaGreatDumpC
import Derived.Test.YtpfnlpakcldobaaGreatProg
import Derived.KernelRfl
set_option linter.unusedVariables false
namespace Go.Proofs.YtpfnlpakcldobaaGreat
open Go Go.L
namespace D
theorem k96 : chkFun Tryz.prog 96 vm96 l96 = true := by kernel_rfl
theorem k95 : chkFun Tryz.prog 95 vm95 l95 = true := by kernel_rfl
theorem k94 : chkFun Tryz.prog 94 vm94 l94 = true := by kernel_rfl
theorem k156 : chkFun Tryz.prog 156 vm156 l156 = true := by kernel_rfl
theorem k112 : chkFun Tryz.prog 112 vm112 l112 = true := by kernel_rfl
theorem k113 : chkFun Tryz.prog 113 vm113 l113 = true := by kernel_rfl
theorem k114 : chkFun Tryz.prog 114 vm114 l114 = true := by kernel_rfl
theorem k115 : chkFun Tryz.prog 115 vm115 l115 = true := by kernel_rfl
theorem k116 : chkFun Tryz.prog 116 vm116 l116 = true := by kernel_rfl
theorem k88 : chkFun Tryz.prog 88 vm88 l88 = true := by kernel_rfl
theorem k105 : chkFun Tryz.prog 105 vm105 l105 = true := by kernel_rfl
theorem k157 : chkFun Tryz.prog 157 vm157 l157 = true := by kernel_rfl
theorem k158 : chkFun Tryz.prog 158 vm158 l158 = true := by kernel_rfl
theorem k160 : chkFun Tryz.prog 160 vm160 l160 = true := by kernel_rfl
theorem k162 : chkFun Tryz.prog 162 vm162 l162 = true := by kernel_rfl
theorem k163 : chkFun Tryz.prog 163 vm163 l163 = true := by kernel_rfl
theorem k164 : chkFun Tryz.prog 164 vm164 l164 = true := by kernel_rfl
theorem k165 : chkFun Tryz.prog 165 vm165 l165 = true := by kernel_rfl
theorem k166 : chkFun Tryz.prog 166 vm166 l166 = true := by kernel_rfl
theorem k159 : chkFun Tryz.prog 159 vm159 l159 = true := by kernel_rfl
theorem k161 : chkFun Tryz.prog 161 vm161 l161 = true := by kernel_rfl
end D
end Go.Proofs.YtpfnlpakcldobaaGreat
