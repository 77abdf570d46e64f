/- The texts are checked, part C. -/
import Derived.Test.YtpfnlpakcldobaaGreatDumpC
import Derived.Test.YtpfnlpakcldobaaGreatProg
import Derived.KernelRfl
set_option linter.unusedVariables false
namespace Go.Proofs.YtpfnlpakcldobaaGreat
open Go Go.L
namespace D
theorem k65 : chkFun Tryz.prog 65 vm65 l65 = true := by kernel_rfl
theorem k67 : chkFun Tryz.prog 67 vm67 l67 = true := by kernel_rfl
theorem k68 : chkFun Tryz.prog 68 vm68 l68 = true := by kernel_rfl
theorem k69 : chkFun Tryz.prog 69 vm69 l69 = true := by kernel_rfl
theorem k70 : chkFun Tryz.prog 70 vm70 l70 = true := by kernel_rfl
theorem k71 : chkFun Tryz.prog 71 vm71 l71 = true := by kernel_rfl
theorem k72 : chkFun Tryz.prog 72 vm72 l72 = true := by kernel_rfl
theorem k74 : chkFun Tryz.prog 74 vm74 l74 = true := by kernel_rfl
theorem k73 : chkFun Tryz.prog 73 vm73 l73 = true := by kernel_rfl
theorem k77 : chkFun Tryz.prog 77 vm77 l77 = true := by kernel_rfl
theorem k78 : chkFun Tryz.prog 78 vm78 l78 = true := by kernel_rfl
theorem k79 : chkFun Tryz.prog 79 vm79 l79 = true := by kernel_rfl
theorem k80 : chkFun Tryz.prog 80 vm80 l80 = true := by kernel_rfl
theorem k81 : chkFun Tryz.prog 81 vm81 l81 = true := by kernel_rfl
theorem k82 : chkFun Tryz.prog 82 vm82 l82 = true := by kernel_rfl
theorem k148 : chkFun Tryz.prog 148 vm148 l148 = true := by kernel_rfl
theorem k149 : chkFun Tryz.prog 149 vm149 l149 = true := by kernel_rfl
theorem k150 : chkFun Tryz.prog 150 vm150 l150 = true := by kernel_rfl
theorem k151 : chkFun Tryz.prog 151 vm151 l151 = true := by kernel_rfl
theorem k152 : chkFun Tryz.prog 152 vm152 l152 = true := by kernel_rfl
theorem k153 : chkFun Tryz.prog 153 vm153 l153 = true := by kernel_rfl
theorem k93 : chkFun Tryz.prog 93 vm93 l93 = true := by kernel_rfl
theorem k84 : chkFun Tryz.prog 84 vm84 l84 = true := by kernel_rfl
theorem k85 : chkFun Tryz.prog 85 vm85 l85 = true := by kernel_rfl
theorem k86 : chkFun Tryz.prog 86 vm86 l86 = true := by kernel_rfl
theorem k75 : chkFun Tryz.prog 75 vm75 l75 = true := by kernel_rfl
theorem k87 : chkFun Tryz.prog 87 vm87 l87 = true := by kernel_rfl
theorem k89 : chkFun Tryz.prog 89 vm89 l89 = true := by kernel_rfl
theorem k90 : chkFun Tryz.prog 90 vm90 l90 = true := by kernel_rfl
theorem k91 : chkFun Tryz.prog 91 vm91 l91 = true := by kernel_rfl
theorem k92 : chkFun Tryz.prog 92 vm92 l92 = true := by kernel_rfl
theorem k154 : chkFun Tryz.prog 154 vm154 l154 = true := by kernel_rfl
theorem k98 : chkFun Tryz.prog 98 vm98 l98 = true := by kernel_rfl
theorem k99 : chkFun Tryz.prog 99 vm99 l99 = true := by kernel_rfl
theorem k100 : chkFun Tryz.prog 100 vm100 l100 = true := by kernel_rfl
theorem k101 : chkFun Tryz.prog 101 vm101 l101 = true := by kernel_rfl
theorem k102 : chkFun Tryz.prog 102 vm102 l102 = true := by kernel_rfl
theorem k103 : chkFun Tryz.prog 103 vm103 l103 = true := by kernel_rfl
theorem k104 : chkFun Tryz.prog 104 vm104 l104 = true := by kernel_rfl
theorem k76 : chkFun Tryz.prog 76 vm76 l76 = true := by kernel_rfl
end D
end Go.Proofs.YtpfnlpakcldobaaGreat
