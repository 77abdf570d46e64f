/- The texts are checked, part A. -/
import Derived.Test.YtpfnlpakcldobaaGreatDumpC
import Derived.Test.YtpfnlpakcldobaaGreatProg
import Derived.KernelRfl
set_option linter.unusedVariables false
namespace Go.Proofs.YtpfnlpakcldobaaGreat
open Go Go.L
namespace D
theorem k3 : chkFun Tryz.prog 3 vm3 l3 = true := by kernel_rfl
theorem k4 : chkFun Tryz.prog 4 vm4 l4 = true := by kernel_rfl
theorem k5 : chkFun Tryz.prog 5 vm5 l5 = true := by kernel_rfl
theorem k6 : chkFun Tryz.prog 6 vm6 l6 = true := by kernel_rfl
theorem k7 : chkFun Tryz.prog 7 vm7 l7 = true := by kernel_rfl
theorem k8 : chkFun Tryz.prog 8 vm8 l8 = true := by kernel_rfl
theorem k9 : chkFun Tryz.prog 9 vm9 l9 = true := by kernel_rfl
theorem k10 : chkFun Tryz.prog 10 vm10 l10 = true := by kernel_rfl
theorem k11 : chkFun Tryz.prog 11 vm11 l11 = true := by kernel_rfl
theorem k12 : chkFun Tryz.prog 12 vm12 l12 = true := by kernel_rfl
theorem k13 : chkFun Tryz.prog 13 vm13 l13 = true := by kernel_rfl
theorem k14 : chkFun Tryz.prog 14 vm14 l14 = true := by kernel_rfl
theorem k15 : chkFun Tryz.prog 15 vm15 l15 = true := by kernel_rfl
theorem k16 : chkFun Tryz.prog 16 vm16 l16 = true := by kernel_rfl
theorem k17 : chkFun Tryz.prog 17 vm17 l17 = true := by kernel_rfl
theorem k18 : chkFun Tryz.prog 18 vm18 l18 = true := by kernel_rfl
theorem k19 : chkFun Tryz.prog 19 vm19 l19 = true := by kernel_rfl
theorem k20 : chkFun Tryz.prog 20 vm20 l20 = true := by kernel_rfl
theorem k21 : chkFun Tryz.prog 21 vm21 l21 = true := by kernel_rfl
theorem k22 : chkFun Tryz.prog 22 vm22 l22 = true := by kernel_rfl
theorem k23 : chkFun Tryz.prog 23 vm23 l23 = true := by kernel_rfl
theorem k24 : chkFun Tryz.prog 24 vm24 l24 = true := by kernel_rfl
theorem k25 : chkFun Tryz.prog 25 vm25 l25 = true := by kernel_rfl
theorem k26 : chkFun Tryz.prog 26 vm26 l26 = true := by kernel_rfl
theorem k27 : chkFun Tryz.prog 27 vm27 l27 = true := by kernel_rfl
theorem k28 : chkFun Tryz.prog 28 vm28 l28 = true := by kernel_rfl
theorem k29 : chkFun Tryz.prog 29 vm29 l29 = true := by kernel_rfl
theorem k31 : chkFun Tryz.prog 31 vm31 l31 = true := by kernel_rfl
theorem k30 : chkFun Tryz.prog 30 vm30 l30 = true := by kernel_rfl
theorem k32 : chkFun Tryz.prog 32 vm32 l32 = true := by kernel_rfl
theorem k33 : chkFun Tryz.prog 33 vm33 l33 = true := by kernel_rfl
theorem k34 : chkFun Tryz.prog 34 vm34 l34 = true := by kernel_rfl
theorem k35 : chkFun Tryz.prog 35 vm35 l35 = true := by kernel_rfl
theorem k36 : chkFun Tryz.prog 36 vm36 l36 = true := by kernel_rfl
theorem k37 : chkFun Tryz.prog 37 vm37 l37 = true := by kernel_rfl
theorem k39 : chkFun Tryz.prog 39 vm39 l39 = true := by kernel_rfl
theorem k38 : chkFun Tryz.prog 38 vm38 l38 = true := by kernel_rfl
theorem k40 : chkFun Tryz.prog 40 vm40 l40 = true := by kernel_rfl
theorem k44 : chkFun Tryz.prog 44 vm44 l44 = true := by kernel_rfl
theorem k45 : chkFun Tryz.prog 45 vm45 l45 = true := by kernel_rfl
end D
end Go.Proofs.YtpfnlpakcldobaaGreat
