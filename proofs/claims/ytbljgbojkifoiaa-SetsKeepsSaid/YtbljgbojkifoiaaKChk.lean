/- The texts are checked. -/
import Derived.Test.YtbljgbojkifoiaaKDump
import Derived.Test.YtbljgbojkifoiaaProg
import Derived.KernelRfl
set_option linter.unusedVariables false
namespace Go.Proofs.Ytbljgbojkifoiaa
open Go Go.L
namespace D
theorem k7 : chkFun Try.prog 7 vm7 l7 = true := by kernel_rfl
theorem k8 : chkFun Try.prog 8 vm8 l8 = true := by kernel_rfl
theorem k9 : chkFun Try.prog 9 vm9 l9 = true := by kernel_rfl
theorem k15 : chkFun Try.prog 15 vm15 l15 = true := by kernel_rfl
theorem k13 : chkFun Try.prog 13 vm13 l13 = true := by kernel_rfl
theorem k17 : chkFun Try.prog 17 vm17 l17 = true := by kernel_rfl
theorem k14 : chkFun Try.prog 14 vm14 l14 = true := by kernel_rfl
theorem k10 : chkFun Try.prog 10 vm10 l10 = true := by kernel_rfl
theorem k16 : chkFun Try.prog 16 vm16 l16 = true := by kernel_rfl
theorem k18 : chkFun Try.prog 18 vm18 l18 = true := by kernel_rfl
theorem k29 : chkFun Try.prog 29 vm29 l29 = true := by kernel_rfl
theorem k28 : chkFun Try.prog 28 vm28 l28 = true := by kernel_rfl
theorem k30 : chkFun Try.prog 30 vm30 l30 = true := by kernel_rfl
theorem k12 : chkFun Try.prog 12 vm12 l12 = true := by kernel_rfl
theorem k20 : chkFun Try.prog 20 vm20 l20 = true := by kernel_rfl
theorem k21 : chkFun Try.prog 21 vm21 l21 = true := by kernel_rfl
theorem k22 : chkFun Try.prog 22 vm22 l22 = true := by kernel_rfl
theorem k31 : chkFun Try.prog 31 vm31 l31 = true := by kernel_rfl
theorem k32 : chkFun Try.prog 32 vm32 l32 = true := by kernel_rfl
theorem k41 : chkFun Try.prog 41 vm41 l41 = true := by kernel_rfl
theorem k11 : chkFun Try.prog 11 vm11 l11 = true := by kernel_rfl
theorem k27 : chkFun Try.prog 27 vm27 l27 = true := by kernel_rfl
theorem k34 : chkFun Try.prog 34 vm34 l34 = true := by kernel_rfl
theorem k36 : chkFun Try.prog 36 vm36 l36 = true := by kernel_rfl
theorem k35 : chkFun Try.prog 35 vm35 l35 = true := by kernel_rfl
theorem k37 : chkFun Try.prog 37 vm37 l37 = true := by kernel_rfl
theorem k33 : chkFun Try.prog 33 vm33 l33 = true := by kernel_rfl
theorem k24 : chkFun Try.prog 24 vm24 l24 = true := by kernel_rfl
theorem k25 : chkFun Try.prog 25 vm25 l25 = true := by kernel_rfl
theorem k26 : chkFun Try.prog 26 vm26 l26 = true := by kernel_rfl
theorem k45 : chkFun Try.prog 45 vm45 l45 = true := by kernel_rfl
theorem k46 : chkFun Try.prog 46 vm46 l46 = true := by kernel_rfl
theorem k38 : chkFun Try.prog 38 vm38 l38 = true := by kernel_rfl
theorem k39 : chkFun Try.prog 39 vm39 l39 = true := by kernel_rfl
end D
end Go.Proofs.Ytbljgbojkifoiaa
