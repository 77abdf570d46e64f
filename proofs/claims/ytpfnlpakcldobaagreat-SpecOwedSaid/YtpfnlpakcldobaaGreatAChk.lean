/- Texts of the proof: ChkA ChkB ChkC ChkD. -/
import Derived.Test.YtpfnlpakcldobaaGreatADumpA
import Derived.Test.YtpfnlpakcldobaaGreatProg
import Derived.KernelRfl
set_option linter.unusedVariables false
set_option linter.unusedSimpArgs false
set_option linter.unusedSectionVars false
namespace Go.Proofs.YtpfnlpakcldobaaGreat
open Go Go.L
namespace D
theorem k3 : zn Tryz.prog 3 vm3 l3 = true := by kernel_rfl
theorem k4 : zn Tryz.prog 4 vm4 l4 = true := by kernel_rfl
theorem k5 : zn Tryz.prog 5 vm5 l5 = true := by kernel_rfl
theorem k6 : zn Tryz.prog 6 vm6 l6 = true := by kernel_rfl
theorem k97 : zn Tryz.prog 97 vm97 l97 = true := by kernel_rfl
theorem k7 : zn Tryz.prog 7 vm7 l7 = true := by kernel_rfl
theorem k8 : zn Tryz.prog 8 vm8 l8 = true := by kernel_rfl
theorem k9 : zn Tryz.prog 9 vm9 l9 = true := by kernel_rfl
theorem k10 : zn Tryz.prog 10 vm10 l10 = true := by kernel_rfl
theorem k11 : zn Tryz.prog 11 vm11 l11 = true := by kernel_rfl
theorem k12 : zn Tryz.prog 12 vm12 l12 = true := by kernel_rfl
theorem k13 : zn Tryz.prog 13 vm13 l13 = true := by kernel_rfl
theorem k14 : zn Tryz.prog 14 vm14 l14 = true := by kernel_rfl
theorem k15 : zn Tryz.prog 15 vm15 l15 = true := by kernel_rfl
theorem k16 : zn Tryz.prog 16 vm16 l16 = true := by kernel_rfl
theorem k17 : zn Tryz.prog 17 vm17 l17 = true := by kernel_rfl
theorem k18 : zn Tryz.prog 18 vm18 l18 = true := by kernel_rfl
theorem k107 : zn Tryz.prog 107 vm107 l107 = true := by kernel_rfl
theorem k108 : zn Tryz.prog 108 vm108 l108 = true := by kernel_rfl
theorem k109 : zn Tryz.prog 109 vm109 l109 = true := by kernel_rfl
theorem k111 : zn Tryz.prog 111 vm111 l111 = true := by kernel_rfl
theorem k110 : zn Tryz.prog 110 vm110 l110 = true := by kernel_rfl
theorem k19 : zn Tryz.prog 19 vm19 l19 = true := by kernel_rfl
theorem k20 : zn Tryz.prog 20 vm20 l20 = true := by kernel_rfl
theorem k21 : zn Tryz.prog 21 vm21 l21 = true := by kernel_rfl
theorem k22 : zn Tryz.prog 22 vm22 l22 = true := by kernel_rfl
theorem k23 : zn Tryz.prog 23 vm23 l23 = true := by kernel_rfl
theorem k24 : zn Tryz.prog 24 vm24 l24 = true := by kernel_rfl
theorem k25 : zn Tryz.prog 25 vm25 l25 = true := by kernel_rfl
theorem k26 : zn Tryz.prog 26 vm26 l26 = true := by kernel_rfl
theorem k27 : zn Tryz.prog 27 vm27 l27 = true := by kernel_rfl
theorem k28 : zn Tryz.prog 28 vm28 l28 = true := by kernel_rfl
theorem k29 : zn Tryz.prog 29 vm29 l29 = true := by kernel_rfl
theorem k31 : zn Tryz.prog 31 vm31 l31 = true := by kernel_rfl
theorem k30 : zn Tryz.prog 30 vm30 l30 = true := by kernel_rfl
theorem k32 : zn Tryz.prog 32 vm32 l32 = true := by kernel_rfl
theorem k33 : zn Tryz.prog 33 vm33 l33 = true := by kernel_rfl
theorem k34 : zn Tryz.prog 34 vm34 l34 = true := by kernel_rfl
theorem k35 : zn Tryz.prog 35 vm35 l35 = true := by kernel_rfl
theorem k36 : zn Tryz.prog 36 vm36 l36 = true := by kernel_rfl
end D
end Go.Proofs.YtpfnlpakcldobaaGreat
namespace Go.Proofs.YtpfnlpakcldobaaGreat
open Go Go.L
namespace D
theorem k37 : zn Tryz.prog 37 vm37 l37 = true := by kernel_rfl
theorem k39 : zn Tryz.prog 39 vm39 l39 = true := by kernel_rfl
theorem k38 : zn Tryz.prog 38 vm38 l38 = true := by kernel_rfl
theorem k40 : zn Tryz.prog 40 vm40 l40 = true := by kernel_rfl
theorem k44 : zn Tryz.prog 44 vm44 l44 = true := by kernel_rfl
theorem k45 : zn Tryz.prog 45 vm45 l45 = true := by kernel_rfl
theorem k46 : zn Tryz.prog 46 vm46 l46 = true := by kernel_rfl
theorem k41 : zn Tryz.prog 41 vm41 l41 = true := by kernel_rfl
theorem k42 : zn Tryz.prog 42 vm42 l42 = true := by kernel_rfl
theorem k133 : zn Tryz.prog 133 vm133 l133 = true := by kernel_rfl
theorem k167 : zn Tryz.prog 167 vm167 l167 = true := by kernel_rfl
theorem k43 : zn Tryz.prog 43 vm43 l43 = true := by kernel_rfl
theorem k53 : zn Tryz.prog 53 vm53 l53 = true := by kernel_rfl
theorem k54 : zn Tryz.prog 54 vm54 l54 = true := by kernel_rfl
theorem k47 : zn Tryz.prog 47 vm47 l47 = true := by kernel_rfl
theorem k48 : zn Tryz.prog 48 vm48 l48 = true := by kernel_rfl
theorem k49 : zn Tryz.prog 49 vm49 l49 = true := by kernel_rfl
theorem k50 : zn Tryz.prog 50 vm50 l50 = true := by kernel_rfl
theorem k51 : zn Tryz.prog 51 vm51 l51 = true := by kernel_rfl
theorem k135 : zn Tryz.prog 135 vm135 l135 = true := by kernel_rfl
theorem k136 : zn Tryz.prog 136 vm136 l136 = true := by kernel_rfl
theorem k137 : zn Tryz.prog 137 vm137 l137 = true := by kernel_rfl
theorem k66 : zn Tryz.prog 66 vm66 l66 = true := by kernel_rfl
theorem k169 : zn Tryz.prog 169 vm169 l169 = true := by kernel_rfl
theorem k52 : zn Tryz.prog 52 vm52 l52 = true := by kernel_rfl
theorem k55 : zn Tryz.prog 55 vm55 l55 = true := by kernel_rfl
theorem k56 : zn Tryz.prog 56 vm56 l56 = true := by kernel_rfl
theorem k57 : zn Tryz.prog 57 vm57 l57 = true := by kernel_rfl
theorem k58 : zn Tryz.prog 58 vm58 l58 = true := by kernel_rfl
theorem k59 : zn Tryz.prog 59 vm59 l59 = true := by kernel_rfl
theorem k60 : zn Tryz.prog 60 vm60 l60 = true := by kernel_rfl
theorem k61 : zn Tryz.prog 61 vm61 l61 = true := by kernel_rfl
theorem k62 : zn Tryz.prog 62 vm62 l62 = true := by kernel_rfl
theorem k63 : zn Tryz.prog 63 vm63 l63 = true := by kernel_rfl
theorem k64 : zn Tryz.prog 64 vm64 l64 = true := by kernel_rfl
theorem k138 : zn Tryz.prog 138 vm138 l138 = true := by kernel_rfl
theorem k139 : zn Tryz.prog 139 vm139 l139 = true := by kernel_rfl
theorem k140 : zn Tryz.prog 140 vm140 l140 = true := by kernel_rfl
theorem k141 : zn Tryz.prog 141 vm141 l141 = true := by kernel_rfl
theorem k142 : zn Tryz.prog 142 vm142 l142 = true := by kernel_rfl
end D
end Go.Proofs.YtpfnlpakcldobaaGreat
namespace Go.Proofs.YtpfnlpakcldobaaGreat
open Go Go.L
namespace D
theorem k143 : zn Tryz.prog 143 vm143 l143 = true := by kernel_rfl
theorem k144 : zn Tryz.prog 144 vm144 l144 = true := by kernel_rfl
theorem k147 : zn Tryz.prog 147 vm147 l147 = true := by kernel_rfl
theorem k146 : zn Tryz.prog 146 vm146 l146 = true := by kernel_rfl
theorem k83 : zn Tryz.prog 83 vm83 l83 = true := by kernel_rfl
theorem k65 : zn Tryz.prog 65 vm65 l65 = true := by kernel_rfl
theorem k67 : zn Tryz.prog 67 vm67 l67 = true := by kernel_rfl
theorem k68 : zn Tryz.prog 68 vm68 l68 = true := by kernel_rfl
theorem k69 : zn Tryz.prog 69 vm69 l69 = true := by kernel_rfl
theorem k70 : zn Tryz.prog 70 vm70 l70 = true := by kernel_rfl
theorem k71 : zn Tryz.prog 71 vm71 l71 = true := by kernel_rfl
theorem k72 : zn Tryz.prog 72 vm72 l72 = true := by kernel_rfl
theorem k74 : zn Tryz.prog 74 vm74 l74 = true := by kernel_rfl
theorem k73 : zn Tryz.prog 73 vm73 l73 = true := by kernel_rfl
theorem k77 : zn Tryz.prog 77 vm77 l77 = true := by kernel_rfl
theorem k78 : zn Tryz.prog 78 vm78 l78 = true := by kernel_rfl
theorem k79 : zn Tryz.prog 79 vm79 l79 = true := by kernel_rfl
theorem k80 : zn Tryz.prog 80 vm80 l80 = true := by kernel_rfl
theorem k81 : zn Tryz.prog 81 vm81 l81 = true := by kernel_rfl
theorem k82 : zn Tryz.prog 82 vm82 l82 = true := by kernel_rfl
theorem k148 : zn Tryz.prog 148 vm148 l148 = true := by kernel_rfl
theorem k149 : zn Tryz.prog 149 vm149 l149 = true := by kernel_rfl
theorem k150 : zn Tryz.prog 150 vm150 l150 = true := by kernel_rfl
theorem k151 : zn Tryz.prog 151 vm151 l151 = true := by kernel_rfl
theorem k152 : zn Tryz.prog 152 vm152 l152 = true := by kernel_rfl
theorem k153 : zn Tryz.prog 153 vm153 l153 = true := by kernel_rfl
theorem k93 : zn Tryz.prog 93 vm93 l93 = true := by kernel_rfl
theorem k84 : zn Tryz.prog 84 vm84 l84 = true := by kernel_rfl
theorem k85 : zn Tryz.prog 85 vm85 l85 = true := by kernel_rfl
theorem k86 : zn Tryz.prog 86 vm86 l86 = true := by kernel_rfl
theorem k75 : zn Tryz.prog 75 vm75 l75 = true := by kernel_rfl
theorem k87 : zn Tryz.prog 87 vm87 l87 = true := by kernel_rfl
theorem k89 : zn Tryz.prog 89 vm89 l89 = true := by kernel_rfl
theorem k91 : zn Tryz.prog 91 vm91 l91 = true := by kernel_rfl
theorem k92 : zn Tryz.prog 92 vm92 l92 = true := by kernel_rfl
theorem k154 : zn Tryz.prog 154 vm154 l154 = true := by kernel_rfl
theorem k98 : zn Tryz.prog 98 vm98 l98 = true := by kernel_rfl
theorem k99 : zn Tryz.prog 99 vm99 l99 = true := by kernel_rfl
theorem k100 : zn Tryz.prog 100 vm100 l100 = true := by kernel_rfl
theorem k101 : zn Tryz.prog 101 vm101 l101 = true := by kernel_rfl
end D
end Go.Proofs.YtpfnlpakcldobaaGreat
namespace Go.Proofs.YtpfnlpakcldobaaGreat
open Go Go.L
namespace D
theorem k102 : zn Tryz.prog 102 vm102 l102 = true := by kernel_rfl
theorem k103 : zn Tryz.prog 103 vm103 l103 = true := by kernel_rfl
theorem k104 : zn Tryz.prog 104 vm104 l104 = true := by kernel_rfl
theorem k76 : zn Tryz.prog 76 vm76 l76 = true := by kernel_rfl
theorem k96 : zn Tryz.prog 96 vm96 l96 = true := by kernel_rfl
theorem k95 : zn Tryz.prog 95 vm95 l95 = true := by kernel_rfl
theorem k94 : zn Tryz.prog 94 vm94 l94 = true := by kernel_rfl
theorem k156 : zn Tryz.prog 156 vm156 l156 = true := by kernel_rfl
theorem k112 : zn Tryz.prog 112 vm112 l112 = true := by kernel_rfl
theorem k113 : zn Tryz.prog 113 vm113 l113 = true := by kernel_rfl
theorem k114 : zn Tryz.prog 114 vm114 l114 = true := by kernel_rfl
theorem k115 : zn Tryz.prog 115 vm115 l115 = true := by kernel_rfl
theorem k116 : zn Tryz.prog 116 vm116 l116 = true := by kernel_rfl
theorem k88 : zn Tryz.prog 88 vm88 l88 = true := by kernel_rfl
theorem k105 : zn Tryz.prog 105 vm105 l105 = true := by kernel_rfl
theorem k157 : zn Tryz.prog 157 vm157 l157 = true := by kernel_rfl
theorem k158 : zn Tryz.prog 158 vm158 l158 = true := by kernel_rfl
theorem k160 : zn Tryz.prog 160 vm160 l160 = true := by kernel_rfl
theorem k162 : zn Tryz.prog 162 vm162 l162 = true := by kernel_rfl
theorem k163 : zn Tryz.prog 163 vm163 l163 = true := by kernel_rfl
theorem k164 : zn Tryz.prog 164 vm164 l164 = true := by kernel_rfl
theorem k165 : zn Tryz.prog 165 vm165 l165 = true := by kernel_rfl
theorem k166 : zn Tryz.prog 166 vm166 l166 = true := by kernel_rfl
theorem k159 : zn Tryz.prog 159 vm159 l159 = true := by kernel_rfl
theorem k161 : zn Tryz.prog 161 vm161 l161 = true := by kernel_rfl
end D
end Go.Proofs.YtpfnlpakcldobaaGreat
