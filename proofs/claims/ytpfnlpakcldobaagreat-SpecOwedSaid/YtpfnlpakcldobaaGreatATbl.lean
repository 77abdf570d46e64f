/- Texts of the proof: Tbl TblOk. -/
import Derived.Test.YtpfnlpakcldobaaGreatADumpA
import Derived.Test.YtpfnlpakcldobaaGreatAChk
import Derived.Test.YtpfnlpakcldobaaGreatALF
set_option linter.unusedVariables false
set_option linter.unusedSimpArgs false
set_option linter.unusedSectionVars false
namespace Go.Proofs.YtpfnlpakcldobaaGreat
open Go Go.L
namespace D
def impls : List (Nat × Nat) := [(94, 98), (94, 100)]
def tbl : List (Nat × LDef) := [(3, .fn l3), (4, .fn l4), (5, .fn l5), (6, .fn l6), (97, .fn l97), (7, .fn l7), (8, .fn l8), (9, .fn l9), (10, .fn l10), (11, .fn l11), (12, .fn l12), (13, .fn l13), (14, .fn l14), (15, .fn l15), (16, .fn l16), (17, .fn l17), (18, .fn l18), (107, .fn l107), (108, .fn l108), (109, .fn l109), (111, .fn l111), (110, .fn l110), (19, .fn l19), (20, .fn l20), (21, .fn l21), (22, .fn l22), (23, .fn l23), (24, .fn l24), (25, .fn l25), (26, .fn l26), (27, .fn l27), (28, .fn l28), (29, .fn l29), (31, .fn l31), (30, .fn l30), (32, .fn l32), (33, .fn l33), (34, .fn l34), (35, .fn l35), (36, .fn l36), (37, .fn l37), (39, .fn l39), (38, .fn l38), (40, .fn l40), (44, .fn l44), (45, .fn l45), (46, .fn l46), (41, .fn l41), (42, .fn l42), (133, .fn l133), (167, .fn l167), (43, .fn l43), (53, .fn l53), (54, .fn l54), (47, .fn l47), (48, .fn l48), (49, .fn l49), (50, .fn l50), (51, .fn l51), (135, .fn l135), (136, .fn l136), (137, .fn l137), (66, .fn l66), (169, .fn l169), (52, .fn l52), (55, .fn l55), (56, .fn l56), (57, .fn l57), (58, .fn l58), (59, .fn l59), (60, .fn l60), (61, .fn l61), (62, .fn l62), (63, .fn l63), (64, .fn l64), (138, .fn l138), (139, .fn l139), (140, .fn l140), (141, .fn l141), (142, .fn l142), (143, .fn l143), (144, .fn l144), (147, .fn l147), (146, .fn l146), (83, .fn l83), (65, .fn l65), (67, .fn l67), (68, .fn l68), (69, .fn l69), (70, .fn l70), (71, .fn l71), (72, .fn l72), (74, .fn l74), (73, .fn l73), (77, .fn l77), (78, .fn l78), (79, .fn l79), (80, .fn l80), (81, .fn l81), (82, .fn l82), (148, .fn l148), (149, .fn l149), (150, .fn l150), (151, .fn l151), (152, .fn l152), (153, .fn l153), (93, .fn l93), (84, .fn l84), (85, .fn l85), (86, .fn l86), (75, .fn l75), (87, .fn l87), (89, .fn l89), (91, .fn l91), (92, .fn l92), (154, .fn l154), (98, .fn l98), (99, .fn l99), (100, .fn l100), (101, .fn l101), (102, .fn l102), (103, .fn l103), (104, .fn l104), (76, .fn l76), (96, .fn l96), (95, .fn l95), (94, .fn l94), (156, .fn l156), (112, .fn l112), (113, .fn l113), (114, .fn l114), (115, .fn l115), (116, .fn l116), (88, .fn l88), (105, .fn l105), (157, .fn l157), (158, .fn l158), (160, .fn l160), (162, .fn l162), (163, .fn l163), (164, .fn l164), (165, .fn l165), (166, .fn l166), (159, .fn l159), (161, .fn l161)]
def T : Tbl := { fns := fun f => tbl.lookup f, im := fun _ _ => none, impl := fun a b => impls.any fun p => p.1 == a && p.2 == b }
end D
end Go.Proofs.YtpfnlpakcldobaaGreat
namespace Go.Proofs.YtpfnlpakcldobaaGreat
open Go Go.L
def OkD (f : FuncId) (d : LDef) : Prop := match d with
 | .fn lf => ∃ vm, zn Tryz.prog f vm lf = true
 | .rC h => ∀ args st v ost, h args st = some (v, ost) → uW Tryz.prog f args st v ost
theorem nf : ∀ (l : List (Nat × LDef)) (f : Nat) (d : LDef), l.lookup f = some d → (f, d) ∈ l
 | [], f, d, h => by cases h
 | (k, e) :: r, f, d, h => by
  simp only [List.lookup] at h
  split at h
  ·rename_i hk
   injection h with h; subst h
   have := eq_of_beq hk
   subst this
   exact List.mem_cons_self ..
  ·exact List.mem_cons_of_mem _ (nf r f d h)
theorem tbl_all : ∀ p ∈ D.tbl, OkD p.1 p.2 := by
 simp only [D.tbl, List.forall_mem_cons]
 exact ⟨⟨_, D.k3⟩, ⟨_, D.k4⟩, ⟨_, D.k5⟩, ⟨_, D.k6⟩, ⟨_, D.k97⟩, ⟨_, D.k7⟩, ⟨_, D.k8⟩, ⟨_, D.k9⟩, ⟨_, D.k10⟩, ⟨_, D.k11⟩, ⟨_, D.k12⟩, ⟨_, D.k13⟩, ⟨_, D.k14⟩, ⟨_, D.k15⟩, ⟨_, D.k16⟩, ⟨_, D.k17⟩, ⟨_, D.k18⟩, ⟨_, D.k107⟩, ⟨_, D.k108⟩, ⟨_, D.k109⟩, ⟨_, D.k111⟩, ⟨_, D.k110⟩, ⟨_, D.k19⟩, ⟨_, D.k20⟩, ⟨_, D.k21⟩, ⟨_, D.k22⟩, ⟨_, D.k23⟩, ⟨_, D.k24⟩, ⟨_, D.k25⟩, ⟨_, D.k26⟩, ⟨_, D.k27⟩, ⟨_, D.k28⟩, ⟨_, D.k29⟩, ⟨_, D.k31⟩, ⟨_, D.k30⟩, ⟨_, D.k32⟩, ⟨_, D.k33⟩, ⟨_, D.k34⟩, ⟨_, D.k35⟩, ⟨_, D.k36⟩, ⟨_, D.k37⟩, ⟨_, D.k39⟩, ⟨_, D.k38⟩, ⟨_, D.k40⟩, ⟨_, D.k44⟩, ⟨_, D.k45⟩, ⟨_, D.k46⟩, ⟨_, D.k41⟩, ⟨_, D.k42⟩, ⟨_, D.k133⟩, ⟨_, D.k167⟩, ⟨_, D.k43⟩, ⟨_, D.k53⟩, ⟨_, D.k54⟩, ⟨_, D.k47⟩, ⟨_, D.k48⟩, ⟨_, D.k49⟩, ⟨_, D.k50⟩, ⟨_, D.k51⟩, ⟨_, D.k135⟩, ⟨_, D.k136⟩, ⟨_, D.k137⟩, ⟨_, D.k66⟩, ⟨_, D.k169⟩, ⟨_, D.k52⟩, ⟨_, D.k55⟩, ⟨_, D.k56⟩, ⟨_, D.k57⟩, ⟨_, D.k58⟩, ⟨_, D.k59⟩, ⟨_, D.k60⟩, ⟨_, D.k61⟩, ⟨_, D.k62⟩, ⟨_, D.k63⟩, ⟨_, D.k64⟩, ⟨_, D.k138⟩, ⟨_, D.k139⟩, ⟨_, D.k140⟩, ⟨_, D.k141⟩, ⟨_, D.k142⟩, ⟨_, D.k143⟩, ⟨_, D.k144⟩, ⟨_, D.k147⟩, ⟨_, D.k146⟩, ⟨_, D.k83⟩, ⟨_, D.k65⟩, ⟨_, D.k67⟩, ⟨_, D.k68⟩, ⟨_, D.k69⟩, ⟨_, D.k70⟩, ⟨_, D.k71⟩, ⟨_, D.k72⟩, ⟨_, D.k74⟩, ⟨_, D.k73⟩, ⟨_, D.k77⟩, ⟨_, D.k78⟩, ⟨_, D.k79⟩, ⟨_, D.k80⟩, ⟨_, D.k81⟩, ⟨_, D.k82⟩, ⟨_, D.k148⟩, ⟨_, D.k149⟩, ⟨_, D.k150⟩, ⟨_, D.k151⟩, ⟨_, D.k152⟩, ⟨_, D.k153⟩, ⟨_, D.k93⟩, ⟨_, D.k84⟩, ⟨_, D.k85⟩, ⟨_, D.k86⟩, ⟨_, D.k75⟩, ⟨_, D.k87⟩, ⟨_, D.k89⟩, ⟨_, D.k91⟩, ⟨_, D.k92⟩, ⟨_, D.k154⟩, ⟨_, D.k98⟩, ⟨_, D.k99⟩, ⟨_, D.k100⟩, ⟨_, D.k101⟩, ⟨_, D.k102⟩, ⟨_, D.k103⟩, ⟨_, D.k104⟩, ⟨_, D.k76⟩, ⟨_, D.k96⟩, ⟨_, D.k95⟩, ⟨_, D.k94⟩, ⟨_, D.k156⟩, ⟨_, D.k112⟩, ⟨_, D.k113⟩, ⟨_, D.k114⟩, ⟨_, D.k115⟩, ⟨_, D.k116⟩, ⟨_, D.k88⟩, ⟨_, D.k105⟩, ⟨_, D.k157⟩, ⟨_, D.k158⟩, ⟨_, D.k160⟩, ⟨_, D.k162⟩, ⟨_, D.k163⟩, ⟨_, D.k164⟩, ⟨_, D.k165⟩, ⟨_, D.k166⟩, ⟨_, D.k159⟩, ⟨_, D.k161⟩, fun p hp => by cases hp⟩
def implB (P : Program) (p : Nat × Nat) : Bool := match P.underlying p.1, P.info? p.2 with
 | some (.interface want), some i => (Instr.missingMethod want i.methods).isNone
 | _, _ => false
theorem impls_all : D.impls.all (implB Tryz.prog) = true := by kernel_rfl
theorem lV : Impl Tryz.prog D.T.impl := by
 intro t t' h
 simp only [D.T, List.any_eq_true, Bool.and_eq_true, beq_iff_eq] at h
 obtain ⟨p, hp, rfl, rfl⟩ := h
 have h1 := List.all_eq_true.1 impls_all p hp
 unfold implB at h1
 split at h1
 ·rename_i want i hw hi
  exact ⟨want, i, hw, hi, by simpa using h1⟩
 ·cases h1
theorem tblOk : lp Tryz.prog D.T := ⟨lV, fun f d h => by
 have := tbl_all (f, d) (nf _ _ _ h)
 cases d <;> exact this⟩
end Go.Proofs.YtpfnlpakcldobaaGreat
