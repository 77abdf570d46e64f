/- Every function of the table is sound. -/
import Derived.Test.YtpfnlpakcldobaaGreatChkA
import Derived.Test.YtpfnlpakcldobaaGreatChkB
import Derived.Test.YtpfnlpakcldobaaGreatChkC
import Derived.Test.YtpfnlpakcldobaaGreatChkD
import Derived.Test.YtpfnlpakcldobaaGreatTbl
import Derived.Test.YtpfnlpakcldobaaGreatLH
set_option linter.unusedVariables false
namespace Go.Proofs.YtpfnlpakcldobaaGreat
open Go Go.L
def OkD (f : FuncId) (d : LDef) : Prop := match d with
  | .fn lf => ∃ vm, chkFun Tryz.prog f vm lf = true
  | .hook h => ∀ args st v ost, h args st = some (v, ost) → Sound1 Tryz.prog f args st v ost
theorem lookup_mem : ∀ (l : List (Nat × LDef)) (f : Nat) (d : LDef), l.lookup f = some d → (f, d) ∈ l
  | [], f, d, h => by cases h
  | (k, e) :: r, f, d, h => by
    simp only [List.lookup] at h
    split at h
    · rename_i hk
      injection h with h; subst h
      have := eq_of_beq hk
      subst this
      exact List.mem_cons_self ..
    · exact List.mem_cons_of_mem _ (lookup_mem r f d h)
theorem tbl_all : ∀ p ∈ D.tbl, OkD p.1 p.2 := by
  simp only [D.tbl, List.forall_mem_cons]
  exact ⟨⟨_, D.k3⟩, ⟨_, D.k4⟩, ⟨_, D.k5⟩, ⟨_, D.k6⟩, ⟨_, D.k7⟩, ⟨_, D.k8⟩, ⟨_, D.k9⟩, ⟨_, D.k10⟩, ⟨_, D.k11⟩, ⟨_, D.k12⟩, ⟨_, D.k13⟩, ⟨_, D.k14⟩, ⟨_, D.k15⟩, ⟨_, D.k16⟩, ⟨_, D.k17⟩, ⟨_, D.k18⟩, ⟨_, D.k19⟩, ⟨_, D.k20⟩, ⟨_, D.k21⟩, ⟨_, D.k22⟩, ⟨_, D.k23⟩, ⟨_, D.k24⟩, ⟨_, D.k25⟩, ⟨_, D.k26⟩, ⟨_, D.k27⟩, ⟨_, D.k28⟩, ⟨_, D.k29⟩, ⟨_, D.k31⟩, ⟨_, D.k30⟩, ⟨_, D.k32⟩, ⟨_, D.k33⟩, ⟨_, D.k34⟩, ⟨_, D.k35⟩, ⟨_, D.k36⟩, ⟨_, D.k37⟩, ⟨_, D.k39⟩, ⟨_, D.k38⟩, ⟨_, D.k40⟩, ⟨_, D.k44⟩, ⟨_, D.k45⟩, ⟨_, D.k46⟩, ⟨_, D.k41⟩, ⟨_, D.k42⟩, ⟨_, D.k133⟩, ⟨_, D.k167⟩, ⟨_, D.k43⟩, ⟨_, D.k53⟩, ⟨_, D.k54⟩, ⟨_, D.k47⟩, ⟨_, D.k48⟩, ⟨_, D.k49⟩, ⟨_, D.k50⟩, ⟨_, D.k51⟩, ⟨_, D.k135⟩, ⟨_, D.k136⟩, ⟨_, D.k137⟩, ⟨_, D.k66⟩, ⟨_, D.k169⟩, ⟨_, D.k52⟩, ⟨_, D.k55⟩, ⟨_, D.k56⟩, ⟨_, D.k57⟩, ⟨_, D.k58⟩, ⟨_, D.k59⟩, ⟨_, D.k60⟩, ⟨_, D.k61⟩, ⟨_, D.k62⟩, ⟨_, D.k63⟩, ⟨_, D.k64⟩, ⟨_, D.k138⟩, ⟨_, D.k139⟩, ⟨_, D.k140⟩, ⟨_, D.k141⟩, ⟨_, D.k142⟩, ⟨_, D.k143⟩, ⟨_, D.k144⟩, ⟨_, D.k145⟩, ⟨_, D.k147⟩, ⟨_, D.k146⟩, ⟨_, D.k83⟩, ⟨_, D.k65⟩, ⟨_, D.k67⟩, ⟨_, D.k68⟩, ⟨_, D.k69⟩, ⟨_, D.k70⟩, ⟨_, D.k71⟩, ⟨_, D.k72⟩, ⟨_, D.k74⟩, ⟨_, D.k73⟩, ⟨_, D.k77⟩, ⟨_, D.k78⟩, ⟨_, D.k79⟩, ⟨_, D.k80⟩, ⟨_, D.k81⟩, ⟨_, D.k82⟩, ⟨_, D.k148⟩, ⟨_, D.k149⟩, ⟨_, D.k150⟩, ⟨_, D.k151⟩, ⟨_, D.k152⟩, ⟨_, D.k153⟩, ⟨_, D.k93⟩, ⟨_, D.k84⟩, ⟨_, D.k85⟩, ⟨_, D.k86⟩, ⟨_, D.k75⟩, ⟨_, D.k87⟩, ⟨_, D.k89⟩, ⟨_, D.k90⟩, ⟨_, D.k91⟩, ⟨_, D.k92⟩, ⟨_, D.k154⟩, ⟨_, D.k98⟩, ⟨_, D.k99⟩, ⟨_, D.k100⟩, ⟨_, D.k101⟩, ⟨_, D.k102⟩, ⟨_, D.k103⟩, ⟨_, D.k104⟩, ⟨_, D.k76⟩, ⟨_, D.k96⟩, ⟨_, D.k95⟩, ⟨_, D.k94⟩, ⟨_, D.k156⟩, ⟨_, D.k112⟩, ⟨_, D.k113⟩, ⟨_, D.k114⟩, ⟨_, D.k115⟩, ⟨_, D.k116⟩, ⟨_, D.k88⟩, ⟨_, D.k105⟩, ⟨_, D.k157⟩, ⟨_, D.k158⟩, ⟨_, D.k160⟩, ⟨_, D.k162⟩, ⟨_, D.k163⟩, ⟨_, D.k164⟩, ⟨_, D.k165⟩, ⟨_, D.k166⟩, ⟨_, D.k159⟩, ⟨_, D.k161⟩, fun p hp => by cases hp⟩
def implB (P : Program) (p : Nat × Nat) : Bool := match P.underlying p.1, P.info? p.2 with
  | some (.interface want), some i => (Instr.missingMethod want i.methods).isNone
  | _, _ => false
theorem impls_all : D.impls.all (implB Tryz.prog) = true := by kernel_rfl
theorem impl_ok : Impl Tryz.prog D.T.impl := by
  intro t t' h
  simp only [D.T, List.any_eq_true, Bool.and_eq_true, beq_iff_eq] at h
  obtain ⟨p, hp, rfl, rfl⟩ := h
  have h1 := List.all_eq_true.1 impls_all p hp
  unfold implB at h1
  split at h1
  · rename_i want i hw hi
    exact ⟨want, i, hw, hi, by simpa using h1⟩
  · cases h1
theorem tblOk : TblOk Tryz.prog D.T := ⟨impl_ok, fun f d h => by
  have := tbl_all (f, d) (lookup_mem _ _ _ h)
  cases d <;> exact this⟩
theorem sound (n : Nat) : SoundC Tryz.prog (callN D.T n) := callN_sound tblOk n
/-- What the interpreter answers, the program does. -/
theorem callW_ok {f : FuncId} {args : List LVal} {st : List LObj} {v : LVal} {ost : Option (List LObj)} (h : callW D.T f args st = some (v, ost)) : Sound1 Tryz.prog f args st v ost := by
  obtain ⟨n, hn⟩ := callW_iff.1 h
  exact sound n f args st v ost hn
end Go.Proofs.YtpfnlpakcldobaaGreat
