/- Every function of the table is sound. -/
import Derived.Test.YtbljgbojkifoiaaKChk
import Derived.Test.YtbljgbojkifoiaaKHookD
set_option linter.unusedVariables false
namespace Go.Proofs.Ytbljgbojkifoiaa
open Go Go.L
def OkD (f : FuncId) (d : LDef) : Prop := match d with
  | .fn lf => ∃ vm, chkFun Try.prog f vm lf = true
  | .hook h => ∀ args st v ost, h args st = some (v, ost) → Sound1 Try.prog f args st v ost
theorem lookup_mem : ∀ (l : List (Nat × LDef)) (f : Nat) (d : LDef), l.lookup f = some d → (f, d) ∈ l
  | [], f, d, h => by cases h
  | (k, e) :: r, f, d, h => by
    simp only [List.lookup] at h
    split at h
    · rename_i hk
      injection h with h; subst h
      have := eq_of_beq hk
      subst this
      exact List.mem_cons_self ..
    · exact List.mem_cons_of_mem _ (lookup_mem r f d h)
theorem tbl_all : ∀ p ∈ D.tbl, OkD p.1 p.2 := by
  simp only [D.tbl, List.forall_mem_cons]
  exact ⟨⟨_, D.k7⟩, ⟨_, D.k8⟩, ⟨_, D.k9⟩, ⟨_, D.k15⟩, ⟨_, D.k13⟩, ⟨_, D.k17⟩, ⟨_, D.k14⟩, ⟨_, D.k10⟩, ⟨_, D.k16⟩, ⟨_, D.k18⟩, ⟨_, D.k29⟩, ⟨_, D.k28⟩, ⟨_, D.k30⟩, ⟨_, D.k12⟩, ⟨_, D.k20⟩, ⟨_, D.k21⟩, ⟨_, D.k22⟩, ⟨_, D.k31⟩, ⟨_, D.k32⟩, ⟨_, D.k41⟩, ⟨_, D.k11⟩, ⟨_, D.k27⟩, ⟨_, D.k34⟩, ⟨_, D.k36⟩, ⟨_, D.k35⟩, ⟨_, D.k37⟩, ⟨_, D.k33⟩, ⟨_, D.k24⟩, ⟨_, D.k25⟩, ⟨_, D.k26⟩, ⟨_, D.k45⟩, ⟨_, D.k46⟩, ⟨_, D.k38⟩, ⟨_, D.k39⟩, hText_ok, hSorted_ok, hGrow_ok, hCopy_ok, hCmp_ok, fun p hp => by cases hp⟩
theorem tblOk : TblOk Try.prog D.T := ⟨fun t t' h => (by cases h), fun f d h => by
  have := tbl_all (f, d) (lookup_mem _ _ _ h)
  cases d <;> exact this⟩
theorem sound (n : Nat) : SoundC Try.prog (callN D.T n) := callN_sound tblOk n
/-- What the interpreter answers, the program does. -/
theorem callW_ok {f : FuncId} {args : List LVal} {st : List LObj} {v : LVal} {ost : Option (List LObj)} (h : callW D.T f args st = some (v, ost)) : Sound1 Try.prog f args st v ost := by
  obtain ⟨n, hn⟩ := callW_iff.1 h
  exact sound n f args st v ost hn
#print axioms callW_ok
end Go.Proofs.Ytbljgbojkifoiaa
