/- Small facts for walking the interpreter's code with simp. -/
import Derived.Test.YtpfnlpakcldobaaGreatTbl
import Derived.Laws.Bits64
import Derived.Laws.BitsAllLaws
set_option linter.unusedVariables false
set_option linter.unusedSimpArgs false
namespace Go.L
open Go
@[simp] theorem own_undef : LVal.isOwn .undef = false := rfl
@[simp] theorem own_bool (b) : LVal.isOwn (.bool b) = false := rfl
@[simp] theorem own_int (k n) : LVal.isOwn (.int k n) = false := rfl
@[simp] theorem own_str (s) : LVal.isOwn (.str s) = false := rfl
@[simp] theorem own_ptr (i o) : LVal.isOwn (.ptr i o) = false := rfl
@[simp] theorem own_ref (v) : LVal.isOwn (.ref v) = false := rfl
@[simp] theorem own_nilptr : LVal.isOwn .nilptr = false := rfl
@[simp] theorem own_sh (b n xs) : LVal.isOwn (.vs b .sh n xs) = false := rfl
@[simp] theorem own_full (b n xs) : LVal.isOwn (.vs b .full n xs) = false := rfl
@[simp] theorem own_own (b e x n xs) : LVal.isOwn (.vs b (.own e x) n xs) = true := rfl
@[simp] theorem own_pk (b l n xs) : LVal.isOwn (.vs b (.pk l) n xs) = false := rfl
@[simp] theorem own_ms (a b c d e) : LVal.isOwn (.ms a b c d e) = false := rfl
@[simp] theorem own_map (i) : LVal.isOwn (.map i) = false := rfl
@[simp] theorem own_nilmap : LVal.isOwn .nilmap = false := rfl
@[simp] theorem own_func (f c) : LVal.isOwn (.func f c) = false := rfl
@[simp] theorem own_nilfunc : LVal.isOwn .nilfunc = false := rfl
@[simp] theorem own_iface (t v) : LVal.isOwn (.iface t v) = false := rfl
@[simp] theorem own_niliface : LVal.isOwn .niliface = false := rfl
@[simp] theorem own_agg (c) : LVal.isOwn (.agg c) = false := rfl
@[simp] theorem own_tup (c) : LVal.isOwn (.tup c) = false := rfl

@[simp] theorem lobj_dead (n) : LObj.within n .dead = true := rfl
@[simp] theorem lobj_cells (n t c) : LObj.within n (.cells t c) = LVal.withins n c := rfl
@[simp] theorem lobj_map (n es) : LObj.within n (.map es) = (LVal.withins n (es.map (·.1)) && LVal.withins n (es.map (·.2))) := rfl

@[simp] theorem stay_undef  : LVal.stay .undef = .undef := rfl
@[simp] theorem stay_bool (b) : LVal.stay (.bool b) = (.bool b) := rfl
@[simp] theorem stay_int (k n) : LVal.stay (.int k n) = (.int k n) := rfl
@[simp] theorem stay_str (s) : LVal.stay (.str s) = (.str s) := rfl
@[simp] theorem stay_ptr (i o) : LVal.stay (.ptr i o) = (.ptr i o) := rfl
@[simp] theorem stay_ref (v) : LVal.stay (.ref v) = (.ref v) := rfl
@[simp] theorem stay_nilptr  : LVal.stay .nilptr = .nilptr := rfl
@[simp] theorem stay_ms (a b c d e) : LVal.stay (.ms a b c d e) = (.ms a b c d e) := rfl
@[simp] theorem stay_map (i) : LVal.stay (.map i) = (.map i) := rfl
@[simp] theorem stay_nilmap  : LVal.stay .nilmap = .nilmap := rfl
@[simp] theorem stay_func (f c) : LVal.stay (.func f c) = (.func f c) := rfl
@[simp] theorem stay_nilfunc  : LVal.stay .nilfunc = .nilfunc := rfl
@[simp] theorem stay_iface (t v) : LVal.stay (.iface t v) = (.iface t v) := rfl
@[simp] theorem stay_niliface  : LVal.stay .niliface = .niliface := rfl
@[simp] theorem stay_agg (c) : LVal.stay (.agg c) = (.agg c) := rfl
@[simp] theorem stay_tup (c) : LVal.stay (.tup c) = (.tup c) := rfl
@[simp] theorem stay_sh (b n xs) : LVal.stay (.vs b .sh n xs) = .vs b .sh n xs := rfl
@[simp] theorem stay_full (b n xs) : LVal.stay (.vs b .full n xs) = .vs b .full n xs := rfl
@[simp] theorem stay_own (b e x n xs) : LVal.stay (.vs b (.own e x) n xs) = .vs b (.own e false) n xs := rfl
@[simp] theorem stay_pk (b l n xs) : LVal.stay (.vs b (.pk l) n xs) = .vs b (.pk l) n xs := rfl
@[simp] theorem settle_dead : LObj.settle .dead = .dead := rfl
@[simp] theorem settle_cells (t c) : LObj.settle (.cells t c) = .cells t (c.map LVal.stay) := rfl
@[simp] theorem settle_map (es) : LObj.settle (.map es) = .map es := rfl

theorem w64 {n : Int} (h0 : 0 ≤ n) (h : n < 18446744073709551616) : IntKind.u64.wrap n = n := by rw [IntKind.wrap_u64]; omega
theorem w8 {n : Int} (h0 : 0 ≤ n) (h : n < 256) : IntKind.u8.wrap n = n := by rw [IntKind.wrap_u8']; omega
theorem wi64 {n : Int} (h0 : -9223372036854775808 ≤ n) (h : n < 9223372036854775808) : IntKind.i64.wrap n = n := by
  simp only [IntKind.wrap, IntKind.bits, IntKind.signed]
  simp
  omega
theorem tmodN (n : Nat) (m : Int) : (n : Int).tmod m = (n : Int) % m := Int.tmod_eq_emod_of_nonneg (by omega)
theorem tdivN (n : Nat) (m : Int) : (n : Int).tdiv m = (n : Int) / m := Int.tdiv_eq_ediv_of_nonneg (by omega)
theorem bytesOf_bytesL : ∀ (l : List UInt8), bytesOfL (bytesL l) = some l
  | [] => rfl
  | b :: l => by
    have := bytesOf_bytesL l
    simp only [bytesL, List.map_cons, bytesOfL, byteL, byteOfL] at this ⊢
    rw [this]
    simp
theorem withins_bytesL (n : Nat) : ∀ (l : List UInt8), LVal.withins n (bytesL l) = true
  | [] => rfl
  | b :: l => withins_bytesL n l
theorem pfs_bytesL : ∀ (l : List UInt8), LVal.pfs (bytesL l) = true
  | [] => rfl
  | b :: l => pfs_bytesL l
theorem len_bytesL (l : List UInt8) : (bytesL l).length = l.length := by simp [bytesL]
theorem get_bytesL (l : List UInt8) (i : Nat) : (bytesL l)[i]? = (l[i]?).map byteL := by simp [bytesL]

section
variable {C : CallL} {im : TypeId → String → Option FuncId} {impl : TypeId → TypeId → Bool} {T : Tbl}
theorem runD_cons {o : LOper} {r : List LOper} {s s1 s2 : RS} (h1 : stepD C im impl s o = some s1) (h2 : runOpsD C im impl r s1 = some s2) : runOpsD C im impl (o :: r) s = some s2 := by
  simp only [runOpsD, h1, Option.bind_some, h2]
theorem runD_nil {s : RS} : runOpsD C im impl [] s = some s := rfl
theorem run_cons {o : LOper} {r : List LOper} {s s1 s2 : RS} (h1 : Go.L.step C im impl s o = some s1) (h2 : runOps C im impl r s1 = some s2) : runOps C im impl (o :: r) s = some s2 := by
  simp only [runOps, h1, Option.bind_some, h2]
theorem run_nil {s : RS} : runOps C im impl [] s = some s := rfl
theorem regD {n : Nat} {ops : List LOper} {s : RS} {v : List LVal} {st : List LObj} {rs : List LVal} (h : runOpsD (callW T) T.im T.impl ops { s.settle with rs := List.replicate n .undef } = some ⟨v, st, rs⟩) : codeW T (.region n ops true) s = some (.normal, ⟨v, st, []⟩) := by
  rw [codeW_regionD, h]; rfl
theorem regN {n : Nat} {ops : List LOper} {s : RS} {v : List LVal} {st : List LObj} {rs : List LVal} (h : runOps (callW T) T.im T.impl ops { s with rs := List.replicate n .undef } = some ⟨v, st, rs⟩) : codeW T (.region n ops false) s = some (.normal, ⟨v, st, []⟩) := by
  rw [codeW_region, h]; rfl
end
end Go.L
