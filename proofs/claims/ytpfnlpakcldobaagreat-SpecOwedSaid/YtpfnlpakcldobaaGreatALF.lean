/- Texts of the proof: L29 L30 L31 L32 L33 L34 L35 L36 L37 L38. -/
import Derived.Test.YtpfnlpakcldobaaGreatALE
import Derived.LoopN
import Derived.Scope
import Derived.Laws.Tables
import Derived.ChangeArms
import Derived.OpenShut
import Derived.ProofKit
set_option linter.unusedVariables false
set_option linter.unusedSimpArgs false
set_option linter.unusedSectionVars false
namespace Go.L
open Go
variable {P : Program} {vm : List Nat} {lm : List (Option Nat)} {ρ ρ' : List Nat} {S S' : Nat → Nat → Prop} {G G' : Nat → Cl} {σ σ' : RS} {a : Act} {w w' : World}
variable {C : xV} {im : TypeId → String → Option FuncId} {impl : TypeId → TypeId → Bool}
def Qs (n : Nat) (Q : Exit → Act → World → Prop) : Exit → Act → World → Prop := fun e a w => Q e a w ∧ (e = .normal → a.tmps.size = n)
theorem size_put (a : Act) (d : Option Tmp) (v : Value) : (a.put d v).tmps.size = a.tmps.size := by
 cases d <;> simp [Act.put]
theorem upon_size {o : Oper} {n : Nat} {Q : Exit → Act → World → Prop} {K K' : Act → World → Prop} (ha : a.tmps.size = n) (hk : ∀ a' w', a'.tmps.size = n → K a' w' → K' a' w') {r : Result Next} (h : o.upon P a K Q r) : o.upon P a K' (Qs n Q) r := by
 have hp : ∀ d v, (a.put d v).tmps.size = n := fun d v => (size_put ..).trans ha
 cases r with
 | ok x w' =>
  cases x with
  | value v => exact hk _ _ (hp ..) h
  | skip => exact hk _ _ (hp ..) h
  | defer d => exact hk _ _ ((size_put ..).trans ha) h
  | enter f args =>
   refine Calls.mono h ?_
   intro e w'' he
   cases e with
   | returned v => exact hk _ _ (hp ..) he
   | panicked c => exact ⟨he, fun e => by cases e⟩
   | outgrown => obtain ⟨a0, w0, h0⟩ := he; exact ⟨a0, w0, h0, fun e => by cases e⟩
  | row r args => exact Rows.mono h (fun v w'' he => hk _ _ (hp ..) he)
  | _ => exact h
 | halt x w' =>
  cases x with
  | panic v => exact ⟨h, fun e => by cases e⟩
  | _ => exact h
theorem uP {ops : Array Oper} {n : Nat} {Q : Exit → Act → World → Prop} : ∀ (l : List Nat) {a : Act} {w : World}, a.tmps.size = n → wpOps P ops Q l a w → wpOps P ops (Qs n Q) l a w
 | [], a, w, ha, h => ⟨h, fun _ => ha⟩
 | i :: l, a, w, ha, h => by
  rw [wpOps_cons] at h ⊢
  unfold wpOp at h ⊢
  cases hi : ops[i]? with
  | none => rw [hi] at h; exact uP l ha h
  | some o =>
   rw [hi] at h
   dsimp only at h ⊢
   split at h
   ·rename_i hw
    rw [if_pos hw]
    rcases h with h | ⟨h1, a0, w0, h0⟩
    ·exact .inl (upon_size ha (fun a' w' ha' hk => uP l ha' hk) h)
    ·exact .inr ⟨h1, a0, w0, h0, fun e => by cases e⟩
   ·rename_i hw
    rw [if_neg hw]
    exact uP l ((size_put ..).trans ha) h
def CR (P : Program) (vm : List Nat) (nt : Nat) (ρ : List Nat) (S : Nat → Nat → Prop) (G : Nat → Cl) (σ : RS) (a : Act) (w : World) : Prop := Rel P vm [] ρ S G σ a w ∧ σ.rs = [] ∧ a.tmps.size = nt
theorem Rel.enter (h : Rel P vm [] ρ S G σ a w) {lm : List (Option Nat)} (hl : ∀ (i t : Nat), lm[i]? = some (some t) → t < a.tmps.size) (n : Nat) : Rel P vm lm ρ S G { σ with rs := List.replicate n .undef } a w where
 defers := h.defers
 vsz := h.vsz
 lsz := hl
 swf := h.swf
 len := h.len
 rho := h.rho
 st := h.st
 vars := h.vars
 rs i v hv := by
  have := List.mem_of_getElem? hv
  exact .inl (List.eq_of_mem_replicate this)
theorem Rel.leave (h : Rel P vm lm ρ S G σ a w) : Rel P vm [] ρ S G { σ with rs := [] } a w where
 defers := h.defers
 vsz := h.vsz
 lsz i t hi := by simp at hi
 swf := h.swf
 len := h.len
 rho := h.rho
 st := h.st
 vars := h.vars
 rs i v hv := by simp at hv
def ue : List Nat → Bool
 | [] => true
 | x :: l => !l.contains x && ue l
theorem mI : ∀ {l : List Nat}, ue l = true → ∀ (i j t : Nat), l[i]? = some t → l[j]? = some t → i = j
 | [], _, i, _, _, hi, _ => by simp at hi
 | x :: l, h, i, j, t, hi, hj => by
  simp only [ue, Bool.and_eq_true, Bool.not_eq_true'] at h
  have hx : x ∉ l := by simpa using h.1
  cases i with
  | zero =>
   cases j with
   | zero => rfl
   | succ j => simp at hi hj; subst hi; exact absurd (List.mem_of_getElem? hj) hx
  | succ i =>
   cases j with
   | zero => simp at hi hj; subst hj; exact absurd (List.mem_of_getElem? hi) hx
   | succ j => simp at hi hj; rw [mI h.2 i j t hi hj]
def chkLm (vm : List Nat) (nt : Nat) (lm : List (Option Nat)) : Bool :=
 ue (lm.filterMap id) && (lm.filterMap id).all (fun t => !vm.contains t && decide (t < nt))
theorem nA : ∀ {lm : List (Option Nat)}, ue (lm.filterMap id) = true → ∀ (i j t : Nat), lm[i]? = some (some t) → lm[j]? = some (some t) → i = j
 | [], _, i, _, _, hi, _ => by simp at hi
 | none :: l, h, i, j, t, hi, hj => by
  cases i with
  | zero => simp at hi
  | succ i =>
   cases j with
   | zero => simp at hj
   | succ j => simp at hi hj; rw [nA (by simpa using h) i j t hi hj]
 | some x :: l, h, i, j, t, hi, hj => by
  simp only [List.filterMap_cons, id, ue, Bool.and_eq_true, Bool.not_eq_true'] at h
  have hx : ∀ k : Nat, l[k]? ≠ some (some x) := by
   intro k hk
   have h1 := h.1
   have : x ∈ l.filterMap id := List.mem_filterMap.2 ⟨some x, List.mem_of_getElem? hk, rfl⟩
   rw [List.contains_eq_mem] at h1
   simp at h1
   exact h1 (by simpa using this)
  cases i with
  | zero =>
   cases j with
   | zero => rfl
   | succ j => simp at hi hj; subst hi; exact absurd hj (hx j)
  | succ i =>
   cases j with
   | zero => simp at hi hj; subst hj; exact absurd hi (hx i)
   | succ j => simp at hi hj; rw [nA h.2 i j t hi hj]
theorem chkLm_ok {nt : Nat} (hv : ue vm = true) (h : chkLm vm nt lm = true) : qc vm lm ∧ ∀ (i t : Nat), lm[i]? = some (some t) → t < nt := by
 simp only [chkLm, Bool.and_eq_true] at h
 have key : ∀ (i t : Nat), lm[i]? = some (some t) → ¬ t ∈ vm ∧ t < nt := by
  intro i t hi
  have := List.all_eq_true.1 h.2 t (List.mem_filterMap.2 ⟨some t, List.mem_of_getElem? hi, rfl⟩)
  simpa using this
 exact ⟨⟨mI hv, nA h.1, fun i k t hi hk => (key i t hi).1 (List.mem_of_getElem? hk)⟩, fun i t hi => (key i t hi).2⟩
def pT (P : Program) (vm : List Nat) (nt : Nat) (ops : Array Oper) (draw : Bool) (n : Nat) (los : List zj) : Bool :=
 let lm := pw ops.toList los
 n == ops.size && los.length == ops.size && chkLm vm nt lm && tu P vm lm ops 0 los && (!draw || oQ ops los)
theorem sy {ops : Array Oper} : ∀ {los : List zj} {i : Nat}, tu P vm lm ops i los = true → ∀ (j : Nat) (lo : zj), los[j]? = some lo → lo.ix = i + j ∧ ∃ o, ops[i + j]? = some o ∧ u6 P vm lm ops o lo = true
 | [], _, _, j, lo, hj => by simp at hj
 | x :: l, i, h, j, lo, hj => by
  simp only [tu, Bool.and_eq_true, beq_iff_eq] at h
  obtain ⟨⟨h1, h2⟩, h3⟩ := h
  cases j with
  | zero =>
   simp at hj; subst hj
   cases hi : ops[i]? with
   | none => rw [hi] at h2; cases h2
   | some o => rw [hi] at h2; exact ⟨h1, o, by simp, h2⟩
  | succ j =>
   simp at hj
   have := sy h3 j lo hj
   rw [show i + (j + 1) = i + 1 + j by omega]; exact this
theorem region_ok (hv : ue vm = true) (hC : vI P C) (hI : Impl P impl) {nt n id : Nat} {ops : Array Oper} {los : List zj} {draw : Bool} (hc : pT P vm nt ops draw n los = true) (h : CR P vm nt ρ S G σ a w) {σ1 : RS}
 (hr : (if draw then zW C im impl los { σ.settle with rs := List.replicate n .undef } else yC C im impl los { σ with rs := List.replicate n .undef }) = some σ1) {Q : Exit → Act → World → Prop}
 (hk : ∀ a' w', (∃ ρ' S' G', CR P vm nt ρ' S' G' { σ1 with rs := [] } a' w' ∧ Pr w S G ρ w' S' G' ρ') → Q .normal a' w') : (Code.region id ops draw).wp P Q a w := by
 obtain ⟨h1, h2, h3⟩ := h
 simp only [pT, Bool.and_eq_true, beq_iff_eq] at hc
 obtain ⟨⟨⟨⟨c1, c2⟩, c3⟩, c4⟩, c5⟩ := hc
 obtain ⟨wf, hlt⟩ := chkLm_ok hv c3
 have fin : ∀ {ρ0 S0 G0 w0} {e : Exit} {a' : Act} {w' : World}, Pr w S G ρ w0 S0 G0 ρ0 → Qs nt (fun e a' w' => e = .normal ∧ wK P vm (pw ops.toList los) ρ0 S0 G0 w0 σ1 a' w') e a' w' → Q e a' w' := by
  intro ρ0 S0 G0 w0 e a' w' hp hq
  obtain ⟨⟨rfl, ρ', S', G', k1, k2⟩, k3⟩ := hq
  exact hk a' w' ⟨ρ', S', G', ⟨k1.leave, rfl, k3 rfl⟩, hp.trans k2⟩
 have hlm : ∀ (i t : Nat), (pw ops.toList los)[i]? = some (some t) → t < a.tmps.size := fun i t hi => by rw [h3]; exact hlt i t hi
 cases draw with
 | false =>
  simp only [Bool.false_eq_true, if_false] at hr
  have hE := h1.enter hlm n
  have h4 := ops_ok (Q := fun e a' w' => e = .normal ∧ wK P vm (pw ops.toList los) ρ S G w σ1 a' w') wf hC hI hE c4 hr (fun a' w' hA => ⟨rfl, hA⟩)
  rw [c2] at h4
  have h5 : (Code.region id ops false).wp P (Qs nt fun e a' w' => e = .normal ∧ wK P vm (pw ops.toList los) ρ S G w σ1 a' w') a w :=
   wp_region (by rw [List.range_eq_range']; exact uP _ h3 h4)
  exact wp_mono h5 fun e a' w' hq => fin (Pr.refl ..) hq
 | true =>
  simp only [if_true] at hr
  have hdr : oQ ops los = true := by simpa using c5
  obtain ⟨S0, G0, k0, p0⟩ := h1.settle
  obtain ⟨k1, p1⟩ := k0.drew
  have hE := k1.enter hlm n
  have hat : ∀ (i : Nat) (lo : zj), los[i]? = some lo → ∃ o, ops[i]? = some o ∧ u6 P vm (pw ops.toList los) ops o lo = true := fun i lo hi => by
   have := (sy c4 i lo hi).2
   simpa using this
  have hix : ∀ (i : Nat) (lo : zj), los[i]? = some lo → lo.ix = i := fun i lo hi => by have := (sy c4 i lo hi).1; omega
  have hinv : DInv ops los los (Array.replicate ops.size false) := {
   size := by simp
   mem := fun lo hlo => by
    obtain ⟨i, hi, e⟩ := List.getElem_of_mem hlo
    have hg : los[i]? = some lo := by rw [List.getElem?_eq_getElem hi, e]
    rw [hix i lo hg]
    exact ⟨hg, by rw [Array.getElem?_replicate, if_pos (by omega)]⟩
   all := fun i hi => by
    have hlt' : i < los.length := by
     rw [c2]
     have := (Array.getElem?_eq_some_iff.1 hi).1
     simpa using this
    exact ⟨los[i], List.getElem_mem hlt', hix i _ (List.getElem?_eq_getElem hlt')⟩
   sorted := by
    rw [List.pairwise_iff_getElem]
    intro i j hi hj hij
    rw [hix i _ (List.getElem?_eq_getElem hi), hix j _ (List.getElem?_eq_getElem hj)]
    exact hij
   closed := fun i hi => by
    have := (Array.getElem?_eq_some_iff.1 hi)
    obtain ⟨q1, q2⟩ := this
    simp at q2 }
  have hund : ∀ lo ∈ los, ({ σ.settle with rs := List.replicate n .undef } : RS).rs[lo.ix]? = some .undef := by
   intro lo hlo
   obtain ⟨i, hi, e⟩ := List.getElem_of_mem hlo
   have hg : los[i]? = some lo := by rw [List.getElem?_eq_getElem hi, e]
   have := hix i lo hg
   simp only [List.getElem?_replicate]
   rw [if_pos (by omega)]
  have any : ∀ md, wpAny P md ops (fun e a' w' => e = .normal ∧ wK P vm (pw ops.toList los) ρ S0 G0 w.drew σ1 a' w') ops.size (Array.replicate ops.size false) a w.drew := fun md =>
   any_ok (md := md) wf hC hI hdr c4 hat c2.symm hinv hE hund hr (fun a' w' hA => ⟨rfl, hA⟩)
  have h5 : (Code.region id ops true).wp P (Qs nt fun e a' w' => e = .normal ∧ wK P vm (pw ops.toList los) ρ S0 G0 w.drew σ1 a' w') a w := by
   refine wp_region_draw fun t => uP _ h3 ?_
   unfold Region.schedule
   split
   ·exact wpAny_sound _ _ _ _ _ (any .any)
   ·exact wpAny_sound _ _ _ _ _ (any _)
  exact wp_mono h5 fun e a' w' hq => fin (p0.trans p1) hq
end Go.L
namespace Go.L
open Go
variable {P : Program} {vm : List Nat} {lm : List (Option Nat)} {ρ ρ' : List Nat} {S S' : Nat → Nat → Prop} {G G' : Nat → Cl} {σ σ' : RS} {a : Act} {w w' : World}
variable {C : xV} {im : TypeId → String → Option FuncId} {impl : TypeId → TypeId → Bool}
theorem V.within {n : Nat} {v : LVal} {cv : Value} (h : V w S ρ v cv) : v.within n = true → V w S (ρ.take n) v cv := by
 have hget : ∀ {ρ : List Nat} {id b : Nat}, id < n → ρ[id]? = some b → (ρ.take n)[id]? = some b := by
  intro ρ id b hlt h; rw [List.getElem?_take, if_pos hlt]; exact h
 refine V.rec (motive_1 := fun ρ v cv _ => v.within n = true → V w S (ρ.take n) v cv)
  (motive_2 := fun ρ l cs _ => LVal.zb n l = true → VL w S (ρ.take n) l cs)
  (motive_3 := fun b off l _ => True) ?_ ?_ ?_ ?_ ?_ ?_ ?_ ?_ ?_ ?_ ?_ ?_ ?_ ?_ ?_ ?_ ?_ ?_ ?_ ?_ ?_ ?_ ?_ h
 ·intros; exact .undef
 ·intros; exact .bool _
 ·intros; exact .int _ _
 ·intros; exact .str _
 ·intro ρ id off b h hp; exact .ptr (hget (by simpa [LVal.within] using hp) h)
 ·intro ρ v b off h _ _; exact .ref h
 ·intros; exact .vh
 ·intros; exact .oF
 ·intro ρ o n xs b off cap h1 h2 h3 h4 h5 _ _; exact .vs h1 h2 h3 h4 h5
 ·intros; exact .vz
 ·intro ρ id b off len esz agg cap h h1 h2 hp; exact .ms (hget (by simpa [LVal.within] using hp) h) h1 h2
 ·intro ρ id b h hp; exact .map (hget (by simpa [LVal.within] using hp) h)
 ·intros; exact .wq
 ·intro ρ f caps cs _ hp ih hpf; exact .func (ih (by simpa [LVal.within] using hpf)) hp
 ·intros; exact .x6
 ·intro ρ t v x _ hp ih hpf; exact .iface (ih (by simpa [LVal.within] using hpf)) hp
 ·intros; exact .yX
 ·intro ρ cs xs _ hp ih hpf; exact .agg (ih (by simpa [LVal.within] using hpf)) hp
 ·intro ρ l xs _ hp ih hpf; exact .tup (ih (by simpa [LVal.within] using hpf)) hp
 ·intros; exact .nil
 ·intro ρ v c vs cs _ _ i1 i2 hpf
  simp only [LVal.zb, Bool.and_eq_true] at hpf
  exact .cons (i1 hpf.1) (i2 hpf.2)
 ·intros; trivial
 ·intros; trivial
theorem u7 {n : Nat} : ∀ {l : List LVal}, LVal.zb n l = true → ∀ (i : Nat) (v : LVal), l[i]? = some v → v.within n = true
 | [], _, i, v, h => by simp at h
 | x :: l, hl, i, v, h => by
  simp only [LVal.zb, Bool.and_eq_true] at hl
  cases i with
  | zero => simp at h; subst h; exact hl.1
  | succ i => exact u7 hl.2 i v (by simpa using h)
theorem At1.within {pk l v cv} {n : Nat} (h : At1 P w S G ρ pk l v cv) (hw : v.within n = true) : At1 P w S G (ρ.take n) pk l v cv := by
 by_cases hs : v.simple = true
 ·exact (At1.simple hs).2 (((At1.simple hs).1 h).within hw)
 ·cases v with
  | vs b o n xs =>
   cases o with
   | own e x => exact h
   | pk p => exact h
   | _ => simp [LVal.simple] at hs
  | tup l => exact V.within h hw
  | _ => simp [LVal.simple] at hs
theorem At.within {pk b v cv} {n : Nat} (h : At P w S G ρ pk b v cv) (hw : v.within n = true) : At P w S G (ρ.take n) pk b v cv := by
 cases v with
 | tup l =>
  obtain ⟨cs, h1, h2, h3⟩ := h
  refine ⟨cs, h1, h2, fun c u hu => ?_⟩
  obtain ⟨k0, cu, k1, k2⟩ := h3 c u hu
  exact ⟨k0, cu, k1, k2.within (u7 (by simpa [LVal.within] using hw) c u hu)⟩
 | _ => exact (At.nt (by simp)).2 (((At.nt (by simp)).1 h).within hw)
theorem ti.within {id : Nat} {o : zt} {n : Nat} (hid : id < n) (h : ti P w S G ρ id o) (hw : o.within n = true) : ti P w S G (ρ.take n) id o := by
 have hget : ∀ {b : Nat}, ρ[id]? = some b → (ρ.take n)[id]? = some b := fun h => by rw [List.getElem?_take, if_pos hid]; exact h
 cases o with
 | dead => trivial
 | cells et c =>
  obtain ⟨b, cc, h1, h2, h3, h4, h5⟩ := h
  refine ⟨b, cc, hget h1, h2, h3, h4, fun off v hv => ?_⟩
  obtain ⟨m0, cv, m1, m2⟩ := h5 off v hv
  exact ⟨m0, cv, m1, m2.within (u7 (by simpa [zt.within] using hw) off v hv)⟩
 | map es =>
  obtain ⟨b, ces, clock, h1, h2, h3, h4, h5, h6⟩ := h
  simp only [zt.within, Bool.and_eq_true] at hw
  refine ⟨b, ces, clock, hget h1, h2, h3, h4, h5, fun i e hi => ?_⟩
  obtain ⟨ce, m1, m2, m3, m4, m5⟩ := h6 i e hi
  exact ⟨ce, m1, m2, m3, m4.within (u7 hw.2 i e.2 (by simp [hi])), m5⟩
theorem kill_get : ∀ (ks : List Nat) (l : List LVal) (k : Nat) (v : LVal), (kill ks l)[k]? = some v → v = .undef ∨ l[k]? = some v
 | [], l, k, v, h => .inr h
 | x :: ks, l, k, v, h => by
  have h' : (kill ks (l.set x .undef))[k]? = some v := h
  rcases kill_get ks _ k v h' with h1 | h1
  ·exact .inl h1
  ·rw [List.getElem?_set] at h1
   split at h1
   ·split at h1
    ·injection h1 with h1; exact .inl h1.symm
    ·cases h1
   ·exact .inr h1
theorem kill_len : ∀ (ks : List Nat) (l : List LVal), (kill ks l).length = l.length
 | [], l => rfl
 | x :: ks, l => by
  have : (kill (x :: ks) l) = kill ks (l.set x .undef) := rfl
  rw [this, kill_len]; simp
theorem CR.zX {nt n : Nat} {ks : List Nat} (h : CR P vm nt ρ S G σ a w) (h1 : LVal.zb n (kill ks σ.vars) = true) (h2 : (σ.st.take n).all (zt.within n) = true) (h3 : n ≤ σ.st.length) :
 CR P vm nt (ρ.take n) S G { vars := kill ks σ.vars, st := σ.st.take n, rs := [] } a w := by
 obtain ⟨k1, k2, k3⟩ := h
 refine ⟨?_, rfl, k3⟩
 exact {
  defers := k1.defers
  vsz := k1.vsz
  lsz := k1.lsz
  swf := k1.swf
  len := by have := k1.len; simp; omega
  rho := fun id b hb => by
   rw [List.getElem?_take] at hb
   split at hb
   ·exact k1.rho id b hb
   ·cases hb
  st := fun id o ho => by
   have hmem := List.mem_of_getElem? ho
   rw [List.getElem?_take] at ho
   split at ho
   ·rename_i hid
    exact (k1.st id o ho).within hid (List.all_eq_true.1 h2 o hmem)
   ·cases ho
  vars := fun k v hv => by
   have hw := u7 h1 k v hv
   rcases kill_get ks σ.vars k v hv with rfl | hv'
   ·have hk : k < σ.vars.length := by have := (List.getElem?_eq_some_iff.1 hv).1; rwa [kill_len] at this
    obtain ⟨t, q1, q2, _⟩ := k1.vars k _ (List.getElem?_eq_getElem hk)
    exact ⟨t, q1, q2, (At.simple rfl).2 .undef⟩
   ·obtain ⟨t, q1, q2, q3⟩ := k1.vars k v hv'
    exact ⟨t, q1, q2, q3.within hw⟩
  rs := fun i v hv => by simp at hv }
def xD : zv → zv
 | .zX _ b => xD b
 | c => c
def xb (P : Program) (vm : List Nat) (nt : Nat) : Code → zv → Bool
 | .scope b, l => xb P vm nt b l
 | .skip, l => match xD l with | .skip => true | _ => false
 | .region _ ops d, l => match xD l with | .region n los d' => d == d' && pT P vm nt ops d n los | _ => false
 | .seq a b, l => match xD l with | .seq a' b' => xb P vm nt a a' && xb P vm nt b b' | _ => false
 | .cond c x y, l => match xD l with | .cond c' x' y' => zp vm [] c c' && xb P vm nt x x' && xb P vm nt y y' | _ => false
 | .block id b, l => match xD l with | .block id' b' => id == id' && xb P vm nt b b' | _ => false
 | .loop b, l => match xD l with | .loop b' => xb P vm nt b b' | _ => false
 | .exit id, l => match xD l with | .exit id' => id == id' | _ => false
 | .ret, l => match xD l with | .ret => true | _ => false
 | _, l => match xD l with | .dead => true | _ => false
def oV : yS → Exit
 | .normal => .normal
 | .exit id => .exit id
 | .ret => .ret
def OK (P : Program) (C : xV) (im : TypeId → String → Option FuncId) (impl : TypeId → TypeId → Bool) (vm : List Nat) (nt : Nat) (c : Code) (l : zv) : Prop :=
 ∀ (fuel : Nat) ρ S G σ a w ex σ', CR P vm nt ρ S G σ a w → yB C im impl fuel l σ = some (ex, σ') → ∀ Q : Exit → Act → World → Prop,
  (∀ a' w', (∃ ρ' S' G', CR P vm nt ρ' S' G' σ' a' w' ∧ Pr w S G ρ w' S' G' ρ') → Q (oV ex) a' w') → c.wp P Q a w
theorem OK.zX {nt : Nat} {c : Code} {ks : List Nat} {l : zv} (h : OK P C im impl vm nt c l) : OK P C im impl vm nt c (.zX ks l) := by
 intro fuel ρ S G σ a w ex σ' hr hc Q hk
 simp only [yB, Option.bind_eq_some_iff] at hc
 obtain ⟨⟨ex1, σ1⟩, h1, h2⟩ := hc
 unfold yP at h2
 cases ex1 with
 | normal =>
  dsimp only at h2
  split at h2
  ·rename_i hcond
   obtain ⟨q1, q2, q3⟩ := hcond
   injection h2 with h2; injection h2 with e1 e2; subst e1; subst e2
   refine h fuel ρ S G σ a w _ _ hr h1 Q fun a' w' ⟨ρ', S', G', k1, k2⟩ => hk a' w' ⟨ρ'.take σ.st.length, S', G', k1.zX q1 q2 q3, ?_⟩
   refine ⟨k2.os, k2.tape, k2.output, k2.size, k2.ext, fun id b hb => ?_, k2.frame, k2.tC⟩
   have hlt : id < σ.st.length := by rw [← hr.1.len]; exact (List.getElem?_eq_some_iff.1 hb).1
   rw [List.getElem?_take, if_pos hlt]
   exact k2.rho id b hb
  ·cases h2
 | exit id =>
  injection h2 with h2; injection h2 with e1 e2; subst e1; subst e2
  exact h fuel ρ S G σ a w _ _ hr h1 Q hk
 | ret =>
  injection h2 with h2; injection h2 with e1 e2; subst e1; subst e2
  exact h fuel ρ S G σ a w _ _ hr h1 Q hk
theorem OK.xD {nt : Nat} {c : Code} : ∀ {l : zv}, OK P C im impl vm nt c (xD l) → OK P C im impl vm nt c l
 | .zX ks b, h => OK.zX (OK.xD (l := b) h)
 | .skip, h => h
 | .region .., h => h
 | .seq .., h => h
 | .cond .., h => h
 | .block .., h => h
 | .loop .., h => h
 | .exit .., h => h
 | .ret, h => h
 | .dead, h => h
theorem u5 (hv : ue vm = true) (hC : vI P C) (hI : Impl P impl) {nt : Nat} : ∀ (c : Code) {l : zv}, xb P vm nt c l = true → OK P C im impl vm nt c l
 | .scope b, l, h => by
  intro fuel ρ S G σ a w ex σ' hr hc Q hk
  refine wp_scope_straight (u5 hv hC hI b (l := l) (by simpa [xb] using h) fuel ρ S G σ a w ex σ' hr hc _ fun a' w' hA => ?_)
  have := hk a' w' hA
  cases ex <;> exact this
 | .skip, l, h => by
  refine OK.xD ?_
  simp only [xb] at h
  split at h
  ·rename_i e; rw [e]
   intro fuel ρ S G σ a w ex σ' hr hc Q hk
   simp only [yB, Option.some.injEq, Prod.mk.injEq] at hc
   obtain ⟨rfl, rfl⟩ := hc
   exact wp_skip (hk _ _ ⟨ρ, S, G, hr, Pr.refl ..⟩)
  ·cases h
 | .region id ops d, l, h => by
  refine OK.xD ?_
  simp only [xb] at h
  split at h
  ·rename_i n los d' e; rw [e]
   simp only [Bool.and_eq_true, beq_iff_eq] at h
   obtain ⟨rfl, h⟩ := h
   intro fuel ρ S G σ a w ex σ' hr hc Q hk
   simp only [yB, Option.map_eq_some_iff] at hc
   obtain ⟨σ1, h1, h2⟩ := hc
   injection h2 with e1 e2; subst e1; subst e2
   exact region_ok hv hC hI h hr h1 hk
  ·cases h
 | .seq x y, l, h => by
  refine OK.xD ?_
  simp only [xb] at h
  split at h
  ·rename_i x' y' e; rw [e]
   simp only [Bool.and_eq_true] at h
   intro fuel ρ S G σ a w ex σ' hr hc Q hk
   simp only [yB, Option.bind_eq_some_iff] at hc
   obtain ⟨⟨ex1, σ1⟩, h1, h2⟩ := hc
   refine wp_seq (u5 hv hC hI x h.1 fuel ρ S G σ a w ex1 σ1 hr h1 _ fun a' w' ⟨ρ', S', G', k1, k2⟩ => ?_)
   cases ex1 with
   | normal => exact u5 hv hC hI y h.2 fuel ρ' S' G' σ1 a' w' ex σ' k1 h2 Q fun a2 w2 ⟨ρ2, S2, G2, m1, m2⟩ => hk a2 w2 ⟨ρ2, S2, G2, m1, k2.trans m2⟩
   | exit id => injection h2 with h2; injection h2 with e1 e2; subst e1; subst e2; exact hk a' w' ⟨ρ', S', G', k1, k2⟩
   | ret => injection h2 with h2; injection h2 with e1 e2; subst e1; subst e2; exact hk a' w' ⟨ρ', S', G', k1, k2⟩
  ·cases h
 | .cond c x y, l, h => by
  refine OK.xD ?_
  simp only [xb] at h
  split at h
  ·rename_i c' x' y' e; rw [e]
   simp only [Bool.and_eq_true] at h
   obtain ⟨⟨c1, c2⟩, c3⟩ := h
   intro fuel ρ S G σ a w ex σ' hr hc Q hk
   simp only [yB, Option.bind_eq_some_iff] at hc
   obtain ⟨v, hv', h2⟩ := hc
   cases v with
   | bool t =>
    have he := (hr.1.zM c1 hv' rfl).vn
    refine wp_cond he ?_
    cases t with
    | true => exact u5 hv hC hI x c2 fuel ρ S G σ a w ex σ' hr (by simpa using h2) Q hk
    | false => exact u5 hv hC hI y c3 fuel ρ S G σ a w ex σ' hr (by simpa using h2) Q hk
   | _ => simp at h2
  ·cases h
 | .block id b, l, h => by
  refine OK.xD ?_
  simp only [xb] at h
  split at h
  ·rename_i id' b' e; rw [e]
   simp only [Bool.and_eq_true, beq_iff_eq] at h
   obtain ⟨rfl, h⟩ := h
   intro fuel ρ S G σ a w ex σ' hr hc Q hk
   simp only [yB, Option.map_eq_some_iff] at hc
   obtain ⟨⟨ex1, σ1⟩, h1, h2⟩ := hc
   refine wp_block (u5 hv hC hI b h fuel ρ S G σ a w ex1 σ1 hr h1 _ fun a' w' hA => ?_)
   cases ex1 with
   | normal => simp at h2; obtain ⟨rfl, rfl⟩ := h2; exact hk a' w' hA
   | ret => simp at h2; obtain ⟨rfl, rfl⟩ := h2; exact hk a' w' hA
   | exit i =>
    simp only [oV, Exit.inBlock]
    dsimp only at h2
    by_cases hi : i = id
    ·subst hi
     simp at h2; obtain ⟨rfl, rfl⟩ := h2
     rw [if_pos rfl]; exact hk a' w' hA
    ·rw [if_neg (by simp [hi])] at h2
     injection h2 with e1 e2; subst e1; subst e2
     rw [if_neg hi]; exact hk a' w' hA
  ·cases h
 | .loop b, l, h => by
  refine OK.xD ?_
  simp only [xb] at h
  split at h
  ·rename_i b' e; rw [e]
   have hb : OK P C im impl vm nt b b' := u5 hv hC hI b h
   intro fuel ρ S G σ a w ex σ' hr hc Q hk
   simp only [yB] at hc
   refine wp_loop_rounds fuel ?_
   have key : ∀ (n : Nat) ρ S G σ a w, CR P vm nt ρ S G σ a w → tl (yB C im impl fuel b') n σ = some (ex, σ') →
    (∀ a' w', (∃ ρ' S' G', CR P vm nt ρ' S' G' σ' a' w' ∧ Pr w S G ρ w' S' G' ρ') → Q (oV ex) a' w') → Code.rounds P b Q n a w := by
    intro n
    induction n with
    | zero => intro ρ S G σ a w _ hc; simp [tl] at hc
    | succ n ih =>
     intro ρ S G σ a w hr hc hk
     simp only [tl, Option.bind_eq_some_iff] at hc
     obtain ⟨⟨ex1, σ1⟩, h1, h2⟩ := hc
     rw [rounds_succ]
     refine hb fuel ρ S G σ a w ex1 σ1 hr h1 _ fun a' w' ⟨ρ', S', G', k1, k2⟩ => ?_
     cases ex1 with
     | normal => exact ih ρ' S' G' σ1 a' w' k1 h2 fun a2 w2 ⟨ρ2, S2, G2, m1, m2⟩ => hk a2 w2 ⟨ρ2, S2, G2, m1, k2.trans m2⟩
     | exit id => injection h2 with h2; injection h2 with e1 e2; subst e1; subst e2; exact hk a' w' ⟨ρ', S', G', k1, k2⟩
     | ret => injection h2 with h2; injection h2 with e1 e2; subst e1; subst e2; exact hk a' w' ⟨ρ', S', G', k1, k2⟩
   exact key fuel ρ S G σ a w hr hc hk
  ·cases h
 | .exit id, l, h => by
  refine OK.xD ?_
  simp only [xb] at h
  split at h
  ·rename_i id' e; rw [e]
   simp only [beq_iff_eq] at h; subst h
   intro fuel ρ S G σ a w ex σ' hr hc Q hk
   simp only [yB, Option.some.injEq, Prod.mk.injEq] at hc
   obtain ⟨rfl, rfl⟩ := hc
   exact wp_exit (hk _ _ ⟨ρ, S, G, hr, Pr.refl ..⟩)
  ·cases h
 | .ret, l, h => by
  refine OK.xD ?_
  simp only [xb] at h
  split at h
  ·rename_i e; rw [e]
   intro fuel ρ S G σ a w ex σ' hr hc Q hk
   simp only [yB, Option.some.injEq, Prod.mk.injEq] at hc
   obtain ⟨rfl, rfl⟩ := hc
   exact wp_ret (hk _ _ ⟨ρ, S, G, hr, Pr.refl ..⟩)
  ·cases h
 | .rangeFunc .., l, h => by
  refine OK.xD ?_
  simp only [xb] at h
  split at h
  ·rename_i e; rw [e]; intro fuel ρ S G σ a w ex σ' hr hc; simp [yB] at hc
  ·cases h
 | .label _, l, h => by
  refine OK.xD ?_
  simp only [xb] at h
  split at h
  ·rename_i e; rw [e]; intro fuel ρ S G σ a w ex σ' hr hc; simp [yB] at hc
  ·cases h
 | .goto _, l, h => by
  refine OK.xD ?_
  simp only [xb] at h
  split at h
  ·rename_i e; rw [e]; intro fuel ρ S G σ a w ex σ' hr hc; simp [yB] at hc
  ·cases h
 | .refuse _, l, h => by
  refine OK.xD ?_
  simp only [xb] at h
  split at h
  ·rename_i e; rw [e]; intro fuel ρ S G σ a w ex σ' hr hc; simp [yB] at hc
  ·cases h
end Go.L
namespace Go.L
open Go
variable {P : Program} {vm : List Nat} {lm : List (Option Nat)} {ρ ρ' : List Nat} {S S' : Nat → Nat → Prop} {G G' : Nat → Cl} {σ σ' : RS} {a : Act} {w w' : World}
variable {C : xV} {im : TypeId → String → Option FuncId} {impl : TypeId → TypeId → Bool}
def tL (vm : List Nat) (init : List (Option Nat)) (np nt : Nat) : Bool :=
 ue vm && vm.all (fun t => decide (t < nt)) && decide (np ≤ nt) && init.length == vm.length && (vm.zip init).all fun p => match p.2 with
  | none => true
  | some i => i == p.1
theorem CR.start {init : List (Option Nat)} {np nt : Nat} (hc : tL vm init np nt = true) {st : List zt} (h : vJ P w S G ρ st) {args : List LVal} {cargs : List Value} (hV : VL w S ρ args cargs) (hs : ∀ u ∈ args, u.simple = true) (hl : args.length = np) :
 CR P vm nt ρ S G { vars := zc init args, st := st, rs := [] } { tmps := (⟨cargs⟩ : Array Value) ++ Array.replicate (nt - (⟨cargs⟩ : Array Value).size) undef, defers := [] } w := by
 simp only [tL, Bool.and_eq_true, decide_eq_true_eq, beq_iff_eq] at hc
 obtain ⟨⟨⟨⟨c1, c2⟩, c3⟩, c4⟩, c5⟩ := hc
 have hcl : cargs.length = np := by rw [← hV.length, hl]
 have hsz : ((⟨cargs⟩ : Array Value) ++ Array.replicate (nt - (⟨cargs⟩ : Array Value).size) undef).size = nt := by simp; omega
 have hvt : ∀ (k t : Nat), vm[k]? = some t → t < nt := fun k t hk => by simpa using List.all_eq_true.1 c2 t (List.mem_of_getElem? hk)
 refine ⟨?_, rfl, hsz⟩
 exact {
  defers := rfl
  vsz := fun k t hk => by rw [hsz]; exact hvt k t hk
  lsz := fun i t hi => by simp at hi
  swf := h.swf
  len := h.len
  rho := h.rho
  st := h.st
  vars := fun k v hv => by
   simp only [zc, List.getElem?_map, Option.map_eq_some_iff] at hv
   obtain ⟨o, ho, hv⟩ := hv
   have hkl : k < vm.length := by rw [← c4]; exact (List.getElem?_eq_some_iff.1 ho).1
   obtain ⟨t, ht⟩ : ∃ t, vm[k]? = some t := ⟨vm[k], List.getElem?_eq_getElem hkl⟩
   refine ⟨t, ht, by rw [hsz]; exact hvt k t ht, ?_⟩
   have hz : (t, o) ∈ vm.zip init := List.mem_of_getElem? (i := k) (by rw [List.getElem?_zip_eq_some]; exact ⟨ht, ho⟩)
   have hto := List.all_eq_true.1 c5 _ hz
   cases o with
   | none =>
    simp at hv; subst hv
    exact (At.simple rfl).2 .undef
   | some i =>
    simp only [beq_iff_eq] at hto
    subst hto
    cases hai : args[i]? with
    | none =>
     simp [hai] at hv; subst hv
     exact (At.simple rfl).2 .undef
    | some u =>
     simp [hai] at hv; subst hv
     obtain ⟨c, hcg, hcv⟩ := hV.get i u hai
     have hsu := hs u (List.mem_of_getElem? hai)
     have hget : ((⟨cargs⟩ : Array Value) ++ Array.replicate (nt - (⟨cargs⟩ : Array Value).size) undef).getD i undef = c := by
      have hlt := (List.getElem?_eq_some_iff.1 hcg).1
      rw [Array.getD_eq_getD_getElem?, Array.getElem?_append_left (by simpa using hlt)]
      simp [hcg]
     rw [hget]
     exact (At.simple hsu).2 hcv
  rs := fun i v hv => by simp at hv }
def wj (P : Program) (vm : List Nat) : List ResultVar → List qo → Bool
 | [], [] => true
 | .tmp t :: rs, .var k :: ls => vm[k]? == some t && wj P vm rs ls
 | .cell t ty :: rs, .cell k n agg :: ls => vm[k]? == some t && ry P ty agg n && wj P vm rs ls
 | _, _ => false
theorem Rel.moveVar (h : Rel P vm [] ρ S G σ a w) (hn : σ.uy) {k : Nat} {v : LVal} (hv : σ.vars[k]? = some v) (hnt : ∀ l, v ≠ .tup l) (c : Nat) :
 ∃ t G', vm[k]? = some t ∧ Rel P vm [] ρ S G' { σ with vars := σ.vars.set k .undef } a w ∧ At1 P w S G' ρ yr (.yd, c) v (a.tmps.getD t undef) ∧ Pr w S G ρ w S G' ρ ∧
  ∀ bl c' e x, G bl = .arr (.yd, c') e x → G' bl = G bl := by
 obtain ⟨t, h1, h2, h3⟩ := h.vars k v hv
 have h3 := (At.nt hnt).1 h3
 have hu := h.oT hn k
 by_cases hs : v.simple = true
 ·exact ⟨t, G, h1, hu, (At1.simple hs).2 ((At1.simple hs).1 h3), Pr.refl .., fun _ _ _ _ _ => rfl⟩
 ·cases v with
  | vs b o n xs =>
   cases o with
   | own e x =>
    obtain ⟨hb0, b0, cap, cur, z1, z2, z3, z4, z5, z6, z7, z8, z9, z10⟩ := h3
    have hne : ∀ bl l' e' x', G bl = .arr l' e' x' → l' ≠ (.var k, 0) → wO G b0 (.yd, c) (xs.length * n) x bl = G bl := by
     intro bl l' e' x' hg hl
     unfold wO
     split
     ·rename_i hbl; subst hbl; rw [z8] at hg; injection hg with g1; exact absurd g1.symm hl
     ·rfl
    have hbox : ∀ bl id, G bl = .box id → wO G b0 (.yd, c) (xs.length * n) x bl = G bl := by
     intro bl id hg
     unfold wO
     split
     ·rename_i hbl; subst hbl; rw [z8] at hg; cases hg
     ·rfl
    refine ⟨t, wO G b0 (.yd, c) (xs.length * n) x, h1, ?_, ⟨hb0, b0, cap, cur, z1, z2, z3, z4, z5, z6, z7, by simp [wO], z9, z10⟩, ?_, fun bl c' e' x' hg => hne bl _ _ _ hg (by simp)⟩
    ·exact {
      defers := hu.defers
      vsz := hu.vsz
      lsz := hu.lsz
      swf := {
       lt := h.swf.lt
       fresh := fun bl hbl => by
        unfold wO
        split
        ·rename_i hb; subst hb
         have := h.swf.fresh _ hbl
         rw [z8] at this; cases this
        ·exact h.swf.fresh bl hbl
       box := fun bl o id hS hg => by
        unfold wO at hg
        split at hg
        ·cases hg
        ·exact h.swf.box bl o id hS hg
       arr := fun bl o l' e' x' hS hg => by
        unfold wO at hg
        split at hg
        ·rename_i hb; subst hb
         injection hg with g1 g2 g3; subst g2; subst g3
         exact h.swf.arr _ o _ _ _ hS z8
        ·exact h.swf.arr bl o _ _ _ hS hg }
      len := hu.len
      rho := hu.rho
      st := fun id ob hob => (hu.st id ob hob).yb (Ext.refl _ _) (zB.refl _) (fun bl hg => ⟨rfl, hbox bl _ hg⟩) (fun bl off c e' x' hg => ⟨rfl, hne bl _ _ _ hg (by simp)⟩)
      vars := fun j u hj => by
       by_cases hjk : k = j
       ·subst hjk
        have hlt := (List.getElem?_eq_some_iff.1 hv).1
        rw [List.getElem?_set] at hj
        simp [hlt] at hj
        subst hj
        exact ⟨t, h1, h2, (At.simple rfl).2 .undef⟩
       ·rw [List.getElem?_set_ne hjk] at hj
        obtain ⟨t', q1, q2, q3⟩ := h.vars j u hj
        exact ⟨t', q1, q2, q3.yb (Ext.refl _ _) (zB.refl _) (fun bl c e' x' hg => ⟨rfl, hne bl _ _ _ hg (by simp; omega)⟩) (fun _ _ _ h => h)⟩
      rs := fun i u hi => by
       rcases hu.rs i u hi with h0 | ⟨t', q1, _⟩
       ·exact .inl h0
       ·simp at q1 }
    ·refine ⟨rfl, rfl, rfl, Nat.le_refl _, Ext.refl _ _, zB.refl _, fun bl _ hg => ⟨rfl, ?_⟩, fun _ _ h => .inl h⟩
     unfold wO
     split
     ·rename_i hb; subst hb; rw [z8] at hg; cases hg
     ·exact hg
   | pk p => exact (h3.2).elim
   | sh => exact absurd rfl hs
   | full => exact absurd rfl hs
  | tup l => exact absurd rfl (hnt l)
  | _ => exact absurd rfl hs
theorem gobj_pend {id bl : Nat} {l : sA} {e : Nat} {x : Bool} (h : G bl = .arr l e x) (hl : l.1 = .yd) : pP G id bl = G bl :=
 tK fun off c e' x' hg => by rw [h] at hg; injection hg with h1; rw [h1] at hl; cases hl
def sI (tmps : Array Value) : ResultVar → Sem Value
 | .tmp t => Pure.pure (tmps.getD t undef)
 | .cell a t => do loadVar t (← asAddr (tmps.getD a undef))
theorem res1_ok (h : Rel P vm [] ρ S G σ a w) (hn : σ.uy) {rv : ResultVar} {r : qo} (hc : wj P vm [rv] [r] = true) {v : LVal} (hr : uS σ r = some (v, σ')) (hnt : ∀ l, v ≠ .tup l) (c : Nat) :
 ∃ S' G' cv, Rel P vm [] ρ S' G' σ' a w ∧ σ'.uy ∧ (sI a.tmps rv).run P w = .ok cv w ∧ At1 P w S' G' ρ yr (.yd, c) v cv ∧ Pr w S G ρ w S' G' ρ ∧
  (∀ bl c' e x, G bl = .arr (.yd, c') e x → G' bl = G bl) ∧ Ext S w S' w := by
 cases r with
 | var k =>
  cases rv with
  | tmp t =>
   simp only [wj, Bool.and_true, beq_iff_eq] at hc
   simp only [uS, Option.map_eq_some_iff] at hr
   obtain ⟨u, hu, e⟩ := hr
   injection e with e1 e2; subst e1; subst e2
   obtain ⟨t', G', q1, q2, q3, q4, q5⟩ := h.moveVar hn hu hnt c
   rw [hc] at q1; injection q1 with q1; subst q1
   exact ⟨S, G', _, q2, hn, rfl, q3, q4, q5, Ext.refl _ _⟩
  | cell t ty => simp [wj] at hc
 | cell k n agg =>
  cases rv with
  | tmp t => simp [wj] at hc
  | cell t ty =>
   simp only [wj, Bool.and_true, Bool.and_eq_true, beq_iff_eq] at hc
   obtain ⟨hc1, hc2⟩ := hc
   simp only [uS, Option.bind_eq_some_iff] at hr
   obtain ⟨p, hp, hr⟩ := hr
   cases p with
   | ptr id off =>
    dsimp only at hr
    cases hst : σ.st[id]? with
    | none => simp [hst] at hr
    | some ob =>
     cases ob with
     | cells et cs =>
      simp only [hst, Option.map_eq_some_iff] at hr
      obtain ⟨u, hu, e⟩ := hr
      injection e with e1 e2; subst e1; subst e2
      obtain ⟨t', h1, h2, h3⟩ := h.vars k _ hp
      rw [hc1] at h1; injection h1 with h1; subst h1
      obtain ⟨b, hb, ev⟩ := ((At.simple (v := .ptr id off) rfl).1 h3).sL
      obtain ⟨k1, k2, b', cc, m1, m2, m3, m4⟩ := h.downObjX hst
      obtain rfl : b = b' := by rw [hb] at m1; exact Option.some.inj m1
      have hDV : VL w (oA S G id) ρ (cs.map LVal.soft) (cc.toList.take cs.length) := by
       refine VL.of (by simp; omega) (fun j y hj => ?_)
       simp only [List.getElem?_map, Option.map_eq_some_iff] at hj
       obtain ⟨z, hz, rfl⟩ := hj
       obtain ⟨cv, q1, q2, _⟩ := m4 j z hz
       have hlt := (List.getElem?_eq_some_iff.1 hz).1
       exact ⟨cv, by rw [List.getElem?_take, if_pos hlt]; simpa using q1, LVal.soft_V q2⟩
      have hDp : (cs.map LVal.soft).all LVal.plain = true := VL.rR fun y hy => by
       obtain ⟨j, hj, e⟩ := List.getElem_of_mem hy
       obtain ⟨_, _, _, q3, _⟩ := m4 j y (by rw [List.getElem?_eq_getElem hj, e])
       exact q3
      have hle : off + n ≤ (cs.map LVal.soft).length := by
       unfold wF at hu
       split at hu
       ·assumption
       ·cases hu
      have hle' : off + n ≤ cs.length := by simpa using hle
      have hrun := vL (P := P) (w := w) hc2 (b := b) (off := off) (cs := (((cc.toList.take cs.length).drop off).take n)) (by simp; omega) (fun j y hj => by
       rw [vV m2]
       rw [List.getElem?_take] at hj
       split at hj
       ·rw [List.getElem?_drop, List.getElem?_take] at hj
        split at hj
        ·simpa using hj
        ·cases hj
       ·cases hj)
      have hread : (sI a.tmps (.cell t ty)).run P w = .ok (if agg then .agg ⟨((cc.toList.take cs.length).drop off).take n⟩ else (((cc.toList.take cs.length).drop off).take n).getD 0 undef) w := by
       show (do loadVar ty (← asAddr (a.tmps.getD t undef)) : Sem Value).run P w = _
       rw [ev]
       simp only [Sem.run_bind, asAddr, Sem.run_pure, Result.andThen_ok]
       exact hrun
      have hVd := (hDV.split off).2.split n
      refine ⟨oA S G id, pP G id, _, k1, hn, hread, ?_, k2, fun bl c' e x hg => gobj_pend hg rfl, k2.ext⟩
      unfold wF at hu
      rw [if_pos hle] at hu
      cases agg with
      | true =>
       simp only [if_true] at hu ⊢
       injection hu with hu; subst hu
       refine (At1.simple rfl).2 (.agg hVd.1 ?_)
       rw [List.all_eq_true] at hDp ⊢
       intro y hy
       exact hDp y (List.mem_of_mem_drop (List.mem_of_mem_take hy))
      | false =>
       simp only [Bool.false_eq_true, if_false] at hu ⊢
       split at hu
       ·rename_i hn1
        subst hn1
        have hu0 : (((cs.map LVal.soft).drop off).take 1)[0]? = some u := by
         rw [List.getElem?_take, if_pos (by omega), List.getElem?_drop]; exact hu
        obtain ⟨cv, q1, q2⟩ := hVd.1.get 0 u hu0
        have hpu := List.all_eq_true.1 hDp u (List.mem_of_getElem? hu)
        rw [List.getD_eq_getElem?_getD, q1]
        exact (At1.simple (LVal.zO hpu)).2 q2
       ·cases hu
     | _ => simp [hst] at hr
   | _ => simp at hr
end Go.L
namespace Go.L
open Go
variable {P : Program} {vm : List Nat} {lm : List (Option Nat)} {ρ ρ' : List Nat} {S S' : Nat → Nat → Prop} {G G' : Nat → Cl} {σ σ' : RS} {a : Act} {w w' : World}
variable {C : xV} {im : TypeId → String → Option FuncId} {impl : TypeId → TypeId → Bool}
theorem isTup_nt {v : LVal} (h : v.vE = false) : ∀ l, v ≠ .tup l := by
 rintro l rfl; simp [LVal.vE] at h
theorem nn {r : qo} {v : LVal} (h : xY σ r = some (v, σ')) : uS σ r = some (v, σ') ∧ ∀ l, v ≠ .tup l := by
 simp only [xY, Option.bind_eq_some_iff] at h
 obtain ⟨u, h1, h2⟩ := h
 split at h2
 ·cases h2
 ·rename_i hn
  injection h2 with h2; subst h2
  exact ⟨h1, isTup_nt (by simpa using hn)⟩
theorem mE : ∀ {rvs : List ResultVar} {rs : List qo} {i : Nat} {σ σ' : RS} {S : Nat → Nat → Prop} {G : Nat → Cl} {l : List LVal},
 Rel P vm [] ρ S G σ a w → σ.uy → wj P vm rvs rs = true → xB σ rs = some (l, σ') →
 ∃ S' G' cs, Rel P vm [] ρ S' G' σ' a w ∧ σ'.uy ∧ (rvs.mapM (sI a.tmps)).run P w = .ok cs w ∧ l.length = cs.length ∧
  (∀ (j : Nat) (u : LVal), l[j]? = some u → (∀ l', u ≠ .tup l') ∧ ∃ cu, cs[j]? = some cu ∧ At1 P w S' G' ρ yr (.yd, i + j) u cu) ∧ Pr w S G ρ w S' G' ρ ∧
  (∀ bl c' e x, G bl = .arr (.yd, c') e x → G' bl = G bl)
 | [], [], i, σ, σ', S, G, l, h, hn, hc, hr => by
  simp only [xB, Option.some.injEq, Prod.mk.injEq] at hr
  obtain ⟨rfl, rfl⟩ := hr
  exact ⟨S, G, [], h, hn, rfl, rfl, fun j u hj => by simp at hj, Pr.refl .., fun _ _ _ _ _ => rfl⟩
 | [], r :: rs, i, σ, σ', S, G, l, h, hn, hc, hr => by simp [wj] at hc
 | .tmp t :: rvs, [], i, σ, σ', S, G, l, h, hn, hc, hr => by simp [wj] at hc
 | .cell t ty :: rvs, [], i, σ, σ', S, G, l, h, hn, hc, hr => by simp [wj] at hc
 | rv :: rvs, r :: rs, i, σ, σ', S, G, l, h, hn, hc, hr => by
  have hc1 : wj P vm [rv] [r] = true ∧ wj P vm rvs rs = true := by
   cases rv <;> cases r <;> simp_all [wj]
  simp only [xB, Option.bind_eq_some_iff, Option.map_eq_some_iff] at hr
  obtain ⟨⟨v, σ1⟩, h1, ⟨l2, σ2⟩, h2, h3⟩ := hr
  injection h3 with e1 e2; subst e1; subst e2
  obtain ⟨h1, hnt⟩ := nn h1
  obtain ⟨S1, G1, cv, k1, k2, k3, k4, k5, k6, k7⟩ := res1_ok h hn hc1.1 h1 hnt i
  obtain ⟨S2, G2, cs, m1, m2, m3, m4, m5, m6, m7⟩ := mE (i := i + 1) k1 k2 hc1.2 h2
  refine ⟨S2, G2, cv :: cs, m1, m2, ?_, by simp [m4], ?_, k5.trans m6, fun bl c' e x hg => ?_⟩
  ·simp only [List.mapM_cons, Sem.run_bind, k3, Result.andThen_ok, m3, Sem.run_pure]
  ·intro j u hj
   cases j with
   | zero =>
    simp at hj; subst hj
    exact ⟨hnt, cv, rfl, k4.yb m6.ext m6.rho (fun b e x hg => ⟨rfl, m7 b _ e x hg⟩) (fun _ _ _ h => h)⟩
   | succ j =>
    obtain ⟨q1, cu, q2, q3⟩ := m5 j u (by simpa using hj)
    exact ⟨q1, cu, by simpa using q2, by rw [show i + (j + 1) = i + 1 + j by omega]; exact q3⟩
  ·have := k6 bl c' e x hg
   rw [m7 bl c' e x (this.trans hg), this]
theorem qL : ∀ {rvs : List ResultVar} {rs : List qo}, wj P vm rvs rs = true → rvs.length = rs.length
 | [], [], _ => rfl
 | [], r :: rs, h => by simp [wj] at h
 | .tmp t :: rvs, [], h => by simp [wj] at h
 | .cell t ty :: rvs, [], h => by simp [wj] at h
 | .tmp t :: rvs, .var k :: rs, h => by simp [wj] at h; simp [qL h.2]
 | .cell t ty :: rvs, .cell k n agg :: rs, h => by simp [wj] at h; simp [qL h.2]
 | .tmp t :: rvs, .cell k n agg :: rs, h => by simp [wj] at h
 | .cell t ty :: rvs, .var k :: rs, h => by simp [wj] at h
theorem rl {fn : Func} {tmps : Array Value} {cs : List Value} (h : (fn.results.toList.mapM (sI tmps)).run P w = .ok cs w) :
 (results fn tmps).run P w = .ok (if h : (⟨cs⟩ : Array Value).size = 1 then (⟨cs⟩ : Array Value)[0] else .tuple ⟨cs⟩) w := by
 have hf : (fun r : ResultVar => (match r with
  | .tmp t => (pure (tmps.getD t undef) : Sem Value)
  | .cell a t => do loadVar t (← asAddr (tmps.getD a undef)))) = sI tmps := by
  funext r; cases r <;> rfl
 have e : results fn tmps = (fn.results.mapM (sI tmps) >>= fun vs => pure (if h : vs.size = 1 then vs[0] else .tuple vs)) := by
  rw [← hf]; rfl
 rw [e]
 simp only [Array.mapM_eq_mapM_toList, map_eq_pure_bind, Sem.run_bind, h, Result.andThen_ok, Sem.run_pure]
theorem lE (h : Rel P vm [] ρ S G σ a w) (hn : σ.uy) {fn : Func} {rs : List qo} (hc : wj P vm fn.results.toList rs = true) {v : LVal} (hr : vP σ rs = some (v, σ')) :
 ∃ S' G' cv, Rel P vm [] ρ S' G' σ' a w ∧ (results fn a.tmps).run P w = .ok cv w ∧ At P w S' G' ρ yr .yd v cv ∧ Pr w S G ρ w S' G' ρ := by
 have hlen := qL hc
 have key : ∀ (l : List LVal), xB σ rs = some (l, σ') → rs.length ≠ 1 → v = .tup l →
  ∃ S' G' cv, Rel P vm [] ρ S' G' σ' a w ∧ (results fn a.tmps).run P w = .ok cv w ∧ At P w S' G' ρ yr .yd v cv ∧ Pr w S G ρ w S' G' ρ := by
  intro l hra hne hv
  subst hv
  obtain ⟨S', G', cs, m1, m2, m3, m4, m5, m6, m7⟩ := mE (i := 1) h hn hc hra
  have hl : l.length = rs.length := by
   clear m5 m4 m3 hc hlen hr
   have : ∀ {rs : List qo} {σ σ' : RS} {l}, xB σ rs = some (l, σ') → l.length = rs.length := by
    intro rs
    induction rs with
    | nil => intro σ σ' l h; simp [xB] at h; simp [h.1]
    | cons r rs ih =>
     intro σ σ' l h
     simp only [xB, Option.bind_eq_some_iff, Option.map_eq_some_iff] at h
     obtain ⟨u, _, p, h2, h3⟩ := h
     injection h3 with e1 e2; subst e1
     simp [ih (σ := u.2) (σ' := p.2) (l := p.1) h2]
   exact this hra
  refine ⟨S', G', .tuple ⟨cs⟩, m1, ?_, ⟨cs, rfl, m4, fun c u hu => ?_⟩, m6⟩
  ·rw [rl m3, dif_neg (by simp; omega)]
  ·obtain ⟨q1, cu, q2, q3⟩ := m5 c u hu
   exact ⟨q1, cu, q2, by rw [Nat.add_comm]; exact q3⟩
 match rs, hr, hc, key, hlen with
 | [], hr, hc, key, hlen =>
  simp only [vP, Option.map_eq_some_iff] at hr
  obtain ⟨p, h1, h2⟩ := hr
  injection h2 with e1 e2; subst e2
  exact key p.1 h1 (by simp) e1.symm
 | [r], hr, hc, key, hlen =>
  have hr' : xY σ r = some (v, σ') := hr
  obtain ⟨h1, hnt⟩ := nn hr'
  obtain ⟨rv, hrv⟩ : ∃ rv, fn.results.toList = [rv] := by
   cases hx : fn.results.toList with
   | nil => rw [hx] at hlen; simp at hlen
   | cons x t =>
    rw [hx] at hlen
    cases t with
    | nil => exact ⟨x, rfl⟩
    | cons y t => simp at hlen
  rw [hrv] at hc
  obtain ⟨S1, G1, cv, k1, k2, k3, k4, k5, k6, k7⟩ := res1_ok h hn hc h1 hnt 0
  refine ⟨S1, G1, cv, k1, ?_, (At.nt hnt).2 k4, k5⟩
  rw [rl (cs := [cv]) (by rw [hrv]; simp [List.mapM_cons, Sem.run_bind, k3, Sem.run_pure])]
  rfl
 | r :: r2 :: rs, hr, hc, key, hlen =>
  have hr' : (xB σ (r :: r2 :: rs)).map (fun p => (LVal.tup p.1, p.2)) = some (v, σ') := hr
  simp only [Option.map_eq_some_iff] at hr'
  obtain ⟨p, h1, h2⟩ := hr'
  injection h2 with e1 e2; subst e2
  exact key p.1 h1 (by simp) e1.symm
theorem pfs_get : ∀ {l : List LVal}, LVal.pfs l = true → ∀ (i : Nat) (v : LVal), l[i]? = some v → v.pf = true
 | [], _, i, v, h => by simp at h
 | x :: l, hl, i, v, h => by
  simp only [LVal.pfs, Bool.and_eq_true] at hl
  cases i with
  | zero => simp at h; subst h; exact hl.1
  | succ i => exact pfs_get hl.2 i v (by simpa using h)
theorem At1.re {pk l v cv} (h : At1 P w S G ρ pk l v cv) (hw : v.pf = true) : At1 P w S G [] pk l v cv := by
 by_cases hs : v.simple = true
 ·exact (At1.simple hs).2 (((At1.simple hs).1 h).re hw)
 ·cases v with
  | vs b o n xs =>
   cases o with
   | own e x => exact h
   | pk p => exact h
   | _ => simp [LVal.simple] at hs
  | tup l => exact V.re h hw
  | _ => simp [LVal.simple] at hs
theorem At.re {pk b v cv} (h : At P w S G ρ pk b v cv) (hw : v.pf = true) : At P w S G [] pk b v cv := by
 cases v with
 | tup l =>
  obtain ⟨cs, h1, h2, h3⟩ := h
  refine ⟨cs, h1, h2, fun c u hu => ?_⟩
  obtain ⟨k0, cu, k1, k2⟩ := h3 c u hu
  exact ⟨k0, cu, k1, k2.re (pfs_get (by simpa [LVal.pf] using hw) c u hu)⟩
 | _ => exact (At.nt (by simp)).2 (((At.nt (by simp)).1 h).re hw)
def tj (G : Nat → Cl) : Nat → Cl := fun b => match G b with
 | .arr (.cell id off, c) e x => .arr (.cell id off, c) e x
 | .arr (.yd, c) e x => .arr (.yd, c) e x
 | .arr _ _ _ => .ro
 | c => c
theorem mU {b id} : tj G b = .box id ↔ G b = .box id := by
 unfold tj
 cases h : G b with
 | ro => simp
 | box i => simp
 | arr l e x => obtain ⟨l, c⟩ := l; cases l <;> simp
theorem si {b l e x} (h : tj G b = .arr l e x) : G b = .arr l e x ∧ (sA.uG l ∨ l.1 = .yd) := by
 unfold tj at h
 cases hg : G b with
 | ro => simp [hg] at h
 | box i => simp [hg] at h
 | arr l' e' x' =>
  obtain ⟨l', c⟩ := l'
  cases l' <;> simp [hg] at h
  ·obtain ⟨rfl, rfl, rfl⟩ := h
   exact ⟨rfl, .inl ⟨_, _, rfl⟩⟩
  ·obtain ⟨rfl, rfl, rfl⟩ := h
   exact ⟨rfl, .inr rfl⟩
theorem gdrop_cell {b id off c e x} (h : G b = .arr (.cell id off, c) e x) : tj G b = G b := by unfold tj; rw [h]
theorem nH {b c e x} (h : G b = .arr (.yd, c) e x) : tj G b = G b := by unfold tj; rw [h]
theorem nG {b} (h : G b = .ro) : tj G b = .ro := by unfold tj; rw [h]
theorem SWf.drop (h : SWf w S G) : SWf w S (tj G) where
 lt := h.lt
 fresh b hb := nG (h.fresh b hb)
 box b o id hs hg := h.box b o id hs (mU.1 hg)
 arr b o l e x hs hg := h.arr b o l e x hs (si hg).1
theorem Rel.drop (h : Rel P vm lm ρ S G σ a w) : vJ P w S (tj G) ρ σ.st where
 swf := h.swf.drop
 len := h.len
 rho := h.rho
 st id o ho := (h.st id o ho).yb (Ext.refl _ _) (zB.refl _) (fun b hb => ⟨rfl, (mU.2 hb).trans hb.symm⟩) (fun bl off c e x hb => ⟨rfl, gdrop_cell hb⟩)
theorem vJ.take {st : List zt} (h : vJ P w S G ρ st) {n : Nat} (h2 : (st.take n).all (zt.within n) = true) : vJ P w S G (ρ.take n) (st.take n) where
 swf := h.swf
 len := by have := h.len; simp; omega
 rho := fun id b hb => by
  rw [List.getElem?_take] at hb
  split at hb
  ·exact h.rho id b hb
  ·cases hb
 st := fun id o ho => by
  have hmem := List.mem_of_getElem? ho
  rw [List.getElem?_take] at ho
  split at ho
  ·rename_i hid
   exact (h.st id o ho).within hid (List.all_eq_true.1 h2 o hmem)
  ·cases ho
theorem vJ.pure (h : SWf w S G) : vJ P w S (fun _ => .ro) [] [] where
 swf := { lt := h.lt, fresh := fun _ _ => rfl, box := fun b o id hs hg => (by cases hg), arr := fun b o l e x hs hg => (by cases hg) }
 len := rfl
 rho := fun id b hb => by simp at hb
 st := fun id o ho => by simp at ho
theorem vJ.ph {st : List zt} (h : vJ P w S G ρ st) {v : LVal} {cv : Value} (hc : SWf w' S' G') (hv : At P w' S' G' [] yr .yd v cv) (hp : Pr w S (fun _ => .ro) [] w' S' G' ρ') :
 vJ P w' S' (vM w.heap.size G G') ρ st ∧ At P w' S' (vM w.heap.size G G') ρ yr .yd v cv ∧ Pr w S G ρ w' S' (vM w.heap.size G G') ρ := by
 have h4 : ∀ b, b < w.heap.size → w'.heap[b]? = w.heap[b]? ∧ G' b = .ro := fun b hb => hp.frame b hb rfl
 have hlt : ∀ b, b < w.heap.size → vM w.heap.size G G' b = G b := fun b hb => by unfold vM; rw [if_pos hb]
 have hsz := hp.size
 have hS : ∀ b o, S' b o → b < w.heap.size → S b o := fun b o hs hb => by
  rcases hp.tC b o hs with h1 | h1 | h1
  ·exact h1
  ·omega
  ·exact absurd rfl h1
 refine ⟨{
  swf := {
   lt := hc.lt
   fresh := fun b hb => by unfold vM; rw [if_neg (by omega), hc.fresh b hb]
   box := fun b o id hs hg => by
    by_cases hb : b < w.heap.size
    ·rw [hlt b hb] at hg; exact h.swf.box b o id (hS b o hs hb) hg
    ·unfold vM at hg
     rw [if_neg hb] at hg
     split at hg <;> cases hg
   arr := fun b o l e x hs hg => by
    by_cases hb : b < w.heap.size
    ·rw [hlt b hb] at hg; exact h.swf.arr b o l e x (hS b o hs hb) hg
    ·unfold vM at hg
     rw [if_neg hb] at hg
     split at hg
     ·rename_i hg'
      injection hg with g1 g2 g3; subst g2; subst g3
      exact hc.arr b o _ _ _ hs hg'
     ·cases hg }
  len := h.len
  rho := fun id b hb => Nat.lt_of_lt_of_le (h.rho id b hb) hsz
  st := fun id o ho => (h.st id o ho).yb hp.ext (zB.refl _) (fun b hg => ⟨(h4 b (h.swf.uu (by rw [hg]; simp))).1, hlt b (h.swf.uu (by rw [hg]; simp))⟩)
   (fun bl off c e x hg => ⟨(h4 bl (h.swf.uu (by rw [hg]; simp))).1, hlt bl (h.swf.uu (by rw [hg]; simp))⟩) }, ?_, ?_⟩
 ·refine hv.yb (Ext.refl _ _) (zB.nil _) (fun bl c e x hg => ⟨rfl, ?_⟩) (fun _ _ _ h => h)
  have hb : ¬ bl < w.heap.size := fun hb => by have := (h4 bl hb).2; rw [hg] at this; cases this
  unfold vM
  rw [if_neg hb, hg]
 ·exact ⟨hp.os, hp.tape, hp.output, hsz, hp.ext, zB.refl _, fun b hb hg => ⟨(h4 b hb).1, (hlt b hb).trans hg⟩, fun b o hs => by
   by_cases hb : b < w.heap.size
   ·exact .inl (hS b o hs hb)
   ·exact .inr (.inl (by omega))⟩
theorem gkill_pend {id bl c e x} (h : G bl = .arr (.yd, c) e x) : vN G id bl = G bl := by unfold vN; rw [h]
theorem Rel.frz1 (h : Rel P vm lm ρ S G σ a w) {id off len esz : Nat} {agg : Bool} {cv : Value} (hv : V w S ρ (.ms id off len esz agg) cv) :
 ∃ S' G', SWf w S' G' ∧ V w S' ρ (qu σ.st id off len esz agg) cv ∧ (qu σ.st id off len esz agg).simple = true ∧ Pr w S G ρ w S' G' ρ ∧ (∀ bl c e x, G bl = .arr (.yd, c) e x → G' bl = G bl) := by
 obtain ⟨b, cap, hb, hcap, hmax, rfl⟩ := hv.pK
 unfold qu
 split
 ·rename_i ty c hst
  split
  ·rename_i hc
   obtain ⟨c1, c2, c3, c4⟩ := hc
   obtain ⟨S', k1, k2, k3⟩ := h.freeze hst hb c2 c3
   have hl : ((c.drop off).take (len * esz)).length = len * esz := by rw [List.length_take, List.length_drop]; omega
   have hpl : ((c.drop off).take (len * esz)).all LVal.plain = true := by
    rw [List.all_eq_true] at c2 ⊢
    exact fun x hx => c2 x (List.mem_of_mem_drop (List.mem_of_mem_take hx))
   obtain ⟨m1, m2⟩ := sT (agg := agg) (esz := esz) (fun ha => by rw [ha] at c4; simpa using c4) len _ hl hpl
   have hlen := qK (agg := agg) (esz := esz) len ((c.drop off).take (len * esz))
   refine ⟨S', _, k1.swf, ?_, rfl, k2, fun bl c e x hg => gkill_pend hg⟩
   have hrow := k3.sub off (len * esz)
   rw [Nat.zero_add] at hrow
   have := V.vs (w := w) (S := S') (ρ := ρ) (o := .sh) (n := esz) (xs := chunks agg esz len ((c.drop off).take (len * esz))) (b := b) (off := off) (cap := cap) (by omega) hmax (fun e => by cases e) m1 (by rw [m2]; exact hrow)
   rw [hlen] at this
   exact this
  ·exact ⟨S, G, h.swf, .undef, rfl, Pr.refl .., fun _ _ _ _ _ => rfl⟩
 ·exact ⟨S, G, h.swf, .undef, rfl, Pr.refl .., fun _ _ _ _ _ => rfl⟩
theorem pq (st : List zt) : ∀ (l : List LVal), (qv st l = l) ∨ ∃ i id off len esz agg, l[i]? = some (.ms id off len esz agg) ∧ qv st l = l.set i (qu st id off len esz agg)
 | [] => .inl rfl
 | v :: r => by
  cases v with
  | ms id off len esz agg => exact .inr ⟨0, id, off, len, esz, agg, rfl, rfl⟩
  | _ =>
   rcases pq st r with h | ⟨i, id, off, len, esz, agg, h1, h2⟩
   ·exact .inl (by simp only [qv, h])
   ·exact .inr ⟨i + 1, id, off, len, esz, agg, h1, by simp only [qv, h2, List.set_cons_succ]⟩
theorem Rel.frz (h : Rel P vm lm ρ S G σ a w) {u : LVal} {cv : Value} (hv : At P w S G ρ yr .yd u cv) : ∃ S' G', SWf w S' G' ∧ At P w S' G' ρ yr .yd (Go.L.freeze σ.st u) cv ∧ Pr w S G ρ w S' G' ρ := by
 cases u with
 | ms id off len esz agg =>
  obtain ⟨S', G', k1, k2, k3, k4, _⟩ := h.frz1 ((At.simple rfl).1 hv)
  exact ⟨S', G', k1, (At.simple k3).2 k2, k4⟩
 | tup l =>
  obtain ⟨cs, h1, h2, h3⟩ := hv
  simp only [Go.L.freeze]
  rcases pq σ.st l with he | ⟨i, id, off, len, esz, agg, e1, e2⟩
  ·rw [he]; exact ⟨S, G, h.swf, ⟨cs, h1, h2, h3⟩, Pr.refl ..⟩
  ·obtain ⟨m1, ci, m2, m3⟩ := h3 i _ e1
   obtain ⟨S', G', k1, k2, k3, k4, k5⟩ := h.frz1 ((At1.simple rfl).1 m3)
   rw [e2]
   have hi := (List.getElem?_eq_some_iff.1 e1).1
   refine ⟨S', G', k1, ⟨cs, h1, by simpa using h2, fun c u hu => ?_⟩, k4⟩
   by_cases hc : i = c
   ·subst hc
    rw [List.getElem?_set] at hu
    simp [hi] at hu
    subst hu
    refine ⟨fun l' e => ?_, ci, m2, (At1.simple k3).2 k2⟩
    rw [e] at k3
    simp [LVal.simple] at k3
   ·rw [List.getElem?_set_ne hc] at hu
    obtain ⟨n1, cu, n2, n3⟩ := h3 c u hu
    exact ⟨n1, cu, n2, n3.yb k4.ext (zB.refl _) (fun bl e x hg => ⟨rfl, k5 bl _ e x hg⟩) (fun _ _ _ h => h)⟩
 | _ => exact ⟨S, G, h.swf, hv, Pr.refl ..⟩
def zn (P : Program) (f : FuncId) (vm : List Nat) (lf : zJ) : Bool :=
 match P.funcs[f]? with
 | some fn => match fn.body with
  | some c => !(fn.name == "runtime.NumGoroutine") && tL vm lf.init lf.nparams fn.ntmps && xb P vm fn.ntmps c lf.code && wj P vm fn.results.toList lf.results
  | none => false
 | none => false
def uW (P : Program) (f : FuncId) (args : List LVal) (st : List zt) (v : LVal) (ost : Option (List zt)) : Prop :=
 vF P f = true ∧ ∀ cargs w S G ρ, vJ P w S G ρ st → sw G → VL w S ρ args cargs → (∀ u ∈ args, u.simple = true) →
  Calls P f ⟨cargs⟩ w fun e w' => ∃ cv, e = .returned cv ∧ vZ P w S G ρ st v ost cv w'
theorem fun_ok (hC : vI P C) (hI : Impl P impl) {f : FuncId} {lf : zJ} (hk : zn P f vm lf = true) {fuel : Nat} {args : List LVal} {st : List zt} {v : LVal} {ost : Option (List zt)}
 (hr : xn (yB C im impl fuel) lf args st = some (v, ost)) : uW P f args st v ost := by
 unfold zn at hk
 cases hf : P.funcs[f]? with
 | none => simp [hf] at hk
 | some fn =>
 cases hb : fn.body with
 | none => simp [hf, hb] at hk
 | some c =>
 simp only [hf, hb, Bool.and_eq_true, Bool.not_eq_true'] at hk
 obtain ⟨⟨⟨k0, k1⟩, k2⟩, k3⟩ := hk
 refine ⟨by simp [vF, hf, hb, k0], ?_⟩
 intro cargs w S G ρ hrel hcell hV hs
 have hv : ue vm = true := by simp only [tL, Bool.and_eq_true] at k1; exact k1.1.1.1.1
 unfold xn at hr
 split at hr
 case isFalse => cases hr
 rename_i hpre
 simp only [Option.bind_eq_some_iff] at hr
 obtain ⟨⟨ex, σ1⟩, h1, h2⟩ := hr
 have h3 : (∀ id, ex ≠ .exit id) ∧ ((vP σ1 lf.results).bind fun v => vD lf.mode st v.1 v.2.st) = some (v, ost) := by
  cases ex with
  | exit id => cases h2
  | normal => exact ⟨by simp, h2⟩
  | ret => exact ⟨by simp, h2⟩
 obtain ⟨hex, h3⟩ := h3
 simp only [Option.bind_eq_some_iff] at h3
 obtain ⟨⟨u, σ2⟩, h4, h5⟩ := h3
 have hgo : ∀ (ρ0 : List Nat) (G0 : Nat → Cl) (st0 : List zt), vJ P w S G0 ρ0 st0 → VL w S ρ0 args cargs → yB C im impl fuel lf.code { vars := zc lf.init args, st := st0, rs := [] } = some (ex, σ1) →
  ∀ R : Ending → World → Prop, (∀ cv w' ρ1 S1 G1 S2 G2 a', Pr w S G0 ρ0 w' S1 G1 ρ1 → Rel P vm [] ρ1 S2 G2 σ2 a' w' → At P w' S2 G2 ρ1 yr .yd u cv → Pr w' S1 G1 ρ1 w' S2 G2 ρ1 → R (.returned cv) w') → Calls P f ⟨cargs⟩ w R := by
  intro ρ0 G0 st0 hc0 hV0 hcode R hR
  refine calls_of_wp hf hb ?_
  refine u5 hv hC hI c k2 fuel ρ0 S G0 _ _ w ex σ1 (CR.start k1 hc0 hV0 hs hpre.1) hcode _ ?_
  rintro a' w' ⟨ρ1, S1, G1, ⟨m1, m2, m3⟩, m4⟩
  have hn : σ1.uy := by intro i b p n xs hi; rw [m2] at hi; simp at hi
  obtain ⟨S2, G2, cv, q1, q2, q3, q4⟩ := lE m1 hn k3 h4
  have : bodyPost P fn R .normal a' w' := ⟨m1.defers, cv, q2, hR cv w' ρ1 S1 G1 S2 G2 a' m4 q1 q3 q4⟩
  cases ex with
  | exit id => exact absurd rfl (hex id)
  | normal => exact this
  | ret => exact this
 by_cases hm : lf.mode.zH = true
 ·rw [if_pos hm] at h1
  have hpf := hpre.2 hm
  refine hgo [] (fun _ => .ro) [] (vJ.pure hrel.swf) (hV.lL hpf) h1 _ ?_
  intro cv w' ρ1 S1 G1 S2 G2 a' p1 p2 p3 p4
  have hfin : ∀ (S3 : Nat → Nat → Prop) (G3 : Nat → Cl) (u' : LVal), SWf w' S3 G3 → At P w' S3 G3 ρ1 yr .yd u' cv → Pr w' S2 G2 ρ1 w' S3 G3 ρ1 → u'.pf = true → v = u' → ost = none → ∃ cv_1, Ending.returned cv = .returned cv_1 ∧ vZ P w S G ρ st v ost cv_1 w' := by
   rintro S3 G3 u' hsw hat3 hp3 hvp rfl rfl
   have hp := (p1.trans p4).trans hp3
   obtain ⟨q1, q2, q3⟩ := hrel.ph hsw (hat3.re hvp) hp
   refine ⟨cv, rfl, ρ, S3, _, q1, q2, q3, fun _ b hb => ⟨(hp.frame b hb rfl).1, by unfold vM; rw [if_pos hb]⟩, fun b l e x hg => ?_⟩
   by_cases hb : b < w.heap.size
   ·unfold vM at hg; rw [if_pos hb] at hg
    exact .inl (hcell b l e x hg)
   ·unfold vM at hg
    rw [if_neg hb] at hg
    split at hg
    ·injection hg with g1 g2 g3; subst g1; exact .inr rfl
    ·cases hg
  cases hpm : lf.mode with
  | pure =>
   rw [hpm] at h5
   simp only [vD] at h5
   split at h5
   ·rename_i hvp
    injection h5 with h5; injection h5 with e1 e2
    exact hfin S2 G2 u p2.swf p3 (Pr.refl ..) hvp e1.symm e2.symm
   ·cases h5
  | pureF =>
   rw [hpm] at h5
   simp only [vD] at h5
   split at h5
   ·rename_i hvp
    injection h5 with h5; injection h5 with e1 e2
    obtain ⟨S3, G3, f1, f2, f3⟩ := p2.frz p3
    exact hfin S3 G3 _ f1 f2 f3 hvp e1.symm e2.symm
   ·cases h5
  | trim => rw [hpm] at hm; simp [zY.zH] at hm
  | yb => rw [hpm] at hm; simp [zY.zH] at hm
 ·rw [if_neg hm] at h1
  refine hgo ρ G st hrel hV h1 _ ?_
  intro cv w' ρ1 S1 G1 S2 G2 a' p1 p2 p3 p4
  have hp := p1.trans p4
  have hd := p2.drop
  have hat : At P w' S2 (tj G2) ρ1 yr .yd u cv := p3.yb (Ext.refl _ _) (zB.refl _) (fun bl c e x hg => ⟨rfl, nH hg⟩) (fun _ _ _ h => h)
  have hpr : Pr w S G ρ w' S2 (tj G2) ρ1 := ⟨hp.os, hp.tape, hp.output, hp.size, hp.ext, hp.rho, fun b hb hg => ⟨(hp.frame b hb hg).1, nG (hp.frame b hb hg).2⟩, hp.tC⟩
  cases hmm : lf.mode with
  | pure => rw [hmm] at hm; simp [zY.zH] at hm
  | pureF => rw [hmm] at hm; simp [zY.zH] at hm
  | yb =>
   rw [hmm] at h5
   simp only [vD, Option.some.injEq, Prod.mk.injEq] at h5
   obtain ⟨e1, e2⟩ := h5; subst e1; subst e2
   exact ⟨cv, rfl, ρ1, S2, _, hd, hat, hpr, (fun e => by cases e), fun b l e x hg => (si hg).2⟩
  | trim =>
   rw [hmm] at h5
   simp only [vD] at h5
   split at h5
   ·rename_i hc
    obtain ⟨c1, c2, c3⟩ := hc
    injection h5 with h5; injection h5 with e1 e2; subst e1; subst e2
    refine ⟨cv, rfl, ρ1.take st.length, S2, _, hd.take c2, hat.within c1, ?_, (fun e => by cases e), fun b l e x hg => (si hg).2⟩
    refine ⟨hpr.os, hpr.tape, hpr.output, hpr.size, hpr.ext, fun id b hb => ?_, hpr.frame, hpr.tC⟩
    have hlt := (List.getElem?_eq_some_iff.1 hb).1
    rw [List.getElem?_take, if_pos (by rw [← hrel.len]; exact hlt)]
    exact hpr.rho id b hb
   ·cases h5
def lp (P : Program) (T : Tbl) : Prop :=
 Impl P T.impl ∧ ∀ f d, T.fns f = some d → match d with
  | .fn lf => ∃ vm, zn P f vm lf = true
  | .rC h => ∀ args st v ost, h args st = some (v, ost) → uW P f args st v ost
theorem vT {T : Tbl} (h : lp P T) : ∀ n, vI P (yG T n)
 | 0 => fun f args st v ost hc => by simp [yG] at hc
 | n + 1 => fun f args st v ost hc => by
  simp only [yG] at hc
  have hd := h.2 f
  cases hf : T.fns f with
  | none => simp [hf] at hc
  | some d =>
   have hd := hd d hf
   cases d with
   | rC g => simp only [hf] at hc; exact hd args st v ost hc
   | fn lf =>
    simp only [hf] at hc
    obtain ⟨vm, hk⟩ := hd
    exact fun_ok (vT h n) h.1 hk hc
end Go.L
namespace Go.L
open Go
def CLe (C C' : xV) : Prop := ∀ f args st r, C f args st = some r → C' f args st = some r
section
variable {C C' : xV} {im : TypeId → String → Option FuncId} {impl : TypeId → TypeId → Bool}
theorem bind_mono {α β} {x : Option α} {f g : α → Option β} {r : β} (h : x.bind f = some r) (hg : ∀ a r, f a = some r → g a = some r) : x.bind g = some r := by
 simp only [Option.bind_eq_some_iff] at h ⊢
 obtain ⟨a, h1, h2⟩ := h
 exact ⟨a, h1, hg _ _ h2⟩
theorem map_mono {α β} {x y : Option α} {f : α → β} {r : β} (h : x.map f = some r) (hg : ∀ r, x = some r → y = some r) : y.map f = some r := by
 simp only [Option.map_eq_some_iff] at h ⊢
 obtain ⟨a, h1, h2⟩ := h
 exact ⟨a, hg _ h1, h2⟩
theorem sU {s : RS} {f : FuncId} {a : List LVal} {st : List zt} (hC : CLe C C') {r} (h : ye s (C f a st) = some r) : ye s (C' f a st) = some r := by
 cases hc : C f a st with
 | none => rw [hc] at h; simp [ye] at h
 | some u => rw [hc] at h; rw [hC _ _ _ _ hc]; exact h
theorem qS (hC : CLe C C') {s : RS} {o : LOp} {r} (h : sem C im impl s o = some r) : sem C' im impl s o = some r := by
 cases o
 case call f args => exact bind_mono h fun a r h => sU hC h
 case yR f args =>
  refine bind_mono h fun a r h => ?_
  split at h
  ·rename_i hp
   rw [if_pos hp]
   cases hc : C f (a.1.map LVal.arg) [] with
   | none => rw [hc] at h; cases h
   | some u => rw [hc] at h; rw [hC _ _ _ _ hc]; exact h
  ·cases h
 case tM x args =>
  refine bind_mono h fun u r h => ?_
  cases u with
  | func f caps => exact bind_mono h fun a r h => sU hC h
  | _ => cases h
 case invoke x name tbl args =>
  refine bind_mono h fun u r h => ?_
  cases u with
  | iface t v => exact bind_mono h fun f r h => bind_mono h fun a r h => sU hC h
  | _ => cases h
 all_goals exact h
theorem mA (hC : CLe C C') {s : RS} {o : zj} {r} (h : step C im impl s o = some r) : step C' im impl s o = some r := by
 unfold step at h ⊢
 split at h
 ·rename_i hg; exact map_mono h fun r h => qS hC h
 ·rename_i g want hg
  refine bind_mono h fun v r h => ?_
  cases v with
  | bool b =>
   dsimp only at h ⊢
   split at h
   ·rename_i hb; rw [if_pos hb]; exact map_mono h fun r h => qS hC h
   ·rename_i hb; rw [if_neg hb]; exact h
  | _ => exact h
theorem tS (hC : CLe C C') : ∀ {l : List zj} {s : RS} {r}, yC C im impl l s = some r → yC C' im impl l s = some r
 | [], s, r, h => h
 | o :: l, s, r, h => by
  simp only [yC, Option.bind_eq_some_iff] at h ⊢
  obtain ⟨u, h1, h2⟩ := h
  exact ⟨u, mA hC h1, tS hC h2⟩
theorem mC (hC : CLe C C') {s : RS} {o : zj} {r} (h : x8 C im impl s o = some r) : x8 C' im impl s o = some r := by
 unfold x8 at h ⊢
 split at h
 ·rename_i h1
  rw [if_pos h1]
  split at h
  ·rename_i h2; rw [if_pos h2]; exact qS hC h
  ·cases h
 ·rename_i h1
  rw [if_neg h1]; exact qS hC h
theorem oZ (hC : CLe C C') {s : RS} {o : zj} {r} (h : ya C im impl s o = some r) : ya C' im impl s o = some r := by
 unfold ya at h ⊢
 split at h
 ·cases h
 ·rename_i h0
  rw [if_neg h0]
  split at h
  ·exact map_mono h fun r h => mC hC h
  ·refine bind_mono h fun v r h => ?_
   cases v with
   | bool b =>
    dsimp only at h ⊢
    split at h
    ·rename_i hb; rw [if_pos hb]; exact map_mono h fun r h => mC hC h
    ·rename_i hb; rw [if_neg hb]; exact h
   | tup l => cases l with
    | nil => exact h
    | cons => cases h
   | _ => cases h
theorem tf (hC : CLe C C') : ∀ {l : List zj} {s : RS} {r}, zW C im impl l s = some r → zW C' im impl l s = some r
 | [], s, r, h => h
 | o :: l, s, r, h => by
  simp only [zW, Option.bind_eq_some_iff] at h ⊢
  obtain ⟨u, h1, h2⟩ := h
  exact ⟨u, oZ hC h1, tf hC h2⟩
theorem sO {b b' : RS → Option (yS × RS)} (hb : ∀ s r, b s = some r → b' s = some r) : ∀ {n m : Nat} {s : RS} {r}, n ≤ m → tl b n s = some r → tl b' m s = some r
 | 0, m, s, r, _, h => by simp [tl] at h
 | n + 1, 0, s, r, hle, h => by omega
 | n + 1, m + 1, s, r, hle, h => by
  simp only [tl, Option.bind_eq_some_iff] at h ⊢
  obtain ⟨u, h1, h2⟩ := h
  refine ⟨u, hb _ _ h1, ?_⟩
  split at h2
  ·rename_i hu; exact sO hb (by omega) h2
  ·rename_i hu; exact h2
theorem wH (hC : CLe C C') {n m : Nat} (hnm : n ≤ m) : ∀ {c : zv} {s : RS} {r}, yB C im impl n c s = some r → yB C' im impl m c s = some r
 | .skip, s, r, h => h
 | .region k ops draw, s, r, h => by
  cases draw with
  | true => exact map_mono (x := zW ..) h fun r h => tf hC h
  | false => exact map_mono (x := yC ..) h fun r h => tS hC h
 | .seq a b, s, r, h => by
  simp only [yB, Option.bind_eq_some_iff] at h ⊢
  obtain ⟨u, h1, h2⟩ := h
  refine ⟨u, wH hC hnm h1, ?_⟩
  split at h2
  ·exact wH hC hnm h2
  ·exact h2
 | .cond x a b, s, r, h => by
  simp only [yB] at h ⊢
  refine bind_mono h fun v r h => ?_
  cases v with
  | bool t => cases t <;> exact wH hC hnm h
  | _ => cases h
 | .block id b, s, r, h => map_mono h fun r h => wH hC hnm h
 | .loop b, s, r, h => by
  simp only [yB] at h ⊢
  exact sO (fun s r h => wH hC hnm h) hnm h
 | .exit id, s, r, h => h
 | .ret, s, r, h => h
 | .dead, s, r, h => h
 | .zX ks b, s, r, h => by
  simp only [yB, Option.bind_eq_some_iff] at h ⊢
  obtain ⟨u, h1, h2⟩ := h
  exact ⟨u, wH hC hnm h1, h2⟩
theorem tT {c c' : zv → RS → Option (yS × RS)} {lf : zJ} (hc : ∀ s r, c lf.code s = some r → c' lf.code s = some r) {args : List LVal} {st : List zt} {r} (h : xn c lf args st = some r) : xn c' lf args st = some r := by
 unfold xn at h ⊢
 split at h
 ·rename_i hp
  rw [if_pos hp]
  simp only [Option.bind_eq_some_iff] at h ⊢
  obtain ⟨u, h1, h2⟩ := h
  exact ⟨u, hc _ _ h1, h2⟩
 ·cases h
end
variable {T : Tbl}
theorem nT : ∀ n, CLe (yG T n) (yG T (n + 1))
 | 0 => fun f args st r h => by simp [yG] at h
 | n + 1 => fun f args st r h => by
  rw [yG] at h ⊢
  cases hf : T.fns f with
  | none => simp [hf] at h
  | some d =>
   simp only [hf] at h ⊢
   cases d with
   | rC g => exact h
   | fn lf => exact tT (fun s r h => wH (nT n) (Nat.le_succ n) h) h
theorem ux {n m : Nat} (h : n ≤ m) : CLe (yG T n) (yG T m) := by
 induction h with
 | refl => exact fun _ _ _ _ h => h
 | step _ ih => exact fun f args st r h => nT _ _ _ _ _ (ih _ _ _ _ h)
open Classical in
noncomputable def lim {α : Type} (f : Nat → Option α) : Option α := if h : ∃ n, (f n).isSome then f (Classical.choose h) else none
theorem lim_some {α : Type} {f : Nat → Option α} (hm : ∀ n m r, n ≤ m → f n = some r → f m = some r) {r : α} : lim f = some r ↔ ∃ n, f n = some r := by
 unfold lim
 constructor
 ·intro h
  split at h
  ·exact ⟨_, h⟩
  ·cases h
 ·rintro ⟨n, hn⟩
  have hex : ∃ n, (f n).isSome := ⟨n, by rw [hn]; rfl⟩
  rw [dif_pos hex]
  have hs := Classical.choose_spec hex
  obtain ⟨r', hr'⟩ := Option.isSome_iff_exists.1 hs
  rw [hr']
  rcases Nat.le_total n (Classical.choose hex) with hle | hle
  ·have := hm _ _ _ hle hn; rw [hr'] at this; exact this
  ·have := hm _ _ _ hle hr'; rw [hn] at this; exact this.symm
noncomputable def zq (T : Tbl) : xV := fun f args st => lim fun n => yG T n f args st
noncomputable def xE (T : Tbl) (c : zv) (s : RS) : Option (yS × RS) := lim fun n => yB (yG T n) T.im T.impl n c s
theorem xJ {f : FuncId} {args : List LVal} {st : List zt} {r} : zq T f args st = some r ↔ ∃ n, yG T n f args st = some r :=
 lim_some fun n m r h hn => ux h _ _ _ _ hn
theorem yh {c : zv} {s : RS} {r} : xE T c s = some r ↔ ∃ n, yB (yG T n) T.im T.impl n c s = some r :=
 lim_some fun n m r h hn => wH (ux h) h hn
theorem le_callW (n : Nat) : CLe (yG T n) (zq T) := fun f args st r h => xJ.2 ⟨n, h⟩
theorem nv {s : RS} {o : LOp} {r} (h : sem (zq T) T.im T.impl s o = some r) : ∃ n, sem (yG T n) T.im T.impl s o = some r := by
 have key : ∀ {s : RS} {f a st} {r}, ye s (zq T f a st) = some r → ∃ n, ye s (yG T n f a st) = some r := by
  intro s f a st r h
  cases hc : zq T f a st with
  | none => rw [hc] at h; simp [ye] at h
  | some u =>
   obtain ⟨n, hn⟩ := xJ.1 hc
   exact ⟨n, by rw [hn]; rwa [hc] at h⟩
 cases o
 case call f args =>
  simp only [sem, Option.bind_eq_some_iff] at h ⊢
  obtain ⟨u, h1, h2⟩ := h
  obtain ⟨n, hn⟩ := key h2
  exact ⟨n, u, h1, hn⟩
 case yR f args =>
  simp only [sem, Option.bind_eq_some_iff] at h ⊢
  obtain ⟨u, h1, h2⟩ := h
  split at h2
  ·rename_i hp
   simp only [Option.bind_eq_some_iff] at h2
   obtain ⟨o, h3, h4⟩ := h2
   obtain ⟨n, hn⟩ := xJ.1 h3
   refine ⟨n, u, h1, ?_⟩
   rw [if_pos hp, hn]
   exact h4
  ·cases h2
 case tM x args =>
  simp only [sem, Option.bind_eq_some_iff] at h ⊢
  obtain ⟨u, h1, h2⟩ := h
  cases u with
  | func f caps =>
   simp only [Option.bind_eq_some_iff] at h2
   obtain ⟨a, h3, h4⟩ := h2
   obtain ⟨n, hn⟩ := key h4
   exact ⟨n, _, h1, by simp only [h3, Option.bind_some]; exact hn⟩
  | _ => cases h2
 case invoke x name tbl args =>
  simp only [sem, Option.bind_eq_some_iff] at h ⊢
  obtain ⟨u, h1, h2⟩ := h
  cases u with
  | iface t v =>
   simp only [Option.bind_eq_some_iff] at h2
   obtain ⟨f, h3, a, h4, h5⟩ := h2
   obtain ⟨n, hn⟩ := key h5
   exact ⟨n, _, h1, by simp only [h3, h4, Option.bind_some]; exact hn⟩
  | _ => cases h2
 all_goals exact ⟨0, h⟩
theorem step_cont {s : RS} {o : zj} {r} (h : step (zq T) T.im T.impl s o = some r) : ∃ n, step (yG T n) T.im T.impl s o = some r := by
 have key : ∀ {o : zj} {r}, ((sem (zq T) T.im T.impl s o.op).map fun r => r.2.put o r.1) = some r → ∃ n, ((sem (yG T n) T.im T.impl s o.op).map fun r => r.2.put o r.1) = some r := by
  intro o r h
  simp only [Option.map_eq_some_iff] at h
  obtain ⟨u, h1, h2⟩ := h
  obtain ⟨n, hn⟩ := nv h1
  exact ⟨n, by rw [hn]; simp [h2]⟩
 unfold step at h ⊢
 split at h
 ·exact key h
 ·simp only [Option.bind_eq_some_iff] at h ⊢
  obtain ⟨v, h1, h2⟩ := h
  cases v with
  | bool b =>
   dsimp only at h2
   split at h2
   ·rename_i hb
    obtain ⟨n, hn⟩ := key h2
    exact ⟨n, _, h1, by dsimp only; rw [if_pos hb]; exact hn⟩
   ·rename_i hb
    exact ⟨0, _, h1, by dsimp only; rw [if_neg hb]; exact h2⟩
  | tup l => exact ⟨0, _, h1, h2⟩
  | _ => cases h2
theorem ot : ∀ {l : List zj} {s : RS} {r}, yC (zq T) T.im T.impl l s = some r → ∃ n, yC (yG T n) T.im T.impl l s = some r
 | [], s, r, h => ⟨0, h⟩
 | o :: l, s, r, h => by
  simp only [yC, Option.bind_eq_some_iff] at h
  obtain ⟨u, h1, h2⟩ := h
  obtain ⟨n1, k1⟩ := step_cont h1
  obtain ⟨n2, k2⟩ := ot h2
  refine ⟨max n1 n2, ?_⟩
  simp only [yC, Option.bind_eq_some_iff]
  exact ⟨u, mA (ux (Nat.le_max_left ..)) k1, tS (ux (Nat.le_max_right ..)) k2⟩
theorem stepD_cont {s : RS} {o : zj} {r} (h : ya (zq T) T.im T.impl s o = some r) : ∃ n, ya (yG T n) T.im T.impl s o = some r := by
 have keyD : ∀ {r}, x8 (zq T) T.im T.impl s o = some r → ∃ n, x8 (yG T n) T.im T.impl s o = some r := by
  intro r h
  unfold x8 at h ⊢
  split at h
  ·rename_i h1
   split at h
   ·rename_i h2
    obtain ⟨n, hn⟩ := nv h
    exact ⟨n, by rw [if_pos h1, if_pos h2]; exact hn⟩
   ·cases h
  ·rename_i h1
   obtain ⟨n, hn⟩ := nv h
   exact ⟨n, by rw [if_neg h1]; exact hn⟩
 have key : ∀ {r}, ((x8 (zq T) T.im T.impl s o).map fun r => r.2.put o (o.fix r.1)) = some r → ∃ n, ((x8 (yG T n) T.im T.impl s o).map fun r => r.2.put o (o.fix r.1)) = some r := by
  intro r h
  simp only [Option.map_eq_some_iff] at h
  obtain ⟨u, h1, h2⟩ := h
  obtain ⟨n, hn⟩ := keyD h1
  exact ⟨n, by rw [hn]; simp [h2]⟩
 unfold ya at h ⊢
 split at h
 ·cases h
 ·rename_i h0
  simp only [if_neg h0]
  split at h
  ·exact key h
  ·simp only [Option.bind_eq_some_iff] at h ⊢
   obtain ⟨v, h1, h2⟩ := h
   cases v with
   | bool b =>
    dsimp only at h2
    split at h2
    ·rename_i hb
     obtain ⟨n, hn⟩ := key h2
     exact ⟨n, _, h1, by dsimp only; rw [if_pos hb]; exact hn⟩
    ·rename_i hb
     exact ⟨0, _, h1, by dsimp only; rw [if_neg hb]; exact h2⟩
   | tup l =>
    cases l with
    | nil => exact ⟨0, _, h1, h2⟩
    | cons => cases h2
   | _ => cases h2
theorem qU : ∀ {l : List zj} {s : RS} {r}, zW (zq T) T.im T.impl l s = some r → ∃ n, zW (yG T n) T.im T.impl l s = some r
 | [], s, r, h => ⟨0, h⟩
 | o :: l, s, r, h => by
  simp only [zW, Option.bind_eq_some_iff] at h
  obtain ⟨u, h1, h2⟩ := h
  obtain ⟨n1, k1⟩ := stepD_cont h1
  obtain ⟨n2, k2⟩ := qU h2
  refine ⟨max n1 n2, ?_⟩
  simp only [zW, Option.bind_eq_some_iff]
  exact ⟨u, oZ (ux (Nat.le_max_left ..)) k1, tf (ux (Nat.le_max_right ..)) k2⟩
theorem uY {α} {x y : Option α} (h : ∀ r, x = some r ↔ y = some r) : x = y := Option.ext h
theorem nS {f : FuncId} {g} (hf : T.fns f = some (.rC g)) (args : List LVal) (st : List zt) : zq T f args st = g args st := by
 refine uY fun r => ?_
 rw [xJ]
 constructor
 ·rintro ⟨n, hn⟩
  cases n with
  | zero => simp [yG] at hn
  | succ n => simpa [yG, hf] using hn
 ·intro h; exact ⟨1, by simpa [yG, hf] using h⟩
theorem yF {f : FuncId} {lf : zJ} (hf : T.fns f = some (.fn lf)) (args : List LVal) (st : List zt) : zq T f args st = xn (xE T) lf args st := by
 refine uY fun r => ?_
 rw [xJ]
 constructor
 ·rintro ⟨n, hn⟩
  cases n with
  | zero => simp [yG] at hn
  | succ n =>
   simp only [yG, hf] at hn
   exact tT (fun s r h => yh.2 ⟨n, h⟩) hn
 ·intro h
  have : ∃ n, xn (yB (yG T n) T.im T.impl n) lf args st = some r := by
   unfold xn at h ⊢
   split at h
   ·rename_i hp
    simp only [Option.bind_eq_some_iff] at h
    obtain ⟨u, h1, h2⟩ := h
    obtain ⟨n, hn⟩ := yh.1 h1
    exact ⟨n, by rw [if_pos hp]; simp only [Option.bind_eq_some_iff]; exact ⟨u, hn, h2⟩⟩
   ·cases h
  obtain ⟨n, hn⟩ := this
  exact ⟨n + 1, by simpa only [yG, hf] using hn⟩
theorem sz {c : zv} {s : RS} {x : Option (yS × RS)} (h : ∀ n, yB (yG T n) T.im T.impl n c s = x) : xE T c s = x := by
 refine uY fun r => ?_
 rw [yh]
 simp [h]
theorem yl (s : RS) : xE T .skip s = some (.normal, s) := sz fun n => rfl
theorem yj (id : Nat) (s : RS) : xE T (.exit id) s = some (.exit id, s) := sz fun n => rfl
theorem yH (s : RS) : xE T .ret s = some (.ret, s) := sz fun n => rfl
theorem zU (n : Nat) (ops : List zj) (s : RS) :
 xE T (.region n ops false) s = (yC (zq T) T.im T.impl ops { s with rs := List.replicate n .undef }).map fun s => (.normal, { s with rs := [] }) := by
 refine uY fun r => ?_
 rw [yh]
 constructor
 ·rintro ⟨m, hm⟩
  exact map_mono (x := yC ..) hm fun r h => tS (le_callW m) h
 ·intro h
  simp only [Option.map_eq_some_iff] at h
  obtain ⟨u, h1, h2⟩ := h
  obtain ⟨m, hm⟩ := ot h1
  exact ⟨m, by simp [yB, hm, h2]⟩
theorem zP (n : Nat) (ops : List zj) (s : RS) :
 xE T (.region n ops true) s = (zW (zq T) T.im T.impl ops { s.settle with rs := List.replicate n .undef }).map fun s => (.normal, { s with rs := [] }) := by
 refine uY fun r => ?_
 rw [yh]
 constructor
 ·rintro ⟨m, hm⟩
  exact map_mono (x := zW ..) hm fun r h => tf (le_callW m) h
 ·intro h
  simp only [Option.map_eq_some_iff] at h
  obtain ⟨u, h1, h2⟩ := h
  obtain ⟨m, hm⟩ := qU h1
  exact ⟨m, by simp [yB, hm, h2]⟩
def wB (k : RS → Option (yS × RS)) (r : yS × RS) : Option (yS × RS) := match r.1 with
 | .normal => k r.2
 | _ => some r
@[simp] theorem thenW_normal {k s} : wB k (.normal, s) = k s := rfl
@[simp] theorem thenW_exit {k id s} : wB k (.exit id, s) = some (.exit id, s) := rfl
@[simp] theorem thenW_ret {k s} : wB k (.ret, s) = some (.ret, s) := rfl
theorem rM {c : zv} {s : RS} {r} {n m : Nat} (h : yB (yG T n) T.im T.impl n c s = some r) (hm : n ≤ m) : yB (yG T m) T.im T.impl m c s = some r :=
 wH (ux hm) hm h
theorem yA (a b : zv) (s : RS) : xE T (.seq a b) s = (xE T a s).bind (wB (xE T b)) := by
 refine uY fun r => ?_
 rw [yh]
 constructor
 ·rintro ⟨n, hn⟩
  simp only [yB, Option.bind_eq_some_iff] at hn ⊢
  obtain ⟨⟨ex, s1⟩, h1, h2⟩ := hn
  refine ⟨_, yh.2 ⟨n, h1⟩, ?_⟩
  cases ex with
  | normal => exact yh.2 ⟨n, h2⟩
  | _ => exact h2
 ·intro h
  simp only [Option.bind_eq_some_iff] at h
  obtain ⟨u, h1, h2⟩ := h
  obtain ⟨n, hn⟩ := yh.1 h1
  unfold wB at h2
  split at h2
  ·rename_i hu
   obtain ⟨m, hm⟩ := yh.1 h2
   refine ⟨max n m, ?_⟩
   simp only [yB, Option.bind_eq_some_iff]
   refine ⟨u, rM hn (Nat.le_max_left ..), ?_⟩
   rw [hu]
   exact rM hm (Nat.le_max_right ..)
  ·rename_i hu
   refine ⟨n, ?_⟩
   simp only [yB, Option.bind_eq_some_iff]
   refine ⟨u, hn, ?_⟩
   split
   ·rename_i hu'; exact absurd hu' hu
   ·exact h2
theorem yo (x : Opd) (a b : zv) (s : RS) : xE T (.cond x a b) s = (s.zu x).bind fun v => match v with
 | .bool t => if t then xE T a s else xE T b s
 | _ => none := by
 refine uY fun r => ?_
 rw [yh]
 constructor
 ·rintro ⟨n, hn⟩
  simp only [yB] at hn
  refine bind_mono hn fun v r h => ?_
  cases v with
  | bool t => cases t <;> exact yh.2 ⟨n, h⟩
  | _ => cases h
 ·intro h
  simp only [Option.bind_eq_some_iff] at h
  obtain ⟨v, h1, h2⟩ := h
  cases v with
  | bool t =>
   cases t with
   | true => obtain ⟨n, hn⟩ := yh.1 (show xE T a s = some r from h2); exact ⟨n, by simp [yB, h1, hn]⟩
   | false => obtain ⟨n, hn⟩ := yh.1 (show xE T b s = some r from h2); exact ⟨n, by simp [yB, h1, hn]⟩
  | _ => cases h2
def ug (id : Nat) (r : yS × RS) : yS × RS := if r.1 = .exit id then (.normal, r.2) else r
@[simp] theorem outW_normal {id s} : ug id (.normal, s) = (.normal, s) := rfl
@[simp] theorem outW_ret {id s} : ug id (.ret, s) = (.ret, s) := rfl
theorem zV (id : Nat) (b : zv) (s : RS) : xE T (.block id b) s = (xE T b s).map (ug id) := by
 refine uY fun r => ?_
 rw [yh]
 constructor
 ·rintro ⟨n, hn⟩
  exact map_mono (x := yB ..) hn fun r h => yh.2 ⟨n, h⟩
 ·intro h
  simp only [Option.map_eq_some_iff] at h
  obtain ⟨u, h1, h2⟩ := h
  obtain ⟨n, hn⟩ := yh.1 h1
  exact ⟨n, by simp only [yB, hn, Option.map_some]; exact congrArg some h2⟩
theorem yw (ks : List Nat) (b : zv) (s : RS) : xE T (.zX ks b) s = (xE T b s).bind (yP s.st.length ks) := by
 refine uY fun r => ?_
 rw [yh]
 constructor
 ·rintro ⟨n, hn⟩
  simp only [yB, Option.bind_eq_some_iff] at hn ⊢
  obtain ⟨u, h1, h2⟩ := hn
  exact ⟨u, yh.2 ⟨n, h1⟩, h2⟩
 ·intro h
  simp only [Option.bind_eq_some_iff] at h
  obtain ⟨u, h1, h2⟩ := h
  obtain ⟨n, hn⟩ := yh.1 h1
  exact ⟨n, by simp only [yB, hn, Option.bind_some]; exact h2⟩
theorem wY (b : zv) (s : RS) : xE T (.loop b) s = (xE T b s).bind (wB (xE T (.loop b))) := by
 refine uY fun r => ?_
 rw [yh]
 constructor
 ·rintro ⟨n, hn⟩
  cases n with
  | zero => simp [yB, tl] at hn
  | succ n =>
   simp only [yB, tl, Option.bind_eq_some_iff] at hn ⊢
   obtain ⟨⟨ex, s1⟩, h1, h2⟩ := hn
   refine ⟨_, yh.2 ⟨n + 1, h1⟩, ?_⟩
   cases ex with
   | normal =>
    refine yh.2 ⟨n + 1, ?_⟩
    exact sO (fun s r h => h) (Nat.le_succ n) h2
   | _ => exact h2
 ·intro h
  simp only [Option.bind_eq_some_iff] at h
  obtain ⟨u, h1, h2⟩ := h
  obtain ⟨n, hn⟩ := yh.1 h1
  unfold wB at h2
  split at h2
  ·rename_i hu
   obtain ⟨m, hm⟩ := yh.1 h2
   refine ⟨max n m + 1, ?_⟩
   simp only [yB, tl, Option.bind_eq_some_iff]
   refine ⟨u, rM hn (by omega), ?_⟩
   rw [hu]
   exact sO (fun s r h => rM h (by omega)) (Nat.le_max_right ..) hm
  ·rename_i hu
   refine ⟨n + 1, ?_⟩
   simp only [yB, tl, Option.bind_eq_some_iff]
   refine ⟨u, rM hn (by omega), ?_⟩
   split
   ·rename_i hu'; exact absurd hu' hu
   ·exact h2
end Go.L
namespace Go.L
open Go Go.RowKit
variable {P : Program} {ρ ρ' : List Nat} {S S' : Nat → Nat → Prop} {G G' : Nat → Cl} {w w' : World} {st : List zt}
theorem vJ.rel0 (h : vJ P w S G ρ st) : Rel P [] [] ρ S G ⟨[], st, []⟩ ⟨#[], []⟩ w where
 defers := rfl
 vsz k t hk := by simp at hk
 lsz i t hi := by simp at hi
 swf := h.swf
 len := h.len
 rho := h.rho
 st := h.st
 vars k v hv := by simp at hv
 rs i v hv := by simp at hv
theorem nopk0 : (⟨[], st, []⟩ : RS).uy := by intro i b p n xs hi; simp at hi
theorem Rel.crel {vm : List Nat} {lm : List (Option Nat)} {σ : RS} {a : Act} (h : Rel P vm lm ρ S G σ a w) : vJ P w S G ρ σ.st := ⟨h.swf, h.len, h.rho, h.st⟩
theorem vJ.setRow (h : vJ P w S G ρ st) {id b : Nat} {c c' : List LVal} {cc cc' : Array Value} {et : TypeId} (hst : st[id]? = some (.cells et c)) (hb : ρ[id]? = some b)
 (hh : w.heap[b]? = some (.cells cc et (0, 0))) (hg : G b = .box id) (hsz : c'.length ≤ cc'.size)
 (hc' : ∀ (o : Nat) (v : LVal), c'[o]? = some v → (v.plain = true ∨ v.zr = true) ∧ ∃ cv, cc'[o]? = some cv ∧ At1 P w S G ρ yr (.cell id o, 0) v cv) :
 vJ P (w.setRow b cc') S G ρ (st.set id (.cells et c')) ∧ Pr w S G ρ (w.setRow b cc') S G ρ := by
 obtain ⟨k1, k2⟩ := h.rel0.setRow (c := c) (c' := c') hst hb hh hg hsz hc' (fun o e x n xs cv _ _ hn => absurd nopk0 hn)
 exact ⟨k1.crel, k2⟩
theorem vJ.dead (h : vJ P w S G ρ st) (id : Nat) (hos : w'.os = w.os) (htp : w'.tape = w.tape) (hout : w'.output = w.output) (hsz : w.heap.size ≤ w'.heap.size)
 (hb : ∀ b, b < w.heap.size → vN G id b = G b → w'.heap[b]? = w.heap[b]?) (hcell : ∀ b o, S b o → w'.cell? ⟨b, o, none⟩ = w.cell? ⟨b, o, none⟩) :
 vJ P w' S (vN G id) ρ (st.set id .dead) ∧ Pr w S G ρ w' S (vN G id) ρ := by
 have he : Ext S w S w' := fun b o hs => ⟨hs, hcell b o hs⟩
 refine ⟨?_, ⟨hos, htp, hout, hsz, he, zB.refl _, fun b hlt hg => ⟨hb b hlt ((rE hg).trans hg.symm), rE hg⟩, fun b o hs => .inl hs⟩⟩
 exact {
  swf := {
   lt := fun b o hs => Nat.lt_of_lt_of_le (h.swf.lt b o hs) hsz
   fresh := fun b hb => rE (h.swf.fresh b (Nat.le_trans hsz hb))
   box := fun b o i hs hg => h.swf.box b o i hs (mR hg)
   arr := fun b o l e x hs hg => h.swf.arr b o l e x hs (pQ hg) }
  len := by simpa using h.len
  rho := fun i b hi => Nat.lt_of_lt_of_le (h.rho i b hi) hsz
  st := fun i o ho => by
   by_cases hi : id = i
   ·subst hi
    rw [List.getElem?_set] at ho
    simp at ho
    obtain ⟨_, rfl⟩ := ho
    trivial
   ·rw [List.getElem?_set_ne hi] at ho
    refine (h.st i o ho).yb he (zB.refl _) (fun b hg => ?_) (fun bl off c e x hg => ?_)
    ·have := nE hg (fun e => hi e.symm)
     exact ⟨hb b (h.swf.uu (by rw [hg]; simp)) this, this⟩
    ·have := oh hg (fun e => hi e.symm)
     exact ⟨hb bl (h.swf.uu (by rw [hg]; simp)) this, this⟩ }
def kP (S : Nat → Nat → Prop) (w w' : World) : Nat → Nat → Prop := fun b o => S b o ∨ (w.heap.size ≤ b ∧ b < w'.heap.size)
theorem vJ.grown (h : vJ P w S G ρ st) (hB : Below w.heap.size w w') : vJ P w' (kP S w w') G ρ st ∧ Pr w S G ρ w' (kP S w w') G ρ := by
 have he : Ext S w (kP S w w') w' := fun b o hs => ⟨.inl hs, by
  have hlt := h.swf.lt b o hs
  unfold World.cell?
  rw [hB.block b hlt]⟩
 have hgr : ∀ b, w.heap.size ≤ b → G b = .ro := h.swf.fresh
 refine ⟨?_, ⟨hB.os, hB.tape, hB.output, hB.size, he, zB.refl _, fun b hlt hg => ⟨hB.block b hlt, hg⟩, fun b o hs => by
  rcases hs with hs | hs
  ·exact .inl hs
  ·exact .inr (.inl hs.1)⟩⟩
 exact {
  swf := {
   lt := fun b o hs => by
    rcases hs with hs | hs
    ·exact Nat.lt_of_lt_of_le (h.swf.lt b o hs) hB.size
    ·exact hs.2
   fresh := fun b hb => hgr b (Nat.le_trans hB.size hb)
   box := fun b o i hs hg => by
    rcases hs with hs | hs
    ·exact h.swf.box b o i hs hg
    ·rw [hgr b hs.1] at hg; cases hg
   arr := fun b o l e x hs hg => by
    rcases hs with hs | hs
    ·exact h.swf.arr b o l e x hs hg
    ·rw [hgr b hs.1] at hg; cases hg }
  len := h.len
  rho := fun i b hi => Nat.lt_of_lt_of_le (h.rho i b hi) hB.size
  st := fun i o ho => (h.st i o ho).yb he (zB.refl _) (fun b hg => ⟨hB.block b (h.swf.uu (by rw [hg]; simp)), rfl⟩) (fun bl off c e x hg => ⟨hB.block bl (h.swf.uu (by rw [hg]; simp)), rfl⟩) }
theorem vZ.grown (h : vJ P w S G ρ st) (hcell : sw G) (hB : Below w.heap.size w w') {v : LVal} {cv : Value} (hs : v.simple = true) (hv : V w' (kP S w w') ρ v cv) : vZ P w S G ρ st v none cv w' := by
 obtain ⟨k1, k2⟩ := h.grown hB
 exact ⟨ρ, _, G, k1, (At.simple hs).2 hv, k2, fun _ b hb => ⟨hB.block b hb, rfl⟩, fun b l e x hg => .inl (hcell b l e x hg)⟩
theorem vZ.own (h : vJ P w S G ρ st) (hcell : sw G) (hB : Below w.heap.size w w') {e : TypeId} {n g cap : Nat} {cur : Array Value} (hg : w.heap.size ≤ g) (hh : w'.heap[g]? = some (.cells cur e (0, 0)))
 (hcap : cap ≤ maxLen) (hcs : cur.size = cap * n) (hn : P.cellsOf e = n) (h0 : 0 < n) : vZ P w S G ρ st (.vs false (.own e true) n []) none (.slice (some ⟨g, 0, none⟩) 0 cap) w' := by
 have he : Ext S w S w' := fun b o hs => ⟨hs, by
  have hlt := h.swf.lt b o hs
  unfold World.cell?
  rw [hB.block b hlt]⟩
 have hlg : g < w'.heap.size := (Array.getElem?_eq_some_iff.1 hh).1
 have hne : ∀ b, b < w.heap.size → wO G g (.yd, 0) 0 true b = G b := fun b hb => by unfold wO; rw [if_neg (by omega)]
 refine ⟨ρ, S, wO G g (.yd, 0) 0 true, ?_, ?_, ⟨hB.os, hB.tape, hB.output, hB.size, he, zB.refl _, fun b hb hr => ⟨hB.block b hb, (hne b hb).trans hr⟩, fun b o hs => .inl hs⟩, fun _ b hb => ⟨hB.block b hb, hne b hb⟩, fun b l e' x hx => ?_⟩
 ·exact {
   swf := {
    lt := fun b o hs => Nat.lt_of_lt_of_le (h.swf.lt b o hs) hB.size
    fresh := fun b hb => by unfold wO; rw [if_neg (by omega)]; exact h.swf.fresh b (Nat.le_trans hB.size hb)
    box := fun b o i hs hx => by rw [hne b (h.swf.lt b o hs)] at hx; exact h.swf.box b o i hs hx
    arr := fun b o l e' x hs hx => by rw [hne b (h.swf.lt b o hs)] at hx; exact h.swf.arr b o l e' x hs hx }
   len := h.len
   rho := fun i b hi => Nat.lt_of_lt_of_le (h.rho i b hi) hB.size
   st := fun i o ho => (h.st i o ho).yb he (zB.refl _) (fun b hx => have hl := h.swf.uu (b := b) (by rw [hx]; simp); ⟨hB.block b hl, hne b hl⟩) (fun bl off c e x hx => have hl := h.swf.uu (b := bl) (by rw [hx]; simp); ⟨hB.block bl hl, hne bl hl⟩) }
 ·exact ⟨rfl, g, cap, cur, rfl, hh, Nat.zero_le _, hcap, hcs, hn, h0, by simp [wO], fun y hy => by simp at hy, fun j v hj => by simp at hj⟩
 ·unfold wO at hx
  split at hx
  ·injection hx with h1; subst h1; exact .inr rfl
  ·exact .inl (hcell b l e' x hx)
end Go.L
namespace Go.L
open Go Go.RowKit
variable {H : Type} {enc : TypeId × Value → H} {P : Program} {w : World}
def pe (R : TypeId → List LVal → Prop) : List TypeId → List LVal → Prop
 | [], us => us = []
 | t :: ts, us => ∃ a b, us = a ++ b ∧ R t a ∧ pe R ts b
def Rd (P : Program) : Nat → TypeId → List LVal → Prop
 | 0, _, _ => False
 | d + 1, t, us => match P.underlying t with
  | some .bool => ∃ b, us = [.bool b]
  | some (.int k) => ∃ n, us = [.int k n] ∧ (Lit.int k n).wf = true
  | some .string => ∃ s, us = [.str s] ∧ s.length ≤ maxLen
  | some (.slice e) => ∃ b xs, us = [.vs b .sh (P.cellsOf e) xs] ∧ (b = true → xs = []) ∧ xs.length ≤ maxLen ∧ ∀ x ∈ xs, x.isAgg = vw P e ∧ x.cells.length = P.cellsOf e ∧ Rd P d e x.cells
  | some (.struct fs) => pe (Rd P d) (fs.toList.map (·.type)) us
  | some (.array n e) => pe (Rd P d) (List.replicate n e) us
  | _ => False
def pY (P : Program) : Nat → List Field → Option Nat
 | off, [] => some off
 | off, f :: r => if f.offset = off then pY P (off + P.cellsOf f.type) r else none
def oE (P : Program) : Nat → TypeId → Bool
 | 0, _ => false
 | d + 1, t => match P.underlying t with
  | some .bool | some (.int _) | some .string => true
  | some (.slice e) => decide (0 < P.cellsOf e) && oE P d e && (vw P e || P.cellsOf e == 1)
  | some (.struct fs) => pY P 0 fs.toList == some (P.cellsOf t) && fs.toList.all fun f => oE P d f.type
  | some (.array n e) => n * P.cellsOf e == P.cellsOf t && oE P d e
  | _ => false
def mkArg (agg : Bool) (us : List LVal) : LVal := if agg then .agg us else us.headD .undef
def allS (w : World) : Nat → Nat → Prop := fun b _ => b < w.heap.size
theorem allS_swf : SWf w (allS w) (fun _ => .ro) := { lt := fun _ _ h => h, fresh := fun _ _ => rfl, box := fun b o id hs hg => (by cases hg), arr := fun b o l e x hs hg => (by cases hg) }
theorem VL.row {S : Nat → Nat → Prop} {b : Nat} : ∀ {us : List LVal} {cs : List Value} {off : Nat}, VL w S [] us cs → us.all LVal.plain = true → (∀ o, S b o) → (∀ (j : Nat) (c : Value), cs[j]? = some c → w.cell? ⟨b, off + j, none⟩ = some c) → Row w S b off us
 | [], _, _, _, _, _, _ => .nil
 | u :: us, _, off, h, hp, hS, hc => by
  cases h with
  | cons h1 h2 =>
   simp only [List.all_cons, Bool.and_eq_true] at hp
   refine .cons (hS _) (hc 0 _ rfl) h1 hp.1 (VL.row h2 hp.2 hS fun j c hj => ?_)
   have := hc (j + 1) c (by simpa using hj)
   rwa [show off + (j + 1) = off + 1 + j by omega] at this
theorem Row.append {S : Nat → Nat → Prop} {b : Nat} : ∀ {l l' : List LVal} {off : Nat}, Row w S b off l → Row w S b (off + l.length) l' → Row w S b off (l ++ l')
 | [], _, _, _, h => by simpa using h
 | x :: l, l', off, h, h' => by
  cases h with
  | cons a1 a2 a3 a4 a5 => exact .cons a1 a2 a3 a4 (Row.append a5 (by rwa [show off + 1 + l.length = off + (x :: l).length by simp; omega]))
theorem spot_none {a : Addr} {v : Value} (h : w.cell? a = some v) : a.spot = none := by
 unfold World.cell? at h
 split at h
 ·split at h
  ·cases h
  ·rename_i hs; simpa using hs
 ·cases h
theorem lt_of_cell {a : Addr} {v : Value} (h : w.cell? a = some v) : a.block < w.heap.size := by
 unfold World.cell? at h
 split at h
 ·rename_i hs; exact (Array.getElem?_eq_some_iff.1 hs).1
 ·cases h
theorem add_spot (b off k : Nat) : (⟨b, off, none⟩ : Addr).add k = ⟨b, off + k, none⟩ := by
 unfold Addr.add; split <;> simp_all
theorem sJ : ∀ (d : Nat) (t : TypeId) (fuel : Nat) (cs : List Value) (x : DataW H × List MemPlace), oE P d t = true → DataW.trod enc P w 0 (fun _ => true) true fuel t cs = some x →
 ∃ us, VL w (allS w) [] us cs ∧ us.all LVal.plain = true ∧ Rd P d t us ∧ (vw P t = false → ∃ u, us = [u])
 | 0, t, fuel, cs, x, hc, h => by simp [oE] at hc
 | d + 1, t, fuel, cs, x, hc, h => by
  unfold oE at hc
  cases hu : P.underlying t with
  | none => simp [hu] at hc
  | some td =>
   cases td with
   | bool =>
    obtain ⟨b, rfl, _⟩ := DataW.trod_bool hu h
    exact ⟨[.bool b], .cons (.bool b) .nil, rfl, by simp [Rd, hu], fun _ => ⟨_, rfl⟩⟩
   | int k =>
    obtain ⟨n, rfl, _, hw⟩ := DataW.trod_int hu h
    exact ⟨[.int k n], .cons (.int k n) .nil, rfl, by simp [Rd, hu, hw], fun _ => ⟨_, rfl⟩⟩
   | string =>
    obtain ⟨s, rfl, _, hs⟩ := DataW.trod_string hu h
    exact ⟨[.str s.data.toList], .cons (.str _) .nil, rfl, by simp only [Rd, hu]; exact ⟨_, rfl, hs⟩, fun _ => ⟨_, rfl⟩⟩
   | slice e =>
    simp only [hu, Bool.and_eq_true, decide_eq_true_eq] at hc
    obtain ⟨⟨hpos, hce⟩, hagg⟩ := hc
    rcases DataW.trod_slice hu h with ⟨rfl, _⟩ | ⟨a, len, cap, elems, rest, n, rfl, rfl, _, hb, hl, hm, hlen, hel, hsp, _⟩
    ·exact ⟨[.vs true .sh (P.cellsOf e) []], .cons .oF .nil, rfl, by simp only [Rd, hu]; exact ⟨true, [], rfl, fun _ => rfl, by simp, fun x hx => by simp at hx⟩, fun _ => ⟨_, rfl⟩⟩
    ·by_cases hcap : cap = 0
     ·subst hcap
      have : len = 0 := by omega
      subst this
      exact ⟨[.vs false .sh (P.cellsOf e) []], .cons .vz .nil, rfl, by simp only [Rd, hu]; exact ⟨false, [], rfl, fun h => (by cases h), by simp, fun x hx => by simp at hx⟩, fun _ => ⟨_, rfl⟩⟩
     ·obtain ⟨hrl, hrest⟩ := hsp rfl
      have hfirst : ∃ v, w.cell? (a.add 0) = some v := by
       have key : ∀ {y : Option (DataW H × List MemPlace)}, (w.cells? 0 (a.add (0 * P.cellsOf e)) (P.cellsOf e)).bind (DataW.trod enc P w 0 (fun _ => true) true n e) = y → y.isSome → ∃ v, w.cell? (a.add 0) = some v := by
        intro y hy hs
        obtain ⟨z, rfl⟩ := Option.isSome_iff_exists.1 hs
        simp only [Option.bind_eq_some_iff] at hy
        obtain ⟨cells, hcl, _⟩ := hy
        obtain ⟨_, c2, c3⟩ := World.cells?_some hcl
        have := c3 0 hpos
        rw [List.getElem?_eq_getElem (by omega)] at this
        refine ⟨cells[0], ?_⟩
        have e0 : ∀ (q : Addr), (q.add 0).add 0 = q.add 0 := by intro q; unfold Addr.add; simp
        rw [Nat.zero_mul] at this
        rw [e0] at this
        exact this
       by_cases hl0 : len = 0
       ·have := hrest 0 (by omega)
        rw [hl0, Nat.zero_add] at this
        exact key this (by rw [List.getElem?_eq_getElem (by omega)]; rfl)
       ·exact key (hel 0 (by omega)) (by rw [List.getElem?_eq_getElem (by omega)]; rfl)
      obtain ⟨v0, hv0⟩ := hfirst
      have hsp0 := spot_none hv0
      have hblk := lt_of_cell hv0
      have hadd0 : (a.add 0) = a := by unfold Addr.add; simp
      rw [hadd0] at hsp0 hblk
      obtain ⟨ab, ao, asp⟩ := a
      dsimp only at hsp0 hblk
      subst hsp0
      have rows : ∀ k i, i + k = len → ∃ xs : List LVal, xs.length = k ∧ (∀ x ∈ xs, x.isAgg = vw P e ∧ x.cells.length = P.cellsOf e ∧ Rd P d e x.cells) ∧ Row w (allS w) ab (ao + i * P.cellsOf e) (xs.flatMap LVal.cells) := by
       intro k
       induction k with
       | zero => intro i _; exact ⟨[], rfl, fun x hx => by simp at hx, .nil⟩
       | succ k ih =>
        intro i hi
        obtain ⟨xs, x1, x2, x3⟩ := ih (i + 1) (by omega)
        have h0 := hel i (by omega)
        rw [List.getElem?_eq_getElem (by omega), Option.bind_eq_some_iff] at h0
        obtain ⟨cells, hcl, htr⟩ := h0
        obtain ⟨_, c2, c3⟩ := World.cells?_some hcl
        obtain ⟨us, u1, u2, u3, u4⟩ := sJ d e n cells _ hce htr
        have hul : us.length = P.cellsOf e := by rw [u1.length, c2]
        have hmk : (mkArg (vw P e) us).cells = us ∧ (mkArg (vw P e) us).isAgg = vw P e := by
         cases ha : vw P e with
         | true => exact ⟨rfl, rfl⟩
         | false =>
          obtain ⟨u, rfl⟩ := u4 ha
          have hup : u.plain = true := by simpa using u2
          cases u <;> first | exact ⟨rfl, rfl⟩ | simp [LVal.plain] at hup
        refine ⟨mkArg (vw P e) us :: xs, by simp [x1], fun x hx => ?_, ?_⟩
        ·rcases List.mem_cons.1 hx with rfl | hx
         ·exact ⟨hmk.2, by rw [hmk.1, hul], by rw [hmk.1]; exact u3⟩
         ·exact x2 x hx
        ·rw [List.flatMap_cons, hmk.1]
         refine Row.append (VL.row u1 u2 (fun _ => hblk) fun j c hj => ?_) ?_
         ·have hjl := (List.getElem?_eq_some_iff.1 hj).1
          have := c3 j (by omega)
          rw [hj, add_spot, add_spot] at this
          exact this
         ·rw [hul, show ao + i * P.cellsOf e + P.cellsOf e = ao + (i + 1) * P.cellsOf e by rw [Nat.add_mul]; omega]
          exact x3
      obtain ⟨xs, x1, x2, x3⟩ := rows len 0 (by omega)
      rw [Nat.zero_mul, Nat.add_zero] at x3
      subst x1
      exact ⟨[.vs false .sh (P.cellsOf e) xs], .cons (.vs hl hm (by intro h; cases h) (fun x hx => (x2 x hx).2.1) x3) .nil, rfl,
       by simp only [Rd, hu]; exact ⟨false, xs, rfl, fun h => (by cases h), by omega, x2⟩, fun _ => ⟨_, rfl⟩⟩
   | struct fs =>
    simp only [hu, Bool.and_eq_true, beq_iff_eq] at hc
    obtain ⟨ht, hall⟩ := hc
    obtain ⟨xs, n, rfl, _, hcl, hxl, hxs⟩ := DataW.trod_struct hu h
    have go : ∀ (l : List Field) (off : Nat), (∀ f ∈ l, f ∈ fs.toList) → pY P off l = some (P.cellsOf t) → off ≤ P.cellsOf t → ∃ us, VL w (allS w) [] us (cs.drop off) ∧ us.all LVal.plain = true ∧ pe (Rd P d) (l.map (·.type)) us := by
     intro l
     induction l with
     | nil =>
      intro off _ h1 _
      simp [pY] at h1
      exact ⟨[], by rw [List.drop_of_length_le (by omega)]; exact .nil, rfl, rfl⟩
     | cons f r ih =>
      intro off hsub h1 hle
      unfold pY at h1
      split at h1
      ·rename_i hoff
       have hle2 : ∀ (l : List Field) (o s : Nat), pY P o l = some s → o ≤ s := by
        intro l
        induction l with
        | nil => intro o s h; simp [pY] at h; omega
        | cons f r ih =>
         intro o s h
         unfold pY at h
         split at h
         ·have := ih _ _ h; omega
         ·cases h
       obtain ⟨us2, v1, v2, v3⟩ := ih (off + P.cellsOf f.type) (fun g hg => hsub g (List.mem_cons_of_mem _ hg)) h1 (hle2 _ _ _ h1)
       have hf := hsub f (List.mem_cons_self ..)
       obtain ⟨i, hi, hfi⟩ := List.getElem_of_mem hf
       have hi' : i < fs.size := by simpa using hi
       have hx := hxs i f (by rw [Array.getElem?_eq_getElem hi']; simpa using hfi)
       rw [List.getElem?_eq_getElem (by omega)] at hx
       obtain ⟨us1, u1, u2, u3, _⟩ := sJ d f.type n _ _ (List.all_eq_true.1 hall f hf) hx
       rw [hoff] at u1
       refine ⟨us1 ++ us2, ?_, by rw [List.all_append, u2, v2]; rfl, us1, us2, rfl, u3, v3⟩
       have := u1.append v1
       rwa [← List.drop_drop, List.take_append_drop] at this
      ·cases h1
    obtain ⟨us, u1, u2, u3⟩ := go fs.toList 0 (fun _ h => h) ht (Nat.zero_le _)
    exact ⟨us, by simpa using u1, u2, by simpa only [Rd, hu] using u3, fun ha => by unfold vw at ha; rw [hu] at ha; exact absurd ha (by simp [ru])⟩
   | array m e =>
    simp only [hu, Bool.and_eq_true, beq_iff_eq] at hc
    obtain ⟨ht, hce⟩ := hc
    obtain ⟨xs, n, rfl, _, hcl, hxl, hxs⟩ := DataW.trod_array hu h
    have go : ∀ (k i : Nat), i + k = m → ∃ us, VL w (allS w) [] us (cs.drop (i * P.cellsOf e)) ∧ us.all LVal.plain = true ∧ pe (Rd P d) (List.replicate k e) us := by
     intro k
     induction k with
     | zero =>
      intro i hi
      have : i = m := by omega
      subst this
      exact ⟨[], by rw [List.drop_of_length_le (by omega)]; exact .nil, rfl, rfl⟩
     | succ k ih =>
      intro i hi
      obtain ⟨us2, v1, v2, v3⟩ := ih (i + 1) (by omega)
      have hx := hxs i (by omega)
      rw [List.getElem?_eq_getElem (by omega)] at hx
      obtain ⟨us1, u1, u2, u3, _⟩ := sJ d e n _ _ hce hx
      refine ⟨us1 ++ us2, ?_, by rw [List.all_append, u2, v2]; rfl, us1, us2, rfl, u3, v3⟩
      have := u1.append v1
      rw [show (i + 1) * P.cellsOf e = i * P.cellsOf e + P.cellsOf e by rw [Nat.add_mul]; omega] at this
      rwa [← List.drop_drop, List.take_append_drop] at this
    obtain ⟨us, u1, u2, u3⟩ := go m 0 (by omega)
    exact ⟨us, by simpa using u1, u2, by simpa only [Rd, hu] using u3, fun ha => by unfold vw at ha; rw [hu] at ha; exact absurd ha (by simp [ru])⟩
   | _ => simp [hu] at hc
theorem nk : ∀ {l l' : List LVal}, LVal.pfs l = true → LVal.pfs l' = true → LVal.pfs (l ++ l') = true
 | [], _, _, h => h
 | v :: l, l', h, h' => by
  simp only [LVal.pfs, Bool.and_eq_true, List.cons_append] at h ⊢
  exact ⟨h.1, nk h.2 h'⟩
theorem pe.pfs {R : TypeId → List LVal → Prop} (hR : ∀ t us, R t us → LVal.pfs us = true) : ∀ {ts : List TypeId} {us : List LVal}, pe R ts us → LVal.pfs us = true
 | [], _, h => by cases h; rfl
 | t :: ts, _, ⟨a, b, rfl, h1, h2⟩ => nk (hR _ _ h1) (pe.pfs hR h2)
theorem Rd.pfs : ∀ (d : Nat) (t : TypeId) (us : List LVal), Rd P d t us → LVal.pfs us = true
 | 0, _, _, h => h.elim
 | d + 1, t, us, h => by
  unfold Rd at h
  split at h
  ·obtain ⟨b, rfl⟩ := h; rfl
  ·obtain ⟨b, rfl, _⟩ := h; rfl
  ·obtain ⟨b, rfl, _⟩ := h; rfl
  ·obtain ⟨b, xs, rfl, _⟩ := h; rfl
  ·exact h.pfs (Rd.pfs d)
  ·exact h.pfs (Rd.pfs d)
  ·exact h.elim
theorem rd_arg {d : Nat} {t : TypeId} {v : Value} {r : Reach} {base : Nat} {x : DataW H} {ps : List MemPlace} (hc : oE P d t = true) (hok : Value.okWide P w r base t v) (h : DataW.Trod enc P w 0 (fun _ => true) true t v x ps) :
 ∃ us, Rd P d t us ∧ V w (allS w) [] (mkArg (vw P t) us) v ∧ (mkArg (vw P t) us).simple = true ∧ (mkArg (vw P t) us).pf = true := by
 obtain ⟨fuel, h⟩ := h
 obtain ⟨us, u1, u2, u3, u4⟩ := sJ d t fuel _ _ hc h
 have hpf := Rd.pfs d t us u3
 have hval : vw P t = true → ∃ cs, v = .agg cs := by
  intro ha
  unfold vw at ha
  unfold Value.okWide at hok
  split at ha
  ·rename_i td hu
   rw [hu] at hok
   cases td with
   | struct fs => obtain ⟨cs, rfl, _⟩ := hok; exact ⟨cs, rfl⟩
   | array n e => obtain ⟨cs, rfl, _⟩ := hok; exact ⟨cs, rfl⟩
   | _ => simp [ru] at ha
  ·cases ha
 refine ⟨us, u3, ?_⟩
 cases ha : vw P t with
 | true =>
  obtain ⟨cs, rfl⟩ := hval ha
  exact ⟨.agg u1 u2, rfl, hpf⟩
 | false =>
  obtain ⟨u, rfl⟩ := u4 ha
  have hup : u.plain = true := by simpa using u2
  have hone : v.cells.toList = [v] := by
   cases v with
   | agg cs =>
    exfalso
    unfold Value.okWide at hok
    unfold vw at ha
    split at hok
    ·rename_i hu; rw [hu] at ha; simp [ru] at ha
    ·rename_i hu; rw [hu] at ha; simp [ru] at ha
    ·unfold Cell.okWide Cell.ok at hok
     split at hok
     all_goals first
      | (rename_i h1 h2; cases h2; done)
      | (split at hok <;> first | exact hok.elim | (rename_i h1 h2; cases h2))
   | _ => rfl
  rw [hone] at u1
  cases u1 with
  | cons h1 h2 =>
   refine ⟨h1, LVal.zO hup, ?_⟩
   show u.pf = true
   simpa [LVal.pfs] using hpf
end Go.L
namespace Go.L
open Go Go.RowKit Go.ChangeShapes Go.WideShapes
variable {H : Type} {enc : TypeId × Value → H} {P : Program} {w W W' : World}
def pV (P : Program) (d : Nat) : List TypeId → List LVal → Prop
 | [], [] => True
 | t :: ts, u :: us => (∃ cs, Rd P d t cs ∧ u = mkArg (vw P t) cs) ∧ pV P d ts us
 | _, _ => False
theorem args_rd {d : Nat} {r : Reach} {base : Nat} : ∀ {ts : List TypeId} {vs : List Value} {ds : List (DataW H)} {ps : List MemPlace}, (∀ t ∈ ts, oE P d t = true) →
 (∀ (j : Nat) t v, ts[j]? = some t → vs[j]? = some v → Value.okWide P w r base t v) → DataW.TrodAll enc P w 0 (fun _ => true) true ts vs ds ps →
 ∃ largs, VL w (allS w) [] largs vs ∧ (∀ u ∈ largs, u.simple = true) ∧ pV P d ts largs
 | [], vs, ds, ps, _, _, h => by
  obtain ⟨rfl, rfl, rfl⟩ := trodAll_nil h
  exact ⟨[], .nil, fun u hu => by simp at hu, trivial⟩
 | t :: ts, vs, ds, ps, hc, hok, h => by
  obtain ⟨v, vs1, d0, ds1, a, b, rfl, rfl, rfl, h1, h2⟩ := trodAll_cons h
  obtain ⟨cs, k1, k2, k3, k4⟩ := rd_arg (hc t (List.mem_cons_self ..)) (hok 0 t v rfl rfl) h1
  obtain ⟨largs, m1, m2, m3⟩ := args_rd (fun t ht => hc t (List.mem_cons_of_mem _ ht)) (fun j t v hj hv => hok (j + 1) t v hj hv) h2
  exact ⟨mkArg (vw P t) cs :: largs, .cons k2 m1, fun u hu => by
   rcases List.mem_cons.1 hu with rfl | hu
   ·exact k3
   ·exact m2 u hu, ⟨cs, k1, rfl⟩, m3⟩
theorem ql (hl : laidOutB P = true) (hb : Below W.heap.size W W') : ∀ {ts : List TypeId} {vs : List Value} {ds : List (DataW H)} {ps : List MemPlace}, (∀ t ∈ ts, P.readableRec t = true ∧ t < P.types.size) →
 (∀ x ∈ ps, x.block < W.heap.size) → DataW.TrodAll enc P W 0 (fun _ => true) true ts vs ds ps → DataW.TrodAll enc P W' 0 (fun b => decide (b < W.heap.size)) true ts vs ds ps
 | [], vs, ds, ps, _, _, h => by
  obtain ⟨rfl, rfl, rfl⟩ := trodAll_nil h
  exact rfl
 | t :: ts, vs, ds, ps, hc, hlt, h => by
  obtain ⟨v, vs1, d0, ds1, a, b, rfl, rfl, rfl, h1, h2⟩ := trodAll_cons h
  have ht := hc t (List.mem_cons_self ..)
  exact ⟨a, b, Below.trod hl ht.1 ht.2 h1 hb (fun x hx => hlt x (List.mem_append_left _ hx)), ql hl hb (fun t ht => hc t (List.mem_cons_of_mem _ ht)) (fun x hx => hlt x (List.mem_append_right _ hx)) h2, rfl⟩
theorem kept_below (hb : Below W.heap.size W W') (may : MemPlace → Prop) : W.keptBut W' may := by
 refine ⟨hb.os, hb.output, fun i hi => ?_⟩
 rw [hb.block i hi]
 split
 ·rename_i h1 h2
  rw [h1] at h2
  injection h2 with h2; injection h2 with e1 e2 e3; subst e1; subst e2; subst e3
  exact ⟨rfl, rfl, rfl, fun _ _ => rfl⟩
 ·rename_i h1 h2
  rw [h1] at h2
  injection h2 with h2; injection h2 with e1 e2; subst e1; subst e2
  exact .inr ⟨rfl, rfl⟩
 ·rfl
theorem lQ {T : Tbl} (hT : lp P T) {f : FuncId} {fn : Func} {s : ChangeSpec} {apart fresh handsOn : Bool} {d : Nat} {tb : TypeId} (hl : laidOutB P = true) (hrt : fn.resultTypes = #[tb]) (hb : P.underlying tb = some .bool)
 (hread : ∀ t ∈ fn.params.toList, P.readableRec t = true ∧ t < P.types.size) (hrd : ∀ t ∈ fn.params.toList, oE P d t = true) (hvars : s.vars = []) (hlaw : ∀ largs, pV P d fn.params.toList largs → zq T f largs [] = some (.bool true, none))
 {base : Nat} {args : Array Value} {ds gs : List (DataW H)} {before : List MemPlace}
 (hval : ∀ (j : Nat) t v, fn.params[j]? = some t → args[j]? = some v → Value.okWide P W .any base t v)
 (hW : DataW.Whole enc P fn.params.toList s.vars apart W args.toList ds gs before) (hs : (s.fn H (ds ++ gs)).results = [.lit (.bool true)] ∧ (s.fn H (ds ++ gs)).args = ds ∧ (s.fn H (ds ++ gs)).vars = []) :
 Calls P f args W fun e W' => ∃ v, e = .returned v ∧ s.post enc P fn apart fresh handsOn false W args v W' := by
 have hlt := hW.lt
 have hW' := hW
 obtain ⟨p, q, hA, hV, rfl, _, _⟩ := hW
 rw [hvars] at hV
 obtain ⟨rfl, rfl⟩ := trodVars_none hV
 obtain ⟨largs, h1, h2, h3⟩ := args_rd hrd (fun j t v ht hv => hval j t v (by simpa using ht) (by simpa using hv)) hA
 obtain ⟨n, hn⟩ := xJ.1 (hlaw largs h3)
 have hc := (vT hT n f largs [] _ _ hn).2 args.toList W (allS W) (fun _ => .ro) [] (vJ.pure allS_swf) (fun b l e x hg => (by cases hg)) h1 h2
 refine Calls.mono hc ?_
 rintro e W' ⟨cv, rfl, ρ', S', G', c1, c2, c3, c4, c5⟩
 have := ((At.simple (v := .bool true) rfl).1 c2).vn
 subst this
 have hB : Below W.heap.size W W' := ⟨c3.os, c3.tape, c3.output, c3.size, fun b hb => (c4 rfl b hb).1⟩
 refine ⟨_, rfl, ds, [], _, [], p, [], hW', ?_, ?_, ?_, kept_below hB _, fun h => by cases h⟩
 ·rw [hs.1, hrt]
  exact trodAll_mk1 (shut_bool hb _)
 ·rw [hs.2.1]
  exact ql hl hB hread (fun x hx => hlt x (List.mem_append_left _ hx)) hA
 ·rw [hs.2.2, hvars]
  exact rfl
end Go.L
namespace Go.L
open Go
variable {T T' : Tbl}
def Swaps (T T' : Tbl) : Prop := T'.im = T.im ∧ T'.impl = T.impl ∧
 ∀ f d, T'.fns f = some d → T.fns f = some d ∨ ∃ g, d = .rC g ∧ ∀ args st r, g args st = some r → zq T f args st = some r
end Go.L
namespace Go.L
open Go
inductive Sh where
 | bool
 | int (k : IntKind)
 | str
 | slice (e : TypeId) (n : Nat) (agg : Bool)
 | fields (ts : List TypeId)
 | other
 deriving DecidableEq
def vi (P : Program) (t : TypeId) : Sh := match P.underlying t with
 | some .bool => .bool
 | some (.int k) => .int k
 | some .string => .str
 | some (.slice e) => .slice e (P.cellsOf e) (vw P e)
 | some (.struct fs) => .fields (fs.toList.map (·.type))
 | some (.array n e) => .fields (List.replicate n e)
 | _ => .other
def RdSh (R : TypeId → List LVal → Prop) : Sh → List LVal → Prop
 | .bool, us => ∃ b, us = [.bool b]
 | .int k, us => ∃ n, us = [.int k n] ∧ (Lit.int k n).wf = true
 | .str, us => ∃ s, us = [.str s] ∧ s.length ≤ maxLen
 | .slice e n agg, us => ∃ b xs, us = [.vs b .sh n xs] ∧ (b = true → xs = []) ∧ xs.length ≤ maxLen ∧ ∀ x ∈ xs, x.isAgg = agg ∧ x.cells.length = n ∧ R e x.cells
 | .fields ts, us => pe R ts us
 | .other, _ => False
theorem wv {P : Program} {d : Nat} {t : TypeId} {us : List LVal} (h : Rd P (d + 1) t us) {s : Sh} (hs : vi P t = s) : RdSh (Rd P d) s us := by
 subst hs
 unfold Rd at h
 unfold vi
 split at h <;> simp_all [RdSh]
theorem args_two {P : Program} {d : Nat} {t t2 : TypeId} : ∀ {largs : List LVal}, pV P d [t, t2] largs → ∃ u v, largs = [u, v] ∧ (∃ cs, Rd P d t cs ∧ u = mkArg (vw P t) cs) ∧ ∃ cs, Rd P d t2 cs ∧ v = mkArg (vw P t2) cs
 | [], h => h.elim
 | [u], h => h.2.elim
 | [u, v], h => ⟨u, v, rfl, h.1, h.2.1⟩
 | u :: v :: x :: r, h => h.2.2.elim
theorem args_three {P : Program} {d : Nat} {t t2 t3 : TypeId} : ∀ {largs : List LVal}, pV P d [t, t2, t3] largs → ∃ u v x, largs = [u, v, x] ∧ (∃ cs, Rd P d t cs ∧ u = mkArg (vw P t) cs) ∧ (∃ cs, Rd P d t2 cs ∧ v = mkArg (vw P t2) cs) ∧ ∃ cs, Rd P d t3 cs ∧ x = mkArg (vw P t3) cs
 | [], h => h.elim
 | [u], h => h.2.elim
 | [u, v], h => h.2.2.elim
 | [u, v, x], h => ⟨u, v, x, rfl, h.1, h.2.1, h.2.2.1⟩
 | u :: v :: x :: y :: r, h => h.2.2.2.elim
end Go.L
