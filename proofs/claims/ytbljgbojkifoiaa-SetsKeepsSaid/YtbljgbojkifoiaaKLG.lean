/- The interpreter, part LG. -/
import Derived.Test.YtbljgbojkifoiaaKLF
import Derived.LoopN
import Derived.Scope
/- L29: regions, whole. -/
set_option linter.unusedVariables false
set_option linter.unusedSimpArgs false
set_option linter.unusedSectionVars false
namespace Go.L
open Go

variable {P : Program} {vm : List Nat} {lm : List (Option Nat)} {ρ ρ' : List Nat} {S S' : Nat → Nat → Prop} {G G' : Nat → Cl} {σ σ' : RS} {a : Act} {w w' : World}
variable {C : CallL} {im : TypeId → String → Option FuncId} {impl : TypeId → TypeId → Bool}

/-! ### The number of temporaries stays -/
def Qs (n : Nat) (Q : Exit → Act → World → Prop) : Exit → Act → World → Prop := fun e a w => Q e a w ∧ (e = .normal → a.tmps.size = n)

theorem size_put (a : Act) (d : Option Tmp) (v : Value) : (a.put d v).tmps.size = a.tmps.size := by
  cases d <;> simp [Act.put]

theorem upon_size {o : Oper} {n : Nat} {Q : Exit → Act → World → Prop} {K K' : Act → World → Prop} (ha : a.tmps.size = n) (hk : ∀ a' w', a'.tmps.size = n → K a' w' → K' a' w') {r : Result Next} (h : o.upon P a K Q r) : o.upon P a K' (Qs n Q) r := by
  have hp : ∀ d v, (a.put d v).tmps.size = n := fun d v => (size_put ..).trans ha
  cases r with
  | ok x w' =>
    cases x with
    | value v => exact hk _ _ (hp ..) h
    | skip => exact hk _ _ (hp ..) h
    | defer d => exact hk _ _ ((size_put ..).trans ha) h
    | enter f args =>
      refine Calls.mono h ?_
      intro e w'' he
      cases e with
      | returned v => exact hk _ _ (hp ..) he
      | panicked c => exact ⟨he, fun e => by cases e⟩
      | outgrown => obtain ⟨a0, w0, h0⟩ := he; exact ⟨a0, w0, h0, fun e => by cases e⟩
    | row r args => exact Rows.mono h (fun v w'' he => hk _ _ (hp ..) he)
    | _ => exact h
  | halt x w' =>
    cases x with
    | panic v => exact ⟨h, fun e => by cases e⟩
    | _ => exact h

theorem wpOps_size {ops : Array Oper} {n : Nat} {Q : Exit → Act → World → Prop} : ∀ (l : List Nat) {a : Act} {w : World}, a.tmps.size = n → wpOps P ops Q l a w → wpOps P ops (Qs n Q) l a w
  | [], a, w, ha, h => ⟨h, fun _ => ha⟩
  | i :: l, a, w, ha, h => by
    rw [wpOps_cons] at h ⊢
    unfold wpOp at h ⊢
    cases hi : ops[i]? with
    | none => rw [hi] at h; exact wpOps_size l ha h
    | some o =>
      rw [hi] at h
      dsimp only at h ⊢
      split at h
      · rename_i hw
        rw [if_pos hw]
        rcases h with h | ⟨h1, a0, w0, h0⟩
        · exact .inl (upon_size ha (fun a' w' ha' hk => wpOps_size l ha' hk) h)
        · exact .inr ⟨h1, a0, w0, h0, fun e => by cases e⟩
      · rename_i hw
        rw [if_neg hw]
        exact wpOps_size l ((size_put ..).trans ha) h

/-! ### Into a region, and out -/
/-- Between regions. -/
def CR (P : Program) (vm : List Nat) (nt : Nat) (ρ : List Nat) (S : Nat → Nat → Prop) (G : Nat → Cl) (σ : RS) (a : Act) (w : World) : Prop := Rel P vm [] ρ S G σ a w ∧ σ.rs = [] ∧ a.tmps.size = nt

theorem Rel.enter (h : Rel P vm [] ρ S G σ a w) {lm : List (Option Nat)} (hl : ∀ (i t : Nat), lm[i]? = some (some t) → t < a.tmps.size) (n : Nat) : Rel P vm lm ρ S G { σ with rs := List.replicate n .undef } a w where
  defers := h.defers
  vsz := h.vsz
  lsz := hl
  swf := h.swf
  len := h.len
  rho := h.rho
  st := h.st
  vars := h.vars
  rs i v hv := by
    have := List.mem_of_getElem? hv
    exact .inl (List.eq_of_mem_replicate this)

theorem Rel.leave (h : Rel P vm lm ρ S G σ a w) : Rel P vm [] ρ S G { σ with rs := [] } a w where
  defers := h.defers
  vsz := h.vsz
  lsz i t hi := by simp at hi
  swf := h.swf
  len := h.len
  rho := h.rho
  st := h.st
  vars := h.vars
  rs i v hv := by simp at hv

/-- Each temporary once. -/
def nodupB : List Nat → Bool
  | [] => true
  | x :: l => !l.contains x && nodupB l
theorem nodupB_ok : ∀ {l : List Nat}, nodupB l = true → ∀ (i j t : Nat), l[i]? = some t → l[j]? = some t → i = j
  | [], _, i, _, _, hi, _ => by simp at hi
  | x :: l, h, i, j, t, hi, hj => by
    simp only [nodupB, Bool.and_eq_true, Bool.not_eq_true'] at h
    have hx : x ∉ l := by simpa using h.1
    cases i with
    | zero =>
      cases j with
      | zero => rfl
      | succ j => simp at hi hj; subst hi; exact absurd (List.mem_of_getElem? hj) hx
    | succ i =>
      cases j with
      | zero => simp at hi hj; subst hj; exact absurd (List.mem_of_getElem? hi) hx
      | succ j => simp at hi hj; rw [nodupB_ok h.2 i j t hi hj]

/-- The region's own temporaries: each once, none a variable's, all there. -/
def chkLm (vm : List Nat) (nt : Nat) (lm : List (Option Nat)) : Bool :=
  nodupB (lm.filterMap id) && (lm.filterMap id).all (fun t => !vm.contains t && decide (t < nt))

theorem lm_nodup : ∀ {lm : List (Option Nat)}, nodupB (lm.filterMap id) = true → ∀ (i j t : Nat), lm[i]? = some (some t) → lm[j]? = some (some t) → i = j
  | [], _, i, _, _, hi, _ => by simp at hi
  | none :: l, h, i, j, t, hi, hj => by
    cases i with
    | zero => simp at hi
    | succ i =>
      cases j with
      | zero => simp at hj
      | succ j => simp at hi hj; rw [lm_nodup (by simpa using h) i j t hi hj]
  | some x :: l, h, i, j, t, hi, hj => by
    simp only [List.filterMap_cons, id, nodupB, Bool.and_eq_true, Bool.not_eq_true'] at h
    have hx : ∀ k : Nat, l[k]? ≠ some (some x) := by
      intro k hk
      have h1 := h.1
      have : x ∈ l.filterMap id := List.mem_filterMap.2 ⟨some x, List.mem_of_getElem? hk, rfl⟩
      rw [List.contains_eq_mem] at h1
      simp at h1
      exact h1 (by simpa using this)
    cases i with
    | zero =>
      cases j with
      | zero => rfl
      | succ j => simp at hi hj; subst hi; exact absurd hj (hx j)
    | succ i =>
      cases j with
      | zero => simp at hi hj; subst hj; exact absurd hi (hx i)
      | succ j => simp at hi hj; rw [lm_nodup h.2 i j t hi hj]

theorem chkLm_ok {nt : Nat} (hv : nodupB vm = true) (h : chkLm vm nt lm = true) : WfMap vm lm ∧ ∀ (i t : Nat), lm[i]? = some (some t) → t < nt := by
  simp only [chkLm, Bool.and_eq_true] at h
  have key : ∀ (i t : Nat), lm[i]? = some (some t) → ¬ t ∈ vm ∧ t < nt := by
    intro i t hi
    have := List.all_eq_true.1 h.2 t (List.mem_filterMap.2 ⟨some t, List.mem_of_getElem? hi, rfl⟩)
    simpa using this
  exact ⟨⟨nodupB_ok hv, lm_nodup h.1, fun i k t hi hk => (key i t hi).1 (List.mem_of_getElem? hk)⟩, fun i t hi => (key i t hi).2⟩

def chkRegion (P : Program) (vm : List Nat) (nt : Nat) (ops : Array Oper) (draw : Bool) (n : Nat) (los : List LOper) : Bool :=
  let lm := lmOf ops.toList los
  n == ops.size && los.length == ops.size && chkLm vm nt lm && chkOpers P vm lm ops 0 los && (!draw || chkDraw ops los)

theorem chkOpers_at {ops : Array Oper} : ∀ {los : List LOper} {i : Nat}, chkOpers P vm lm ops i los = true → ∀ (j : Nat) (lo : LOper), los[j]? = some lo → lo.ix = i + j ∧ ∃ o, ops[i + j]? = some o ∧ chkOper P vm lm ops o lo = true
  | [], _, _, j, lo, hj => by simp at hj
  | x :: l, i, h, j, lo, hj => by
    simp only [chkOpers, Bool.and_eq_true, beq_iff_eq] at h
    obtain ⟨⟨h1, h2⟩, h3⟩ := h
    cases j with
    | zero =>
      simp at hj; subst hj
      cases hi : ops[i]? with
      | none => rw [hi] at h2; cases h2
      | some o => rw [hi] at h2; exact ⟨h1, o, by simp, h2⟩
    | succ j =>
      simp at hj
      have := chkOpers_at h3 j lo hj
      rw [show i + (j + 1) = i + 1 + j by omega]; exact this

theorem region_ok (hv : nodupB vm = true) (hC : SoundC P C) (hI : Impl P impl) {nt n id : Nat} {ops : Array Oper} {los : List LOper} {draw : Bool} (hc : chkRegion P vm nt ops draw n los = true) (h : CR P vm nt ρ S G σ a w) {σ1 : RS}
    (hr : (if draw then runOpsD C im impl los { σ.settle with rs := List.replicate n .undef } else runOps C im impl los { σ with rs := List.replicate n .undef }) = some σ1) {Q : Exit → Act → World → Prop}
    (hk : ∀ a' w', (∃ ρ' S' G', CR P vm nt ρ' S' G' { σ1 with rs := [] } a' w' ∧ Pr w S G ρ w' S' G' ρ') → Q .normal a' w') : (Code.region id ops draw).wp P Q a w := by
  obtain ⟨h1, h2, h3⟩ := h
  simp only [chkRegion, Bool.and_eq_true, beq_iff_eq] at hc
  obtain ⟨⟨⟨⟨c1, c2⟩, c3⟩, c4⟩, c5⟩ := hc
  obtain ⟨wf, hlt⟩ := chkLm_ok hv c3
  have fin : ∀ {ρ0 S0 G0 w0} {e : Exit} {a' : Act} {w' : World}, Pr w S G ρ w0 S0 G0 ρ0 → Qs nt (fun e a' w' => e = .normal ∧ After P vm (lmOf ops.toList los) ρ0 S0 G0 w0 σ1 a' w') e a' w' → Q e a' w' := by
    intro ρ0 S0 G0 w0 e a' w' hp hq
    obtain ⟨⟨rfl, ρ', S', G', k1, k2⟩, k3⟩ := hq
    exact hk a' w' ⟨ρ', S', G', ⟨k1.leave, rfl, k3 rfl⟩, hp.trans k2⟩
  have hlm : ∀ (i t : Nat), (lmOf ops.toList los)[i]? = some (some t) → t < a.tmps.size := fun i t hi => by rw [h3]; exact hlt i t hi
  cases draw with
  | false =>
    simp only [Bool.false_eq_true, if_false] at hr
    have hE := h1.enter hlm n
    have h4 := ops_ok (Q := fun e a' w' => e = .normal ∧ After P vm (lmOf ops.toList los) ρ S G w σ1 a' w') wf hC hI hE c4 hr (fun a' w' hA => ⟨rfl, hA⟩)
    rw [c2] at h4
    have h5 : (Code.region id ops false).wp P (Qs nt fun e a' w' => e = .normal ∧ After P vm (lmOf ops.toList los) ρ S G w σ1 a' w') a w :=
      wp_region (by rw [List.range_eq_range']; exact wpOps_size _ h3 h4)
    exact wp_mono h5 fun e a' w' hq => fin (Pr.refl ..) hq
  | true =>
    simp only [if_true] at hr
    have hdr : chkDraw ops los = true := by simpa using c5
    obtain ⟨S0, G0, k0, p0⟩ := h1.settle
    obtain ⟨k1, p1⟩ := k0.drew
    have hE := k1.enter hlm n
    have hat : ∀ (i : Nat) (lo : LOper), los[i]? = some lo → ∃ o, ops[i]? = some o ∧ chkOper P vm (lmOf ops.toList los) ops o lo = true := fun i lo hi => by
      have := (chkOpers_at c4 i lo hi).2
      simpa using this
    have hix : ∀ (i : Nat) (lo : LOper), los[i]? = some lo → lo.ix = i := fun i lo hi => by have := (chkOpers_at c4 i lo hi).1; omega
    have hinv : DInv ops los los (Array.replicate ops.size false) := {
      size := by simp
      mem := fun lo hlo => by
        obtain ⟨i, hi, e⟩ := List.getElem_of_mem hlo
        have hg : los[i]? = some lo := by rw [List.getElem?_eq_getElem hi, e]
        rw [hix i lo hg]
        exact ⟨hg, by rw [Array.getElem?_replicate, if_pos (by omega)]⟩
      all := fun i hi => by
        have hlt' : i < los.length := by
          rw [c2]
          have := (Array.getElem?_eq_some_iff.1 hi).1
          simpa using this
        exact ⟨los[i], List.getElem_mem hlt', hix i _ (List.getElem?_eq_getElem hlt')⟩
      sorted := by
        rw [List.pairwise_iff_getElem]
        intro i j hi hj hij
        rw [hix i _ (List.getElem?_eq_getElem hi), hix j _ (List.getElem?_eq_getElem hj)]
        exact hij
      closed := fun i hi => by
        have := (Array.getElem?_eq_some_iff.1 hi)
        obtain ⟨q1, q2⟩ := this
        simp at q2 }
    have hund : ∀ lo ∈ los, ({ σ.settle with rs := List.replicate n .undef } : RS).rs[lo.ix]? = some .undef := by
      intro lo hlo
      obtain ⟨i, hi, e⟩ := List.getElem_of_mem hlo
      have hg : los[i]? = some lo := by rw [List.getElem?_eq_getElem hi, e]
      have := hix i lo hg
      simp only [List.getElem?_replicate]
      rw [if_pos (by omega)]
    have any : ∀ md, wpAny P md ops (fun e a' w' => e = .normal ∧ After P vm (lmOf ops.toList los) ρ S0 G0 w.drew σ1 a' w') ops.size (Array.replicate ops.size false) a w.drew := fun md =>
      any_ok (md := md) wf hC hI hdr c4 hat c2.symm hinv hE hund hr (fun a' w' hA => ⟨rfl, hA⟩)
    have h5 : (Code.region id ops true).wp P (Qs nt fun e a' w' => e = .normal ∧ After P vm (lmOf ops.toList los) ρ S0 G0 w.drew σ1 a' w') a w := by
      refine wp_region_draw fun t => wpOps_size _ h3 ?_
      unfold Region.schedule
      split
      · exact wpAny_sound _ _ _ _ _ (any .any)
      · exact wpAny_sound _ _ _ _ _ (any _)
    exact wp_mono h5 fun e a' w' hq => fin (p0.trans p1) hq
end Go.L
/- L30: codes. -/
set_option linter.unusedVariables false
set_option linter.unusedSimpArgs false
set_option linter.unusedSectionVars false
namespace Go.L
open Go

variable {P : Program} {vm : List Nat} {lm : List (Option Nat)} {ρ ρ' : List Nat} {S S' : Nat → Nat → Prop} {G G' : Nat → Cl} {σ σ' : RS} {a : Act} {w w' : World}
variable {C : CallL} {im : TypeId → String → Option FuncId} {impl : TypeId → TypeId → Bool}

/-! ### What leads to no object from n on -/
theorem V.within {n : Nat} {v : LVal} {cv : Value} (h : V w S ρ v cv) : v.within n = true → V w S (ρ.take n) v cv := by
  have hget : ∀ {ρ : List Nat} {id b : Nat}, id < n → ρ[id]? = some b → (ρ.take n)[id]? = some b := by
    intro ρ id b hlt h; rw [List.getElem?_take, if_pos hlt]; exact h
  refine V.rec (motive_1 := fun ρ v cv _ => v.within n = true → V w S (ρ.take n) v cv)
    (motive_2 := fun ρ l cs _ => LVal.withins n l = true → VL w S (ρ.take n) l cs)
    (motive_3 := fun b off l _ => True) ?_ ?_ ?_ ?_ ?_ ?_ ?_ ?_ ?_ ?_ ?_ ?_ ?_ ?_ ?_ ?_ ?_ ?_ ?_ ?_ ?_ ?_ ?_ h
  · intros; exact .undef
  · intros; exact .bool _
  · intros; exact .int _ _
  · intros; exact .str _
  · intro ρ id off b h hp; exact .ptr (hget (by simpa [LVal.within] using hp) h)
  · intro ρ v b off h _ _; exact .ref h
  · intros; exact .nilptr
  · intros; exact .nils
  · intro ρ o n xs b off cap h1 h2 h3 h4 h5 _ _; exact .vs h1 h2 h3 h4 h5
  · intros; exact .vz
  · intro ρ id b off len esz agg cap h h1 h2 hp; exact .ms (hget (by simpa [LVal.within] using hp) h) h1 h2
  · intro ρ id b h hp; exact .map (hget (by simpa [LVal.within] using hp) h)
  · intros; exact .nilmap
  · intro ρ f caps cs _ hp ih hpf; exact .func (ih (by simpa [LVal.within] using hpf)) hp
  · intros; exact .nilfunc
  · intro ρ t v x _ hp ih hpf; exact .iface (ih (by simpa [LVal.within] using hpf)) hp
  · intros; exact .niliface
  · intro ρ cs xs _ hp ih hpf; exact .agg (ih (by simpa [LVal.within] using hpf)) hp
  · intro ρ l xs _ hp ih hpf; exact .tup (ih (by simpa [LVal.within] using hpf)) hp
  · intros; exact .nil
  · intro ρ v c vs cs _ _ i1 i2 hpf
    simp only [LVal.withins, Bool.and_eq_true] at hpf
    exact .cons (i1 hpf.1) (i2 hpf.2)
  · intros; trivial
  · intros; trivial

theorem withins_get {n : Nat} : ∀ {l : List LVal}, LVal.withins n l = true → ∀ (i : Nat) (v : LVal), l[i]? = some v → v.within n = true
  | [], _, i, v, h => by simp at h
  | x :: l, hl, i, v, h => by
    simp only [LVal.withins, Bool.and_eq_true] at hl
    cases i with
    | zero => simp at h; subst h; exact hl.1
    | succ i => exact withins_get hl.2 i v (by simpa using h)

theorem At1.within {pk l v cv} {n : Nat} (h : At1 P w S G ρ pk l v cv) (hw : v.within n = true) : At1 P w S G (ρ.take n) pk l v cv := by
  by_cases hs : v.simple = true
  · exact (At1.simple hs).2 (((At1.simple hs).1 h).within hw)
  · cases v with
    | vs b o n xs =>
      cases o with
      | own e x => exact h
      | pk p => exact h
      | _ => simp [LVal.simple] at hs
    | tup l => exact V.within h hw
    | _ => simp [LVal.simple] at hs

theorem At.within {pk b v cv} {n : Nat} (h : At P w S G ρ pk b v cv) (hw : v.within n = true) : At P w S G (ρ.take n) pk b v cv := by
  cases v with
  | tup l =>
    obtain ⟨cs, h1, h2, h3⟩ := h
    refine ⟨cs, h1, h2, fun c u hu => ?_⟩
    obtain ⟨k0, cu, k1, k2⟩ := h3 c u hu
    exact ⟨k0, cu, k1, k2.within (withins_get (by simpa [LVal.within] using hw) c u hu)⟩
  | _ => exact (At.nt (by simp)).2 (((At.nt (by simp)).1 h).within hw)

theorem ObjAt.within {id : Nat} {o : LObj} {n : Nat} (hid : id < n) (h : ObjAt P w S G ρ id o) (hw : o.within n = true) : ObjAt P w S G (ρ.take n) id o := by
  have hget : ∀ {b : Nat}, ρ[id]? = some b → (ρ.take n)[id]? = some b := fun h => by rw [List.getElem?_take, if_pos hid]; exact h
  cases o with
  | dead => trivial
  | cells et c =>
    obtain ⟨b, cc, h1, h2, h3, h4, h5⟩ := h
    refine ⟨b, cc, hget h1, h2, h3, h4, fun off v hv => ?_⟩
    obtain ⟨m0, cv, m1, m2⟩ := h5 off v hv
    exact ⟨m0, cv, m1, m2.within (withins_get (by simpa [LObj.within] using hw) off v hv)⟩
  | map es =>
    obtain ⟨b, ces, clock, h1, h2, h3, h4, h5, h6⟩ := h
    simp only [LObj.within, Bool.and_eq_true] at hw
    refine ⟨b, ces, clock, hget h1, h2, h3, h4, h5, fun i e hi => ?_⟩
    obtain ⟨ce, m1, m2, m3, m4, m5⟩ := h6 i e hi
    exact ⟨ce, m1, m2, m3, m4.within (withins_get hw.2 i e.2 (by simp [hi])), m5⟩

theorem kill_get : ∀ (ks : List Nat) (l : List LVal) (k : Nat) (v : LVal), (kill ks l)[k]? = some v → v = .undef ∨ l[k]? = some v
  | [], l, k, v, h => .inr h
  | x :: ks, l, k, v, h => by
    have h' : (kill ks (l.set x .undef))[k]? = some v := h
    rcases kill_get ks _ k v h' with h1 | h1
    · exact .inl h1
    · rw [List.getElem?_set] at h1
      split at h1
      · split at h1
        · injection h1 with h1; exact .inl h1.symm
        · cases h1
      · exact .inr h1

theorem kill_len : ∀ (ks : List Nat) (l : List LVal), (kill ks l).length = l.length
  | [], l => rfl
  | x :: ks, l => by
    have : (kill (x :: ks) l) = kill ks (l.set x .undef) := rfl
    rw [this, kill_len]; simp

/-- A block that is left: what it had for itself is forgotten. -/
theorem CR.fence {nt n : Nat} {ks : List Nat} (h : CR P vm nt ρ S G σ a w) (h1 : LVal.withins n (kill ks σ.vars) = true) (h2 : (σ.st.take n).all (LObj.within n) = true) (h3 : n ≤ σ.st.length) :
    CR P vm nt (ρ.take n) S G { vars := kill ks σ.vars, st := σ.st.take n, rs := [] } a w := by
  obtain ⟨k1, k2, k3⟩ := h
  refine ⟨?_, rfl, k3⟩
  exact {
    defers := k1.defers
    vsz := k1.vsz
    lsz := k1.lsz
    swf := k1.swf
    len := by have := k1.len; simp; omega
    rho := fun id b hb => by
      rw [List.getElem?_take] at hb
      split at hb
      · exact k1.rho id b hb
      · cases hb
    st := fun id o ho => by
      have hmem := List.mem_of_getElem? ho
      rw [List.getElem?_take] at ho
      split at ho
      · rename_i hid
        exact (k1.st id o ho).within hid (List.all_eq_true.1 h2 o hmem)
      · cases ho
    vars := fun k v hv => by
      have hw := withins_get h1 k v hv
      rcases kill_get ks σ.vars k v hv with rfl | hv'
      · have hk : k < σ.vars.length := by have := (List.getElem?_eq_some_iff.1 hv).1; rwa [kill_len] at this
        obtain ⟨t, q1, q2, _⟩ := k1.vars k _ (List.getElem?_eq_getElem hk)
        exact ⟨t, q1, q2, (At.simple rfl).2 .undef⟩
      · obtain ⟨t, q1, q2, q3⟩ := k1.vars k v hv'
        exact ⟨t, q1, q2, q3.within hw⟩
    rs := fun i v hv => by simp at hv }

/-! ### Codes -/
def unfence : LCode → LCode
  | .fence _ b => unfence b
  | c => c

def chkCode (P : Program) (vm : List Nat) (nt : Nat) : Code → LCode → Bool
  | .scope b, l => chkCode P vm nt b l
  | .skip, l => match unfence l with | .skip => true | _ => false
  | .region _ ops d, l => match unfence l with | .region n los d' => d == d' && chkRegion P vm nt ops d n los | _ => false
  | .seq a b, l => match unfence l with | .seq a' b' => chkCode P vm nt a a' && chkCode P vm nt b b' | _ => false
  | .cond c x y, l => match unfence l with | .cond c' x' y' => chkOpd vm [] c c' && chkCode P vm nt x x' && chkCode P vm nt y y' | _ => false
  | .block id b, l => match unfence l with | .block id' b' => id == id' && chkCode P vm nt b b' | _ => false
  | .loop b, l => match unfence l with | .loop b' => chkCode P vm nt b b' | _ => false
  | .exit id, l => match unfence l with | .exit id' => id == id' | _ => false
  | .ret, l => match unfence l with | .ret => true | _ => false
  | _, l => match unfence l with | .dead => true | _ => false

def toExit : LExit → Exit
  | .normal => .normal
  | .exit id => .exit id
  | .ret => .ret

/-- What the interpreter's code computes, the model's code does. -/
def OK (P : Program) (C : CallL) (im : TypeId → String → Option FuncId) (impl : TypeId → TypeId → Bool) (vm : List Nat) (nt : Nat) (c : Code) (l : LCode) : Prop :=
  ∀ (fuel : Nat) ρ S G σ a w ex σ', CR P vm nt ρ S G σ a w → codeN C im impl fuel l σ = some (ex, σ') → ∀ Q : Exit → Act → World → Prop,
    (∀ a' w', (∃ ρ' S' G', CR P vm nt ρ' S' G' σ' a' w' ∧ Pr w S G ρ w' S' G' ρ') → Q (toExit ex) a' w') → c.wp P Q a w

theorem OK.fence {nt : Nat} {c : Code} {ks : List Nat} {l : LCode} (h : OK P C im impl vm nt c l) : OK P C im impl vm nt c (.fence ks l) := by
  intro fuel ρ S G σ a w ex σ' hr hc Q hk
  simp only [codeN, Option.bind_eq_some_iff] at hc
  obtain ⟨⟨ex1, σ1⟩, h1, h2⟩ := hc
  unfold fenceOut at h2
  cases ex1 with
  | normal =>
    dsimp only at h2
    split at h2
    · rename_i hcond
      obtain ⟨q1, q2, q3⟩ := hcond
      injection h2 with h2; injection h2 with e1 e2; subst e1; subst e2
      refine h fuel ρ S G σ a w _ _ hr h1 Q fun a' w' ⟨ρ', S', G', k1, k2⟩ => hk a' w' ⟨ρ'.take σ.st.length, S', G', k1.fence q1 q2 q3, ?_⟩
      refine ⟨k2.os, k2.tape, k2.output, k2.size, k2.ext, fun id b hb => ?_, k2.frame, k2.snew⟩
      have hlt : id < σ.st.length := by rw [← hr.1.len]; exact (List.getElem?_eq_some_iff.1 hb).1
      rw [List.getElem?_take, if_pos hlt]
      exact k2.rho id b hb
    · cases h2
  | exit id =>
    injection h2 with h2; injection h2 with e1 e2; subst e1; subst e2
    exact h fuel ρ S G σ a w _ _ hr h1 Q hk
  | ret =>
    injection h2 with h2; injection h2 with e1 e2; subst e1; subst e2
    exact h fuel ρ S G σ a w _ _ hr h1 Q hk

theorem OK.unfence {nt : Nat} {c : Code} : ∀ {l : LCode}, OK P C im impl vm nt c (unfence l) → OK P C im impl vm nt c l
  | .fence ks b, h => OK.fence (OK.unfence (l := b) h)
  | .skip, h => h
  | .region .., h => h
  | .seq .., h => h
  | .cond .., h => h
  | .block .., h => h
  | .loop .., h => h
  | .exit .., h => h
  | .ret, h => h
  | .dead, h => h

theorem code_ok (hv : nodupB vm = true) (hC : SoundC P C) (hI : Impl P impl) {nt : Nat} : ∀ (c : Code) {l : LCode}, chkCode P vm nt c l = true → OK P C im impl vm nt c l
  | .scope b, l, h => by
    intro fuel ρ S G σ a w ex σ' hr hc Q hk
    refine wp_scope_straight (code_ok hv hC hI b (l := l) (by simpa [chkCode] using h) fuel ρ S G σ a w ex σ' hr hc _ fun a' w' hA => ?_)
    have := hk a' w' hA
    cases ex <;> exact this
  | .skip, l, h => by
    refine OK.unfence ?_
    simp only [chkCode] at h
    split at h
    · rename_i e; rw [e]
      intro fuel ρ S G σ a w ex σ' hr hc Q hk
      simp only [codeN, Option.some.injEq, Prod.mk.injEq] at hc
      obtain ⟨rfl, rfl⟩ := hc
      exact wp_skip (hk _ _ ⟨ρ, S, G, hr, Pr.refl ..⟩)
    · cases h
  | .region id ops d, l, h => by
    refine OK.unfence ?_
    simp only [chkCode] at h
    split at h
    · rename_i n los d' e; rw [e]
      simp only [Bool.and_eq_true, beq_iff_eq] at h
      obtain ⟨rfl, h⟩ := h
      intro fuel ρ S G σ a w ex σ' hr hc Q hk
      simp only [codeN, Option.map_eq_some_iff] at hc
      obtain ⟨σ1, h1, h2⟩ := hc
      injection h2 with e1 e2; subst e1; subst e2
      exact region_ok hv hC hI h hr h1 hk
    · cases h
  | .seq x y, l, h => by
    refine OK.unfence ?_
    simp only [chkCode] at h
    split at h
    · rename_i x' y' e; rw [e]
      simp only [Bool.and_eq_true] at h
      intro fuel ρ S G σ a w ex σ' hr hc Q hk
      simp only [codeN, Option.bind_eq_some_iff] at hc
      obtain ⟨⟨ex1, σ1⟩, h1, h2⟩ := hc
      refine wp_seq (code_ok hv hC hI x h.1 fuel ρ S G σ a w ex1 σ1 hr h1 _ fun a' w' ⟨ρ', S', G', k1, k2⟩ => ?_)
      cases ex1 with
      | normal => exact code_ok hv hC hI y h.2 fuel ρ' S' G' σ1 a' w' ex σ' k1 h2 Q fun a2 w2 ⟨ρ2, S2, G2, m1, m2⟩ => hk a2 w2 ⟨ρ2, S2, G2, m1, k2.trans m2⟩
      | exit id => injection h2 with h2; injection h2 with e1 e2; subst e1; subst e2; exact hk a' w' ⟨ρ', S', G', k1, k2⟩
      | ret => injection h2 with h2; injection h2 with e1 e2; subst e1; subst e2; exact hk a' w' ⟨ρ', S', G', k1, k2⟩
    · cases h
  | .cond c x y, l, h => by
    refine OK.unfence ?_
    simp only [chkCode] at h
    split at h
    · rename_i c' x' y' e; rw [e]
      simp only [Bool.and_eq_true] at h
      obtain ⟨⟨c1, c2⟩, c3⟩ := h
      intro fuel ρ S G σ a w ex σ' hr hc Q hk
      simp only [codeN, Option.bind_eq_some_iff] at hc
      obtain ⟨v, hv', h2⟩ := hc
      cases v with
      | bool t =>
        have he := (hr.1.peek_V c1 hv' rfl).bool_inv
        refine wp_cond he ?_
        cases t with
        | true => exact code_ok hv hC hI x c2 fuel ρ S G σ a w ex σ' hr (by simpa using h2) Q hk
        | false => exact code_ok hv hC hI y c3 fuel ρ S G σ a w ex σ' hr (by simpa using h2) Q hk
      | _ => simp at h2
    · cases h
  | .block id b, l, h => by
    refine OK.unfence ?_
    simp only [chkCode] at h
    split at h
    · rename_i id' b' e; rw [e]
      simp only [Bool.and_eq_true, beq_iff_eq] at h
      obtain ⟨rfl, h⟩ := h
      intro fuel ρ S G σ a w ex σ' hr hc Q hk
      simp only [codeN, Option.map_eq_some_iff] at hc
      obtain ⟨⟨ex1, σ1⟩, h1, h2⟩ := hc
      refine wp_block (code_ok hv hC hI b h fuel ρ S G σ a w ex1 σ1 hr h1 _ fun a' w' hA => ?_)
      cases ex1 with
      | normal => simp at h2; obtain ⟨rfl, rfl⟩ := h2; exact hk a' w' hA
      | ret => simp at h2; obtain ⟨rfl, rfl⟩ := h2; exact hk a' w' hA
      | exit i =>
        simp only [toExit, Exit.inBlock]
        dsimp only at h2
        by_cases hi : i = id
        · subst hi
          simp at h2; obtain ⟨rfl, rfl⟩ := h2
          rw [if_pos rfl]; exact hk a' w' hA
        · rw [if_neg (by simp [hi])] at h2
          injection h2 with e1 e2; subst e1; subst e2
          rw [if_neg hi]; exact hk a' w' hA
    · cases h
  | .loop b, l, h => by
    refine OK.unfence ?_
    simp only [chkCode] at h
    split at h
    · rename_i b' e; rw [e]
      have hb : OK P C im impl vm nt b b' := code_ok hv hC hI b h
      intro fuel ρ S G σ a w ex σ' hr hc Q hk
      simp only [codeN] at hc
      refine wp_loop_rounds fuel ?_
      have key : ∀ (n : Nat) ρ S G σ a w, CR P vm nt ρ S G σ a w → loopN (codeN C im impl fuel b') n σ = some (ex, σ') →
          (∀ a' w', (∃ ρ' S' G', CR P vm nt ρ' S' G' σ' a' w' ∧ Pr w S G ρ w' S' G' ρ') → Q (toExit ex) a' w') → Code.rounds P b Q n a w := by
        intro n
        induction n with
        | zero => intro ρ S G σ a w _ hc; simp [loopN] at hc
        | succ n ih =>
          intro ρ S G σ a w hr hc hk
          simp only [loopN, Option.bind_eq_some_iff] at hc
          obtain ⟨⟨ex1, σ1⟩, h1, h2⟩ := hc
          rw [rounds_succ]
          refine hb fuel ρ S G σ a w ex1 σ1 hr h1 _ fun a' w' ⟨ρ', S', G', k1, k2⟩ => ?_
          cases ex1 with
          | normal => exact ih ρ' S' G' σ1 a' w' k1 h2 fun a2 w2 ⟨ρ2, S2, G2, m1, m2⟩ => hk a2 w2 ⟨ρ2, S2, G2, m1, k2.trans m2⟩
          | exit id => injection h2 with h2; injection h2 with e1 e2; subst e1; subst e2; exact hk a' w' ⟨ρ', S', G', k1, k2⟩
          | ret => injection h2 with h2; injection h2 with e1 e2; subst e1; subst e2; exact hk a' w' ⟨ρ', S', G', k1, k2⟩
      exact key fuel ρ S G σ a w hr hc hk
    · cases h
  | .exit id, l, h => by
    refine OK.unfence ?_
    simp only [chkCode] at h
    split at h
    · rename_i id' e; rw [e]
      simp only [beq_iff_eq] at h; subst h
      intro fuel ρ S G σ a w ex σ' hr hc Q hk
      simp only [codeN, Option.some.injEq, Prod.mk.injEq] at hc
      obtain ⟨rfl, rfl⟩ := hc
      exact wp_exit (hk _ _ ⟨ρ, S, G, hr, Pr.refl ..⟩)
    · cases h
  | .ret, l, h => by
    refine OK.unfence ?_
    simp only [chkCode] at h
    split at h
    · rename_i e; rw [e]
      intro fuel ρ S G σ a w ex σ' hr hc Q hk
      simp only [codeN, Option.some.injEq, Prod.mk.injEq] at hc
      obtain ⟨rfl, rfl⟩ := hc
      exact wp_ret (hk _ _ ⟨ρ, S, G, hr, Pr.refl ..⟩)
    · cases h
  | .rangeFunc .., l, h => by
    refine OK.unfence ?_
    simp only [chkCode] at h
    split at h
    · rename_i e; rw [e]; intro fuel ρ S G σ a w ex σ' hr hc; simp [codeN] at hc
    · cases h
  | .label _, l, h => by
    refine OK.unfence ?_
    simp only [chkCode] at h
    split at h
    · rename_i e; rw [e]; intro fuel ρ S G σ a w ex σ' hr hc; simp [codeN] at hc
    · cases h
  | .goto _, l, h => by
    refine OK.unfence ?_
    simp only [chkCode] at h
    split at h
    · rename_i e; rw [e]; intro fuel ρ S G σ a w ex σ' hr hc; simp [codeN] at hc
    · cases h
  | .refuse _, l, h => by
    refine OK.unfence ?_
    simp only [chkCode] at h
    split at h
    · rename_i e; rw [e]; intro fuel ρ S G σ a w ex σ' hr hc; simp [codeN] at hc
    · cases h
end Go.L
/- L31: functions. -/
set_option linter.unusedVariables false
set_option linter.unusedSimpArgs false
set_option linter.unusedSectionVars false
namespace Go.L
open Go

variable {P : Program} {vm : List Nat} {lm : List (Option Nat)} {ρ ρ' : List Nat} {S S' : Nat → Nat → Prop} {G G' : Nat → Cl} {σ σ' : RS} {a : Act} {w w' : World}
variable {C : CallL} {im : TypeId → String → Option FuncId} {impl : TypeId → TypeId → Bool}

def chkStart (vm : List Nat) (init : List (Option Nat)) (np nt : Nat) : Bool :=
  nodupB vm && vm.all (fun t => decide (t < nt)) && decide (np ≤ nt) && init.length == vm.length && (vm.zip init).all fun p => match p.2 with
    | none => true
    | some i => i == p.1

/-- A call begins. -/
theorem CR.start {init : List (Option Nat)} {np nt : Nat} (hc : chkStart vm init np nt = true) {st : List LObj} (h : CRel P w S G ρ st) {args : List LVal} {cargs : List Value} (hV : VL w S ρ args cargs) (hs : ∀ u ∈ args, u.simple = true) (hl : args.length = np) :
    CR P vm nt ρ S G { vars := initVars init args, st := st, rs := [] } { tmps := (⟨cargs⟩ : Array Value) ++ Array.replicate (nt - (⟨cargs⟩ : Array Value).size) undef, defers := [] } w := by
  simp only [chkStart, Bool.and_eq_true, decide_eq_true_eq, beq_iff_eq] at hc
  obtain ⟨⟨⟨⟨c1, c2⟩, c3⟩, c4⟩, c5⟩ := hc
  have hcl : cargs.length = np := by rw [← hV.length, hl]
  have hsz : ((⟨cargs⟩ : Array Value) ++ Array.replicate (nt - (⟨cargs⟩ : Array Value).size) undef).size = nt := by simp; omega
  have hvt : ∀ (k t : Nat), vm[k]? = some t → t < nt := fun k t hk => by simpa using List.all_eq_true.1 c2 t (List.mem_of_getElem? hk)
  refine ⟨?_, rfl, hsz⟩
  exact {
    defers := rfl
    vsz := fun k t hk => by rw [hsz]; exact hvt k t hk
    lsz := fun i t hi => by simp at hi
    swf := h.swf
    len := h.len
    rho := h.rho
    st := h.st
    vars := fun k v hv => by
      simp only [initVars, List.getElem?_map, Option.map_eq_some_iff] at hv
      obtain ⟨o, ho, hv⟩ := hv
      have hkl : k < vm.length := by rw [← c4]; exact (List.getElem?_eq_some_iff.1 ho).1
      obtain ⟨t, ht⟩ : ∃ t, vm[k]? = some t := ⟨vm[k], List.getElem?_eq_getElem hkl⟩
      refine ⟨t, ht, by rw [hsz]; exact hvt k t ht, ?_⟩
      have hz : (t, o) ∈ vm.zip init := List.mem_of_getElem? (i := k) (by rw [List.getElem?_zip_eq_some]; exact ⟨ht, ho⟩)
      have hto := List.all_eq_true.1 c5 _ hz
      cases o with
      | none =>
        simp at hv; subst hv
        exact (At.simple rfl).2 .undef
      | some i =>
        simp only [beq_iff_eq] at hto
        subst hto
        cases hai : args[i]? with
        | none =>
          simp [hai] at hv; subst hv
          exact (At.simple rfl).2 .undef
        | some u =>
          simp [hai] at hv; subst hv
          obtain ⟨c, hcg, hcv⟩ := hV.get i u hai
          have hsu := hs u (List.mem_of_getElem? hai)
          have hget : ((⟨cargs⟩ : Array Value) ++ Array.replicate (nt - (⟨cargs⟩ : Array Value).size) undef).getD i undef = c := by
            have hlt := (List.getElem?_eq_some_iff.1 hcg).1
            rw [Array.getD_eq_getD_getElem?, Array.getElem?_append_left (by simpa using hlt)]
            simp [hcg]
          rw [hget]
          exact (At.simple hsu).2 hcv
    rs := fun i v hv => by simp at hv }

/-! ### Results -/
def chkRes (P : Program) (vm : List Nat) : List ResultVar → List ResL → Bool
  | [], [] => true
  | .tmp t :: rs, .var k :: ls => vm[k]? == some t && chkRes P vm rs ls
  | .cell t ty :: rs, .cell k n agg :: ls => vm[k]? == some t && tyOk P ty agg n && chkRes P vm rs ls
  | _, _ => false

/-- What a variable holds goes over to the c-th place of what is pending. -/
theorem Rel.moveVar (h : Rel P vm [] ρ S G σ a w) (hn : σ.nopk) {k : Nat} {v : LVal} (hv : σ.vars[k]? = some v) (hnt : ∀ l, v ≠ .tup l) (c : Nat) :
    ∃ t G', vm[k]? = some t ∧ Rel P vm [] ρ S G' { σ with vars := σ.vars.set k .undef } a w ∧ At1 P w S G' ρ noPkOk (.pend, c) v (a.tmps.getD t undef) ∧ Pr w S G ρ w S G' ρ ∧
      ∀ bl c' e x, G bl = .arr (.pend, c') e x → G' bl = G bl := by
  obtain ⟨t, h1, h2, h3⟩ := h.vars k v hv
  have h3 := (At.nt hnt).1 h3
  have hu := h.varUndef hn k
  by_cases hs : v.simple = true
  · exact ⟨t, G, h1, hu, (At1.simple hs).2 ((At1.simple hs).1 h3), Pr.refl .., fun _ _ _ _ _ => rfl⟩
  · cases v with
    | vs b o n xs =>
      cases o with
      | own e x =>
        obtain ⟨hb0, b0, cap, cur, z1, z2, z3, z4, z5, z6, z7, z8, z9, z10⟩ := h3
        have hne : ∀ bl l' e' x', G bl = .arr l' e' x' → l' ≠ (.var k, 0) → gset G b0 (.pend, c) (xs.length * n) x bl = G bl := by
          intro bl l' e' x' hg hl
          unfold gset
          split
          · rename_i hbl; subst hbl; rw [z8] at hg; injection hg with g1; exact absurd g1.symm hl
          · rfl
        have hbox : ∀ bl id, G bl = .box id → gset G b0 (.pend, c) (xs.length * n) x bl = G bl := by
          intro bl id hg
          unfold gset
          split
          · rename_i hbl; subst hbl; rw [z8] at hg; cases hg
          · rfl
        refine ⟨t, gset G b0 (.pend, c) (xs.length * n) x, h1, ?_, ⟨hb0, b0, cap, cur, z1, z2, z3, z4, z5, z6, z7, by simp [gset], z9, z10⟩, ?_, fun bl c' e' x' hg => hne bl _ _ _ hg (by simp)⟩
        · exact {
            defers := hu.defers
            vsz := hu.vsz
            lsz := hu.lsz
            swf := {
              lt := h.swf.lt
              fresh := fun bl hbl => by
                unfold gset
                split
                · rename_i hb; subst hb
                  have := h.swf.fresh _ hbl
                  rw [z8] at this; cases this
                · exact h.swf.fresh bl hbl
              box := fun bl o id hS hg => by
                unfold gset at hg
                split at hg
                · cases hg
                · exact h.swf.box bl o id hS hg
              arr := fun bl o l' e' x' hS hg => by
                unfold gset at hg
                split at hg
                · rename_i hb; subst hb
                  injection hg with g1 g2 g3; subst g2; subst g3
                  exact h.swf.arr _ o _ _ _ hS z8
                · exact h.swf.arr bl o _ _ _ hS hg }
            len := hu.len
            rho := hu.rho
            st := fun id ob hob => (hu.st id ob hob).keep (Ext.refl _ _) (RhoLe.refl _) (fun bl hg => ⟨rfl, hbox bl _ hg⟩) (fun bl off c e' x' hg => ⟨rfl, hne bl _ _ _ hg (by simp)⟩)
            vars := fun j u hj => by
              by_cases hjk : k = j
              · subst hjk
                have hlt := (List.getElem?_eq_some_iff.1 hv).1
                rw [List.getElem?_set] at hj
                simp [hlt] at hj
                subst hj
                exact ⟨t, h1, h2, (At.simple rfl).2 .undef⟩
              · rw [List.getElem?_set_ne hjk] at hj
                obtain ⟨t', q1, q2, q3⟩ := h.vars j u hj
                exact ⟨t', q1, q2, q3.keep (Ext.refl _ _) (RhoLe.refl _) (fun bl c e' x' hg => ⟨rfl, hne bl _ _ _ hg (by simp; omega)⟩) (fun _ _ _ h => h)⟩
            rs := fun i u hi => by
              rcases hu.rs i u hi with h0 | ⟨t', q1, _⟩
              · exact .inl h0
              · simp at q1 }
        · refine ⟨rfl, rfl, rfl, Nat.le_refl _, Ext.refl _ _, RhoLe.refl _, fun bl _ hg => ⟨rfl, ?_⟩, fun _ _ h => .inl h⟩
          unfold gset
          split
          · rename_i hb; subst hb; rw [z8] at hg; cases hg
          · exact hg
      | pk p => exact (h3.2).elim
      | sh => exact absurd rfl hs
      | full => exact absurd rfl hs
    | tup l => exact absurd rfl (hnt l)
    | _ => exact absurd rfl hs

theorem gobj_pend {id bl : Nat} {l : GLoc} {e : Nat} {x : Bool} (h : G bl = .arr l e x) (hl : l.1 = .pend) : gobj G id bl = G bl :=
  gobj_out fun off c e' x' hg => by rw [h] at hg; injection hg with h1; rw [h1] at hl; cases hl

/-- How the model reads a result. -/
def readRes (tmps : Array Value) : ResultVar → Sem Value
  | .tmp t => Pure.pure (tmps.getD t undef)
  | .cell a t => do loadVar t (← asAddr (tmps.getD a undef))

/-- One result. -/
theorem res1_ok (h : Rel P vm [] ρ S G σ a w) (hn : σ.nopk) {rv : ResultVar} {r : ResL} (hc : chkRes P vm [rv] [r] = true) {v : LVal} (hr : res1 σ r = some (v, σ')) (hnt : ∀ l, v ≠ .tup l) (c : Nat) :
    ∃ S' G' cv, Rel P vm [] ρ S' G' σ' a w ∧ σ'.nopk ∧ (readRes a.tmps rv).run P w = .ok cv w ∧ At1 P w S' G' ρ noPkOk (.pend, c) v cv ∧ Pr w S G ρ w S' G' ρ ∧
      (∀ bl c' e x, G bl = .arr (.pend, c') e x → G' bl = G bl) ∧ Ext S w S' w := by
  cases r with
  | var k =>
    cases rv with
    | tmp t =>
      simp only [chkRes, Bool.and_true, beq_iff_eq] at hc
      simp only [res1, Option.map_eq_some_iff] at hr
      obtain ⟨u, hu, e⟩ := hr
      injection e with e1 e2; subst e1; subst e2
      obtain ⟨t', G', q1, q2, q3, q4, q5⟩ := h.moveVar hn hu hnt c
      rw [hc] at q1; injection q1 with q1; subst q1
      exact ⟨S, G', _, q2, hn, rfl, q3, q4, q5, Ext.refl _ _⟩
    | cell t ty => simp [chkRes] at hc
  | cell k n agg =>
    cases rv with
    | tmp t => simp [chkRes] at hc
    | cell t ty =>
      simp only [chkRes, Bool.and_true, Bool.and_eq_true, beq_iff_eq] at hc
      obtain ⟨hc1, hc2⟩ := hc
      simp only [res1, Option.bind_eq_some_iff] at hr
      obtain ⟨p, hp, hr⟩ := hr
      cases p with
      | ptr id off =>
        dsimp only at hr
        cases hst : σ.st[id]? with
        | none => simp [hst] at hr
        | some ob =>
          cases ob with
          | cells et cs =>
            simp only [hst, Option.map_eq_some_iff] at hr
            obtain ⟨u, hu, e⟩ := hr
            injection e with e1 e2; subst e1; subst e2
            obtain ⟨t', h1, h2, h3⟩ := h.vars k _ hp
            rw [hc1] at h1; injection h1 with h1; subst h1
            obtain ⟨b, hb, ev⟩ := ((At.simple (v := .ptr id off) rfl).1 h3).ptr_inv
            obtain ⟨k1, k2, b', cc, m1, m2, m3, m4⟩ := h.downObjX hst
            obtain rfl : b = b' := by rw [hb] at m1; exact Option.some.inj m1
            have hDV : VL w (sobj S G id) ρ (cs.map LVal.down) (cc.toList.take cs.length) := by
              refine VL.of (by simp; omega) (fun j y hj => ?_)
              simp only [List.getElem?_map, Option.map_eq_some_iff] at hj
              obtain ⟨z, hz, rfl⟩ := hj
              obtain ⟨cv, q1, q2, _⟩ := m4 j z hz
              have hlt := (List.getElem?_eq_some_iff.1 hz).1
              exact ⟨cv, by rw [List.getElem?_take, if_pos hlt]; simpa using q1, q2⟩
            have hDp : (cs.map LVal.down).all LVal.plain = true := VL.all_plain_down fun y hy => by
              obtain ⟨j, hj, e⟩ := List.getElem_of_mem hy
              obtain ⟨_, _, _, q3, _⟩ := m4 j y (by rw [List.getElem?_eq_getElem hj, e])
              exact q3
            have hle : off + n ≤ (cs.map LVal.down).length := by
              unfold partL at hu
              split at hu
              · assumption
              · cases hu
            have hle' : off + n ≤ cs.length := by simpa using hle
            have hrun := run_loadVar_cells (P := P) (w := w) hc2 (b := b) (off := off) (cs := (((cc.toList.take cs.length).drop off).take n)) (by simp; omega) (fun j y hj => by
              rw [cell_of_heap m2]
              rw [List.getElem?_take] at hj
              split at hj
              · rw [List.getElem?_drop, List.getElem?_take] at hj
                split at hj
                · simpa using hj
                · cases hj
              · cases hj)
            have hread : (readRes a.tmps (.cell t ty)).run P w = .ok (if agg then .agg ⟨((cc.toList.take cs.length).drop off).take n⟩ else (((cc.toList.take cs.length).drop off).take n).getD 0 undef) w := by
              show (do loadVar ty (← asAddr (a.tmps.getD t undef)) : Sem Value).run P w = _
              rw [ev]
              simp only [Sem.run_bind, asAddr, Sem.run_pure, Result.andThen_ok]
              exact hrun
            have hVd := (hDV.split off).2.split n
            refine ⟨sobj S G id, gobj G id, _, k1, hn, hread, ?_, k2, fun bl c' e x hg => gobj_pend hg rfl, k2.ext⟩
            unfold partL at hu
            rw [if_pos hle] at hu
            cases agg with
            | true =>
              simp only [if_true] at hu ⊢
              injection hu with hu; subst hu
              refine (At1.simple rfl).2 (.agg hVd.1 ?_)
              rw [List.all_eq_true] at hDp ⊢
              intro y hy
              exact hDp y (List.mem_of_mem_drop (List.mem_of_mem_take hy))
            | false =>
              simp only [Bool.false_eq_true, if_false] at hu ⊢
              split at hu
              · rename_i hn1
                subst hn1
                have hu0 : (((cs.map LVal.down).drop off).take 1)[0]? = some u := by
                  rw [List.getElem?_take, if_pos (by omega), List.getElem?_drop]; exact hu
                obtain ⟨cv, q1, q2⟩ := hVd.1.get 0 u hu0
                have hpu := List.all_eq_true.1 hDp u (List.mem_of_getElem? hu)
                rw [List.getD_eq_getElem?_getD, q1]
                exact (At1.simple (LVal.simple_of_plain hpu)).2 q2
              · cases hu
          | _ => simp [hst] at hr
      | _ => simp at hr
end Go.L
/- L32: functions, whole; all calls. -/
set_option linter.unusedVariables false
set_option linter.unusedSimpArgs false
set_option linter.unusedSectionVars false
namespace Go.L
open Go

variable {P : Program} {vm : List Nat} {lm : List (Option Nat)} {ρ ρ' : List Nat} {S S' : Nat → Nat → Prop} {G G' : Nat → Cl} {σ σ' : RS} {a : Act} {w w' : World}
variable {C : CallL} {im : TypeId → String → Option FuncId} {impl : TypeId → TypeId → Bool}

theorem isTup_nt {v : LVal} (h : v.isTup = false) : ∀ l, v ≠ .tup l := by
  rintro l rfl; simp [LVal.isTup] at h

theorem resOne_inv {r : ResL} {v : LVal} (h : resOne σ r = some (v, σ')) : res1 σ r = some (v, σ') ∧ ∀ l, v ≠ .tup l := by
  simp only [resOne, Option.bind_eq_some_iff] at h
  obtain ⟨u, h1, h2⟩ := h
  split at h2
  · cases h2
  · rename_i hn
    injection h2 with h2; subst h2
    exact ⟨h1, isTup_nt (by simpa using hn)⟩

/-- Several results. -/
theorem resAll_ok : ∀ {rvs : List ResultVar} {rs : List ResL} {i : Nat} {σ σ' : RS} {S : Nat → Nat → Prop} {G : Nat → Cl} {l : List LVal},
    Rel P vm [] ρ S G σ a w → σ.nopk → chkRes P vm rvs rs = true → resAll σ rs = some (l, σ') →
    ∃ S' G' cs, Rel P vm [] ρ S' G' σ' a w ∧ σ'.nopk ∧ (rvs.mapM (readRes a.tmps)).run P w = .ok cs w ∧ l.length = cs.length ∧
      (∀ (j : Nat) (u : LVal), l[j]? = some u → (∀ l', u ≠ .tup l') ∧ ∃ cu, cs[j]? = some cu ∧ At1 P w S' G' ρ noPkOk (.pend, i + j) u cu) ∧ Pr w S G ρ w S' G' ρ ∧
      (∀ bl c' e x, G bl = .arr (.pend, c') e x → G' bl = G bl)
  | [], [], i, σ, σ', S, G, l, h, hn, hc, hr => by
    simp only [resAll, Option.some.injEq, Prod.mk.injEq] at hr
    obtain ⟨rfl, rfl⟩ := hr
    exact ⟨S, G, [], h, hn, rfl, rfl, fun j u hj => by simp at hj, Pr.refl .., fun _ _ _ _ _ => rfl⟩
  | [], r :: rs, i, σ, σ', S, G, l, h, hn, hc, hr => by simp [chkRes] at hc
  | .tmp t :: rvs, [], i, σ, σ', S, G, l, h, hn, hc, hr => by simp [chkRes] at hc
  | .cell t ty :: rvs, [], i, σ, σ', S, G, l, h, hn, hc, hr => by simp [chkRes] at hc
  | rv :: rvs, r :: rs, i, σ, σ', S, G, l, h, hn, hc, hr => by
    have hc1 : chkRes P vm [rv] [r] = true ∧ chkRes P vm rvs rs = true := by
      cases rv <;> cases r <;> simp_all [chkRes]
    simp only [resAll, Option.bind_eq_some_iff, Option.map_eq_some_iff] at hr
    obtain ⟨⟨v, σ1⟩, h1, ⟨l2, σ2⟩, h2, h3⟩ := hr
    injection h3 with e1 e2; subst e1; subst e2
    obtain ⟨h1, hnt⟩ := resOne_inv h1
    obtain ⟨S1, G1, cv, k1, k2, k3, k4, k5, k6, k7⟩ := res1_ok h hn hc1.1 h1 hnt i
    obtain ⟨S2, G2, cs, m1, m2, m3, m4, m5, m6, m7⟩ := resAll_ok (i := i + 1) k1 k2 hc1.2 h2
    refine ⟨S2, G2, cv :: cs, m1, m2, ?_, by simp [m4], ?_, k5.trans m6, fun bl c' e x hg => ?_⟩
    · simp only [List.mapM_cons, Sem.run_bind, k3, Result.andThen_ok, m3, Sem.run_pure]
    · intro j u hj
      cases j with
      | zero =>
        simp at hj; subst hj
        exact ⟨hnt, cv, rfl, k4.keep m6.ext m6.rho (fun b e x hg => ⟨rfl, m7 b _ e x hg⟩) (fun _ _ _ h => h)⟩
      | succ j =>
        obtain ⟨q1, cu, q2, q3⟩ := m5 j u (by simpa using hj)
        exact ⟨q1, cu, by simpa using q2, by rw [show i + (j + 1) = i + 1 + j by omega]; exact q3⟩
    · have := k6 bl c' e x hg
      rw [m7 bl c' e x (this.trans hg), this]

theorem chkRes_len : ∀ {rvs : List ResultVar} {rs : List ResL}, chkRes P vm rvs rs = true → rvs.length = rs.length
  | [], [], _ => rfl
  | [], r :: rs, h => by simp [chkRes] at h
  | .tmp t :: rvs, [], h => by simp [chkRes] at h
  | .cell t ty :: rvs, [], h => by simp [chkRes] at h
  | .tmp t :: rvs, .var k :: rs, h => by simp [chkRes] at h; simp [chkRes_len h.2]
  | .cell t ty :: rvs, .cell k n agg :: rs, h => by simp [chkRes] at h; simp [chkRes_len h.2]
  | .tmp t :: rvs, .cell k n agg :: rs, h => by simp [chkRes] at h
  | .cell t ty :: rvs, .var k :: rs, h => by simp [chkRes] at h

theorem run_results {fn : Func} {tmps : Array Value} {cs : List Value} (h : (fn.results.toList.mapM (readRes tmps)).run P w = .ok cs w) :
    (results fn tmps).run P w = .ok (if h : (⟨cs⟩ : Array Value).size = 1 then (⟨cs⟩ : Array Value)[0] else .tuple ⟨cs⟩) w := by
  have hf : (fun r : ResultVar => (match r with
      | .tmp t => (pure (tmps.getD t undef) : Sem Value)
      | .cell a t => do loadVar t (← asAddr (tmps.getD a undef)))) = readRes tmps := by
    funext r; cases r <;> rfl
  have e : results fn tmps = (fn.results.mapM (readRes tmps) >>= fun vs => pure (if h : vs.size = 1 then vs[0] else .tuple vs)) := by
    rw [← hf]; rfl
  rw [e]
  simp only [Array.mapM_eq_mapM_toList, map_eq_pure_bind, Sem.run_bind, h, Result.andThen_ok, Sem.run_pure]

/-- All that a function answers. -/
theorem resL_ok (h : Rel P vm [] ρ S G σ a w) (hn : σ.nopk) {fn : Func} {rs : List ResL} (hc : chkRes P vm fn.results.toList rs = true) {v : LVal} (hr : resL σ rs = some (v, σ')) :
    ∃ S' G' cv, Rel P vm [] ρ S' G' σ' a w ∧ (results fn a.tmps).run P w = .ok cv w ∧ At P w S' G' ρ noPkOk .pend v cv ∧ Pr w S G ρ w S' G' ρ := by
  have hlen := chkRes_len hc
  have key : ∀ (l : List LVal), resAll σ rs = some (l, σ') → rs.length ≠ 1 → v = .tup l →
      ∃ S' G' cv, Rel P vm [] ρ S' G' σ' a w ∧ (results fn a.tmps).run P w = .ok cv w ∧ At P w S' G' ρ noPkOk .pend v cv ∧ Pr w S G ρ w S' G' ρ := by
    intro l hra hne hv
    subst hv
    obtain ⟨S', G', cs, m1, m2, m3, m4, m5, m6, m7⟩ := resAll_ok (i := 1) h hn hc hra
    have hl : l.length = rs.length := by
      clear m5 m4 m3 hc hlen hr
      have : ∀ {rs : List ResL} {σ σ' : RS} {l}, resAll σ rs = some (l, σ') → l.length = rs.length := by
        intro rs
        induction rs with
        | nil => intro σ σ' l h; simp [resAll] at h; simp [h.1]
        | cons r rs ih =>
          intro σ σ' l h
          simp only [resAll, Option.bind_eq_some_iff, Option.map_eq_some_iff] at h
          obtain ⟨u, _, p, h2, h3⟩ := h
          injection h3 with e1 e2; subst e1
          simp [ih (σ := u.2) (σ' := p.2) (l := p.1) h2]
      exact this hra
    refine ⟨S', G', .tuple ⟨cs⟩, m1, ?_, ⟨cs, rfl, m4, fun c u hu => ?_⟩, m6⟩
    · rw [run_results m3, dif_neg (by simp; omega)]
    · obtain ⟨q1, cu, q2, q3⟩ := m5 c u hu
      exact ⟨q1, cu, q2, by rw [Nat.add_comm]; exact q3⟩
  match rs, hr, hc, key, hlen with
  | [], hr, hc, key, hlen =>
    simp only [resL, Option.map_eq_some_iff] at hr
    obtain ⟨p, h1, h2⟩ := hr
    injection h2 with e1 e2; subst e2
    exact key p.1 h1 (by simp) e1.symm
  | [r], hr, hc, key, hlen =>
    have hr' : resOne σ r = some (v, σ') := hr
    obtain ⟨h1, hnt⟩ := resOne_inv hr'
    obtain ⟨rv, hrv⟩ : ∃ rv, fn.results.toList = [rv] := by
      cases hx : fn.results.toList with
      | nil => rw [hx] at hlen; simp at hlen
      | cons x t =>
        rw [hx] at hlen
        cases t with
        | nil => exact ⟨x, rfl⟩
        | cons y t => simp at hlen
    rw [hrv] at hc
    obtain ⟨S1, G1, cv, k1, k2, k3, k4, k5, k6, k7⟩ := res1_ok h hn hc h1 hnt 0
    refine ⟨S1, G1, cv, k1, ?_, (At.nt hnt).2 k4, k5⟩
    rw [run_results (cs := [cv]) (by rw [hrv]; simp [List.mapM_cons, Sem.run_bind, k3, Sem.run_pure])]
    rfl
  | r :: r2 :: rs, hr, hc, key, hlen =>
    have hr' : (resAll σ (r :: r2 :: rs)).map (fun p => (LVal.tup p.1, p.2)) = some (v, σ') := hr
    simp only [Option.map_eq_some_iff] at hr'
    obtain ⟨p, h1, h2⟩ := hr'
    injection h2 with e1 e2; subst e2
    exact key p.1 h1 (by simp) e1.symm

/-! ### What leads to no object at all -/
theorem pfs_get : ∀ {l : List LVal}, LVal.pfs l = true → ∀ (i : Nat) (v : LVal), l[i]? = some v → v.pf = true
  | [], _, i, v, h => by simp at h
  | x :: l, hl, i, v, h => by
    simp only [LVal.pfs, Bool.and_eq_true] at hl
    cases i with
    | zero => simp at h; subst h; exact hl.1
    | succ i => exact pfs_get hl.2 i v (by simpa using h)

theorem At1.of_pf {pk l v cv} (h : At1 P w S G ρ pk l v cv) (hw : v.pf = true) : At1 P w S G [] pk l v cv := by
  by_cases hs : v.simple = true
  · exact (At1.simple hs).2 (((At1.simple hs).1 h).of_pf hw)
  · cases v with
    | vs b o n xs =>
      cases o with
      | own e x => exact h
      | pk p => exact h
      | _ => simp [LVal.simple] at hs
    | tup l => exact V.of_pf h hw
    | _ => simp [LVal.simple] at hs

theorem At.of_pf {pk b v cv} (h : At P w S G ρ pk b v cv) (hw : v.pf = true) : At P w S G [] pk b v cv := by
  cases v with
  | tup l =>
    obtain ⟨cs, h1, h2, h3⟩ := h
    refine ⟨cs, h1, h2, fun c u hu => ?_⟩
    obtain ⟨k0, cu, k1, k2⟩ := h3 c u hu
    exact ⟨k0, cu, k1, k2.of_pf (pfs_get (by simpa [LVal.pf] using hw) c u hu)⟩
  | _ => exact (At.nt (by simp)).2 (((At.nt (by simp)).1 h).of_pf hw)

/-! ### Behind a call -/
/-- Variables end. -/
def gdrop (G : Nat → Cl) : Nat → Cl := fun b => match G b with
  | .arr (.cell id off, c) e x => .arr (.cell id off, c) e x
  | .arr (.pend, c) e x => .arr (.pend, c) e x
  | .arr _ _ _ => .ro
  | c => c

theorem gdrop_box {b id} : gdrop G b = .box id ↔ G b = .box id := by
  unfold gdrop
  cases h : G b with
  | ro => simp
  | box i => simp
  | arr l e x => obtain ⟨l, c⟩ := l; cases l <;> simp
theorem gdrop_arr {b l e x} (h : gdrop G b = .arr l e x) : G b = .arr l e x ∧ (GLoc.cellish l ∨ l.1 = .pend) := by
  unfold gdrop at h
  cases hg : G b with
  | ro => simp [hg] at h
  | box i => simp [hg] at h
  | arr l' e' x' =>
    obtain ⟨l', c⟩ := l'
    cases l' <;> simp [hg] at h
    · obtain ⟨rfl, rfl, rfl⟩ := h
      exact ⟨rfl, .inl ⟨_, _, rfl⟩⟩
    · obtain ⟨rfl, rfl, rfl⟩ := h
      exact ⟨rfl, .inr rfl⟩
theorem gdrop_cell {b id off c e x} (h : G b = .arr (.cell id off, c) e x) : gdrop G b = G b := by unfold gdrop; rw [h]
theorem gdrop_pend {b c e x} (h : G b = .arr (.pend, c) e x) : gdrop G b = G b := by unfold gdrop; rw [h]
theorem gdrop_ro {b} (h : G b = .ro) : gdrop G b = .ro := by unfold gdrop; rw [h]

theorem SWf.drop (h : SWf w S G) : SWf w S (gdrop G) where
  lt := h.lt
  fresh b hb := gdrop_ro (h.fresh b hb)
  box b o id hs hg := h.box b o id hs (gdrop_box.1 hg)
  arr b o l e x hs hg := h.arr b o l e x hs (gdrop_arr hg).1

theorem Rel.drop (h : Rel P vm lm ρ S G σ a w) : CRel P w S (gdrop G) ρ σ.st where
  swf := h.swf.drop
  len := h.len
  rho := h.rho
  st id o ho := (h.st id o ho).keep (Ext.refl _ _) (RhoLe.refl _) (fun b hb => ⟨rfl, (gdrop_box.2 hb).trans hb.symm⟩) (fun bl off c e x hb => ⟨rfl, gdrop_cell hb⟩)

theorem CRel.take {st : List LObj} (h : CRel P w S G ρ st) {n : Nat} (h2 : (st.take n).all (LObj.within n) = true) : CRel P w S G (ρ.take n) (st.take n) where
  swf := h.swf
  len := by have := h.len; simp; omega
  rho := fun id b hb => by
    rw [List.getElem?_take] at hb
    split at hb
    · exact h.rho id b hb
    · cases hb
  st := fun id o ho => by
    have hmem := List.mem_of_getElem? ho
    rw [List.getElem?_take] at ho
    split at ho
    · rename_i hid
      exact (h.st id o ho).within hid (List.all_eq_true.1 h2 o hmem)
    · cases ho

theorem CRel.pure (h : SWf w S G) : CRel P w S (fun _ => .ro) [] [] where
  swf := { lt := h.lt, fresh := fun _ _ => rfl, box := fun b o id hs hg => (by cases hg), arr := fun b o l e x hs hg => (by cases hg) }
  len := rfl
  rho := fun id b hb => by simp at hb
  st := fun id o ho => by simp at ho

theorem CRel.backPure {st : List LObj} (h : CRel P w S G ρ st) {v : LVal} {cv : Value} (hc : SWf w' S' G') (hv : At P w' S' G' [] noPkOk .pend v cv) (hp : Pr w S (fun _ => .ro) [] w' S' G' ρ') :
    CRel P w' S' (gpure w.heap.size G G') ρ st ∧ At P w' S' (gpure w.heap.size G G') ρ noPkOk .pend v cv ∧ Pr w S G ρ w' S' (gpure w.heap.size G G') ρ := by
  have h4 : ∀ b, b < w.heap.size → w'.heap[b]? = w.heap[b]? ∧ G' b = .ro := fun b hb => hp.frame b hb rfl
  have hlt : ∀ b, b < w.heap.size → gpure w.heap.size G G' b = G b := fun b hb => by unfold gpure; rw [if_pos hb]
  have hsz := hp.size
  have hS : ∀ b o, S' b o → b < w.heap.size → S b o := fun b o hs hb => by
    rcases hp.snew b o hs with h1 | h1 | h1
    · exact h1
    · omega
    · exact absurd rfl h1
  refine ⟨{
      swf := {
        lt := hc.lt
        fresh := fun b hb => by unfold gpure; rw [if_neg (by omega), hc.fresh b hb]
        box := fun b o id hs hg => by
          by_cases hb : b < w.heap.size
          · rw [hlt b hb] at hg; exact h.swf.box b o id (hS b o hs hb) hg
          · unfold gpure at hg
            rw [if_neg hb] at hg
            split at hg <;> cases hg
        arr := fun b o l e x hs hg => by
          by_cases hb : b < w.heap.size
          · rw [hlt b hb] at hg; exact h.swf.arr b o l e x (hS b o hs hb) hg
          · unfold gpure at hg
            rw [if_neg hb] at hg
            split at hg
            · rename_i hg'
              injection hg with g1 g2 g3; subst g2; subst g3
              exact hc.arr b o _ _ _ hs hg'
            · cases hg }
      len := h.len
      rho := fun id b hb => Nat.lt_of_lt_of_le (h.rho id b hb) hsz
      st := fun id o ho => (h.st id o ho).keep hp.ext (RhoLe.refl _) (fun b hg => ⟨(h4 b (h.swf.lt_of (by rw [hg]; simp))).1, hlt b (h.swf.lt_of (by rw [hg]; simp))⟩)
        (fun bl off c e x hg => ⟨(h4 bl (h.swf.lt_of (by rw [hg]; simp))).1, hlt bl (h.swf.lt_of (by rw [hg]; simp))⟩) }, ?_, ?_⟩
  · refine hv.keep (Ext.refl _ _) (RhoLe.nil _) (fun bl c e x hg => ⟨rfl, ?_⟩) (fun _ _ _ h => h)
    have hb : ¬ bl < w.heap.size := fun hb => by have := (h4 bl hb).2; rw [hg] at this; cases this
    unfold gpure
    rw [if_neg hb, hg]
  · exact ⟨hp.os, hp.tape, hp.output, hsz, hp.ext, RhoLe.refl _, fun b hb hg => ⟨(h4 b hb).1, (hlt b hb).trans hg⟩, fun b o hs => by
      by_cases hb : b < w.heap.size
      · exact .inl (hS b o hs hb)
      · exact .inr (.inl (by omega))⟩

theorem gkill_pend {id bl c e x} (h : G bl = .arr (.pend, c) e x) : gkill G id bl = G bl := by unfold gkill; rw [h]
/-- One slice that may be written becomes one that stays. -/
theorem Rel.frz1 (h : Rel P vm lm ρ S G σ a w) {id off len esz : Nat} {agg : Bool} {cv : Value} (hv : V w S ρ (.ms id off len esz agg) cv) :
    ∃ S' G', SWf w S' G' ∧ V w S' ρ (freeze1 σ.st id off len esz agg) cv ∧ (freeze1 σ.st id off len esz agg).simple = true ∧ Pr w S G ρ w S' G' ρ ∧ (∀ bl c e x, G bl = .arr (.pend, c) e x → G' bl = G bl) := by
  obtain ⟨b, cap, hb, hcap, hmax, rfl⟩ := hv.ms_inv
  unfold freeze1
  split
  · rename_i ty c hst
    split
    · rename_i hc
      obtain ⟨c1, c2, c3, c4⟩ := hc
      obtain ⟨S', k1, k2, k3⟩ := h.freeze hst hb c2 c3
      have hl : ((c.drop off).take (len * esz)).length = len * esz := by rw [List.length_take, List.length_drop]; omega
      have hpl : ((c.drop off).take (len * esz)).all LVal.plain = true := by
        rw [List.all_eq_true] at c2 ⊢
        exact fun x hx => c2 x (List.mem_of_mem_drop (List.mem_of_mem_take hx))
      obtain ⟨m1, m2⟩ := chunks_cells (agg := agg) (esz := esz) (fun ha => by rw [ha] at c4; simpa using c4) len _ hl hpl
      have hlen := chunks_len (agg := agg) (esz := esz) len ((c.drop off).take (len * esz))
      refine ⟨S', _, k1.swf, ?_, rfl, k2, fun bl c e x hg => gkill_pend hg⟩
      have hrow := k3.sub off (len * esz)
      rw [Nat.zero_add] at hrow
      have := V.vs (w := w) (S := S') (ρ := ρ) (o := .sh) (n := esz) (xs := chunks agg esz len ((c.drop off).take (len * esz))) (b := b) (off := off) (cap := cap) (by omega) hmax (fun e => by cases e) m1 (by rw [m2]; exact hrow)
      rw [hlen] at this
      exact this
    · exact ⟨S, G, h.swf, .undef, rfl, Pr.refl .., fun _ _ _ _ _ => rfl⟩
  · exact ⟨S, G, h.swf, .undef, rfl, Pr.refl .., fun _ _ _ _ _ => rfl⟩

theorem freezeL_spec (st : List LObj) : ∀ (l : List LVal), (freezeL st l = l) ∨ ∃ i id off len esz agg, l[i]? = some (.ms id off len esz agg) ∧ freezeL st l = l.set i (freeze1 st id off len esz agg)
  | [] => .inl rfl
  | v :: r => by
    cases v with
    | ms id off len esz agg => exact .inr ⟨0, id, off, len, esz, agg, rfl, rfl⟩
    | _ =>
      rcases freezeL_spec st r with h | ⟨i, id, off, len, esz, agg, h1, h2⟩
      · exact .inl (by simp only [freezeL, h])
      · exact .inr ⟨i + 1, id, off, len, esz, agg, h1, by simp only [freezeL, h2, List.set_cons_succ]⟩

theorem Rel.frz (h : Rel P vm lm ρ S G σ a w) {u : LVal} {cv : Value} (hv : At P w S G ρ noPkOk .pend u cv) : ∃ S' G', SWf w S' G' ∧ At P w S' G' ρ noPkOk .pend (Go.L.freeze σ.st u) cv ∧ Pr w S G ρ w S' G' ρ := by
  cases u with
  | ms id off len esz agg =>
    obtain ⟨S', G', k1, k2, k3, k4, _⟩ := h.frz1 ((At.simple rfl).1 hv)
    exact ⟨S', G', k1, (At.simple k3).2 k2, k4⟩
  | tup l =>
    obtain ⟨cs, h1, h2, h3⟩ := hv
    simp only [Go.L.freeze]
    rcases freezeL_spec σ.st l with he | ⟨i, id, off, len, esz, agg, e1, e2⟩
    · rw [he]; exact ⟨S, G, h.swf, ⟨cs, h1, h2, h3⟩, Pr.refl ..⟩
    · obtain ⟨m1, ci, m2, m3⟩ := h3 i _ e1
      obtain ⟨S', G', k1, k2, k3, k4, k5⟩ := h.frz1 ((At1.simple rfl).1 m3)
      rw [e2]
      have hi := (List.getElem?_eq_some_iff.1 e1).1
      refine ⟨S', G', k1, ⟨cs, h1, by simpa using h2, fun c u hu => ?_⟩, k4⟩
      by_cases hc : i = c
      · subst hc
        rw [List.getElem?_set] at hu
        simp [hi] at hu
        subst hu
        refine ⟨fun l' e => ?_, ci, m2, (At1.simple k3).2 k2⟩
        rw [e] at k3
        simp [LVal.simple] at k3
      · rw [List.getElem?_set_ne hc] at hu
        obtain ⟨n1, cu, n2, n3⟩ := h3 c u hu
        exact ⟨n1, cu, n2, n3.keep k4.ext (RhoLe.refl _) (fun bl e x hg => ⟨rfl, k5 bl _ e x hg⟩) (fun _ _ _ h => h)⟩
  | _ => exact ⟨S, G, h.swf, hv, Pr.refl ..⟩

/-! ### Functions -/
def chkFun (P : Program) (f : FuncId) (vm : List Nat) (lf : LFun) : Bool :=
  match P.funcs[f]? with
  | some fn => match fn.body with
    | some c => !(fn.name == "runtime.NumGoroutine") && chkStart vm lf.init lf.nparams fn.ntmps && chkCode P vm fn.ntmps c lf.code && chkRes P vm fn.results.toList lf.results
    | none => false
  | none => false

/-- One call, as SoundC says of it. -/
def Sound1 (P : Program) (f : FuncId) (args : List LVal) (st : List LObj) (v : LVal) (ost : Option (List LObj)) : Prop :=
  chkCallee P f = true ∧ ∀ cargs w S G ρ, CRel P w S G ρ st → Cellish G → VL w S ρ args cargs → (∀ u ∈ args, u.simple = true) →
    Calls P f ⟨cargs⟩ w fun e w' => ∃ cv, e = .returned cv ∧ CallPost P w S G ρ st v ost cv w'

theorem fun_ok (hC : SoundC P C) (hI : Impl P impl) {f : FuncId} {lf : LFun} (hk : chkFun P f vm lf = true) {fuel : Nat} {args : List LVal} {st : List LObj} {v : LVal} {ost : Option (List LObj)}
    (hr : runFun (codeN C im impl fuel) lf args st = some (v, ost)) : Sound1 P f args st v ost := by
  unfold chkFun at hk
  cases hf : P.funcs[f]? with
  | none => simp [hf] at hk
  | some fn =>
  cases hb : fn.body with
  | none => simp [hf, hb] at hk
  | some c =>
  simp only [hf, hb, Bool.and_eq_true, Bool.not_eq_true'] at hk
  obtain ⟨⟨⟨k0, k1⟩, k2⟩, k3⟩ := hk
  refine ⟨by simp [chkCallee, hf, hb, k0], ?_⟩
  intro cargs w S G ρ hrel hcell hV hs
  have hv : nodupB vm = true := by simp only [chkStart, Bool.and_eq_true] at k1; exact k1.1.1.1.1
  unfold runFun at hr
  split at hr
  case isFalse => cases hr
  rename_i hpre
  simp only [Option.bind_eq_some_iff] at hr
  obtain ⟨⟨ex, σ1⟩, h1, h2⟩ := hr
  have h3 : (∀ id, ex ≠ .exit id) ∧ ((resL σ1 lf.results).bind fun v => outL lf.mode st v.1 v.2.st) = some (v, ost) := by
    cases ex with
    | exit id => cases h2
    | normal => exact ⟨by simp, h2⟩
    | ret => exact ⟨by simp, h2⟩
  obtain ⟨hex, h3⟩ := h3
  simp only [Option.bind_eq_some_iff] at h3
  obtain ⟨⟨u, σ2⟩, h4, h5⟩ := h3
  -- the start
  have hgo : ∀ (ρ0 : List Nat) (G0 : Nat → Cl) (st0 : List LObj), CRel P w S G0 ρ0 st0 → VL w S ρ0 args cargs → codeN C im impl fuel lf.code { vars := initVars lf.init args, st := st0, rs := [] } = some (ex, σ1) →
      ∀ R : Ending → World → Prop, (∀ cv w' ρ1 S1 G1 S2 G2 a', Pr w S G0 ρ0 w' S1 G1 ρ1 → Rel P vm [] ρ1 S2 G2 σ2 a' w' → At P w' S2 G2 ρ1 noPkOk .pend u cv → Pr w' S1 G1 ρ1 w' S2 G2 ρ1 → R (.returned cv) w') → Calls P f ⟨cargs⟩ w R := by
    intro ρ0 G0 st0 hc0 hV0 hcode R hR
    refine calls_of_wp hf hb ?_
    refine code_ok hv hC hI c k2 fuel ρ0 S G0 _ _ w ex σ1 (CR.start k1 hc0 hV0 hs hpre.1) hcode _ ?_
    rintro a' w' ⟨ρ1, S1, G1, ⟨m1, m2, m3⟩, m4⟩
    have hn : σ1.nopk := by intro i b p n xs hi; rw [m2] at hi; simp at hi
    obtain ⟨S2, G2, cv, q1, q2, q3, q4⟩ := resL_ok m1 hn k3 h4
    have : bodyPost P fn R .normal a' w' := ⟨m1.defers, cv, q2, hR cv w' ρ1 S1 G1 S2 G2 a' m4 q1 q3 q4⟩
    cases ex with
    | exit id => exact absurd rfl (hex id)
    | normal => exact this
    | ret => exact this
  by_cases hm : lf.mode.isPure = true
  · rw [if_pos hm] at h1
    have hpf := hpre.2 hm
    refine hgo [] (fun _ => .ro) [] (CRel.pure hrel.swf) (hV.of_pfs hpf) h1 _ ?_
    intro cv w' ρ1 S1 G1 S2 G2 a' p1 p2 p3 p4
    have hfin : ∀ (S3 : Nat → Nat → Prop) (G3 : Nat → Cl) (u' : LVal), SWf w' S3 G3 → At P w' S3 G3 ρ1 noPkOk .pend u' cv → Pr w' S2 G2 ρ1 w' S3 G3 ρ1 → u'.pf = true → v = u' → ost = none → ∃ cv_1, Ending.returned cv = .returned cv_1 ∧ CallPost P w S G ρ st v ost cv_1 w' := by
      rintro S3 G3 u' hsw hat3 hp3 hvp rfl rfl
      have hp := (p1.trans p4).trans hp3
      obtain ⟨q1, q2, q3⟩ := hrel.backPure hsw (hat3.of_pf hvp) hp
      refine ⟨cv, rfl, ρ, S3, _, q1, q2, q3, fun _ b hb => ⟨(hp.frame b hb rfl).1, by unfold gpure; rw [if_pos hb]⟩, fun b l e x hg => ?_⟩
      by_cases hb : b < w.heap.size
      · unfold gpure at hg; rw [if_pos hb] at hg
        exact .inl (hcell b l e x hg)
      · unfold gpure at hg
        rw [if_neg hb] at hg
        split at hg
        · injection hg with g1 g2 g3; subst g1; exact .inr rfl
        · cases hg
    cases hpm : lf.mode with
    | pure =>
      rw [hpm] at h5
      simp only [outL] at h5
      split at h5
      · rename_i hvp
        injection h5 with h5; injection h5 with e1 e2
        exact hfin S2 G2 u p2.swf p3 (Pr.refl ..) hvp e1.symm e2.symm
      · cases h5
    | pureF =>
      rw [hpm] at h5
      simp only [outL] at h5
      split at h5
      · rename_i hvp
        injection h5 with h5; injection h5 with e1 e2
        obtain ⟨S3, G3, f1, f2, f3⟩ := p2.frz p3
        exact hfin S3 G3 _ f1 f2 f3 hvp e1.symm e2.symm
      · cases h5
    | trim => rw [hpm] at hm; simp [LMode.isPure] at hm
    | keep => rw [hpm] at hm; simp [LMode.isPure] at hm
  · rw [if_neg hm] at h1
    refine hgo ρ G st hrel hV h1 _ ?_
    intro cv w' ρ1 S1 G1 S2 G2 a' p1 p2 p3 p4
    have hp := p1.trans p4
    have hd := p2.drop
    have hat : At P w' S2 (gdrop G2) ρ1 noPkOk .pend u cv := p3.keep (Ext.refl _ _) (RhoLe.refl _) (fun bl c e x hg => ⟨rfl, gdrop_pend hg⟩) (fun _ _ _ h => h)
    have hpr : Pr w S G ρ w' S2 (gdrop G2) ρ1 := ⟨hp.os, hp.tape, hp.output, hp.size, hp.ext, hp.rho, fun b hb hg => ⟨(hp.frame b hb hg).1, gdrop_ro (hp.frame b hb hg).2⟩, hp.snew⟩
    cases hmm : lf.mode with
    | pure => rw [hmm] at hm; simp [LMode.isPure] at hm
    | pureF => rw [hmm] at hm; simp [LMode.isPure] at hm
    | keep =>
      rw [hmm] at h5
      simp only [outL, Option.some.injEq, Prod.mk.injEq] at h5
      obtain ⟨e1, e2⟩ := h5; subst e1; subst e2
      exact ⟨cv, rfl, ρ1, S2, _, hd, hat, hpr, (fun e => by cases e), fun b l e x hg => (gdrop_arr hg).2⟩
    | trim =>
      rw [hmm] at h5
      simp only [outL] at h5
      split at h5
      · rename_i hc
        obtain ⟨c1, c2, c3⟩ := hc
        injection h5 with h5; injection h5 with e1 e2; subst e1; subst e2
        refine ⟨cv, rfl, ρ1.take st.length, S2, _, hd.take c2, hat.within c1, ?_, (fun e => by cases e), fun b l e x hg => (gdrop_arr hg).2⟩
        refine ⟨hpr.os, hpr.tape, hpr.output, hpr.size, hpr.ext, fun id b hb => ?_, hpr.frame, hpr.snew⟩
        have hlt := (List.getElem?_eq_some_iff.1 hb).1
        rw [List.getElem?_take, if_pos (by rw [← hrel.len]; exact hlt)]
        exact hpr.rho id b hb
      · cases h5

/-! ### All calls -/
def TblOk (P : Program) (T : Tbl) : Prop :=
  Impl P T.impl ∧ ∀ f d, T.fns f = some d → match d with
    | .fn lf => ∃ vm, chkFun P f vm lf = true
    | .hook h => ∀ args st v ost, h args st = some (v, ost) → Sound1 P f args st v ost

theorem callN_sound {T : Tbl} (h : TblOk P T) : ∀ n, SoundC P (callN T n)
  | 0 => fun f args st v ost hc => by simp [callN] at hc
  | n + 1 => fun f args st v ost hc => by
    simp only [callN] at hc
    have hd := h.2 f
    cases hf : T.fns f with
    | none => simp [hf] at hc
    | some d =>
      have hd := hd d hf
      cases d with
      | hook g => simp only [hf] at hc; exact hd args st v ost hc
      | fn lf =>
        simp only [hf] at hc
        obtain ⟨vm, hk⟩ := hd
        exact fun_ok (callN_sound h n) h.1 hk hc
end Go.L
/- L33: the interpreter without fuel, and its equations. -/
set_option linter.unusedVariables false
set_option linter.unusedSimpArgs false
set_option linter.unusedSectionVars false
namespace Go.L
open Go

def CLe (C C' : CallL) : Prop := ∀ f args st r, C f args st = some r → C' f args st = some r

section
variable {C C' : CallL} {im : TypeId → String → Option FuncId} {impl : TypeId → TypeId → Bool}

theorem bind_mono {α β} {x : Option α} {f g : α → Option β} {r : β} (h : x.bind f = some r) (hg : ∀ a r, f a = some r → g a = some r) : x.bind g = some r := by
  simp only [Option.bind_eq_some_iff] at h ⊢
  obtain ⟨a, h1, h2⟩ := h
  exact ⟨a, h1, hg _ _ h2⟩
theorem map_mono {α β} {x y : Option α} {f : α → β} {r : β} (h : x.map f = some r) (hg : ∀ r, x = some r → y = some r) : y.map f = some r := by
  simp only [Option.map_eq_some_iff] at h ⊢
  obtain ⟨a, h1, h2⟩ := h
  exact ⟨a, hg _ h1, h2⟩

theorem callOut_mono {s : RS} {f : FuncId} {a : List LVal} {st : List LObj} (hC : CLe C C') {r} (h : callOut s (C f a st) = some r) : callOut s (C' f a st) = some r := by
  cases hc : C f a st with
  | none => rw [hc] at h; simp [callOut] at h
  | some u => rw [hc] at h; rw [hC _ _ _ _ hc]; exact h

theorem sem_mono (hC : CLe C C') {s : RS} {o : LOp} {r} (h : sem C im impl s o = some r) : sem C' im impl s o = some r := by
  cases o
  case call f args => exact bind_mono h fun a r h => callOut_mono hC h
  case callp f args =>
    refine bind_mono h fun a r h => ?_
    split at h
    · rename_i hp
      rw [if_pos hp]
      cases hc : C f (a.1.map LVal.arg) [] with
      | none => rw [hc] at h; cases h
      | some u => rw [hc] at h; rw [hC _ _ _ _ hc]; exact h
    · cases h
  case callv x args =>
    refine bind_mono h fun u r h => ?_
    cases u with
    | func f caps => exact bind_mono h fun a r h => callOut_mono hC h
    | _ => cases h
  case invoke x name tbl args =>
    refine bind_mono h fun u r h => ?_
    cases u with
    | iface t v => exact bind_mono h fun f r h => bind_mono h fun a r h => callOut_mono hC h
    | _ => cases h
  all_goals exact h

theorem step_mono (hC : CLe C C') {s : RS} {o : LOper} {r} (h : step C im impl s o = some r) : step C' im impl s o = some r := by
  unfold step at h ⊢
  split at h
  · rename_i hg; exact map_mono h fun r h => sem_mono hC h
  · rename_i g want hg
    refine bind_mono h fun v r h => ?_
    cases v with
    | bool b =>
      dsimp only at h ⊢
      split at h
      · rename_i hb; rw [if_pos hb]; exact map_mono h fun r h => sem_mono hC h
      · rename_i hb; rw [if_neg hb]; exact h
    | _ => exact h

theorem runOps_mono (hC : CLe C C') : ∀ {l : List LOper} {s : RS} {r}, runOps C im impl l s = some r → runOps C' im impl l s = some r
  | [], s, r, h => h
  | o :: l, s, r, h => by
    simp only [runOps, Option.bind_eq_some_iff] at h ⊢
    obtain ⟨u, h1, h2⟩ := h
    exact ⟨u, step_mono hC h1, runOps_mono hC h2⟩

theorem semD_mono (hC : CLe C C') {s : RS} {o : LOper} {r} (h : semD C im impl s o = some r) : semD C' im impl s o = some r := by
  unfold semD at h ⊢
  split at h
  · rename_i h1
    rw [if_pos h1]
    split at h
    · rename_i h2; rw [if_pos h2]; exact sem_mono hC h
    · cases h
  · rename_i h1
    rw [if_neg h1]; exact sem_mono hC h

theorem stepD_mono (hC : CLe C C') {s : RS} {o : LOper} {r} (h : stepD C im impl s o = some r) : stepD C' im impl s o = some r := by
  unfold stepD at h ⊢
  split at h
  · cases h
  · rename_i h0
    rw [if_neg h0]
    split at h
    · exact map_mono h fun r h => semD_mono hC h
    · refine bind_mono h fun v r h => ?_
      cases v with
      | bool b =>
        dsimp only at h ⊢
        split at h
        · rename_i hb; rw [if_pos hb]; exact map_mono h fun r h => semD_mono hC h
        · rename_i hb; rw [if_neg hb]; exact h
      | tup l => cases l with
        | nil => exact h
        | cons => cases h
      | _ => cases h

theorem runOpsD_mono (hC : CLe C C') : ∀ {l : List LOper} {s : RS} {r}, runOpsD C im impl l s = some r → runOpsD C' im impl l s = some r
  | [], s, r, h => h
  | o :: l, s, r, h => by
    simp only [runOpsD, Option.bind_eq_some_iff] at h ⊢
    obtain ⟨u, h1, h2⟩ := h
    exact ⟨u, stepD_mono hC h1, runOpsD_mono hC h2⟩

theorem loopN_mono {b b' : RS → Option (LExit × RS)} (hb : ∀ s r, b s = some r → b' s = some r) : ∀ {n m : Nat} {s : RS} {r}, n ≤ m → loopN b n s = some r → loopN b' m s = some r
  | 0, m, s, r, _, h => by simp [loopN] at h
  | n + 1, 0, s, r, hle, h => by omega
  | n + 1, m + 1, s, r, hle, h => by
    simp only [loopN, Option.bind_eq_some_iff] at h ⊢
    obtain ⟨u, h1, h2⟩ := h
    refine ⟨u, hb _ _ h1, ?_⟩
    split at h2
    · rename_i hu; exact loopN_mono hb (by omega) h2
    · rename_i hu; exact h2

theorem codeN_mono (hC : CLe C C') {n m : Nat} (hnm : n ≤ m) : ∀ {c : LCode} {s : RS} {r}, codeN C im impl n c s = some r → codeN C' im impl m c s = some r
  | .skip, s, r, h => h
  | .region k ops draw, s, r, h => by
    cases draw with
    | true => exact map_mono (x := runOpsD ..) h fun r h => runOpsD_mono hC h
    | false => exact map_mono (x := runOps ..) h fun r h => runOps_mono hC h
  | .seq a b, s, r, h => by
    simp only [codeN, Option.bind_eq_some_iff] at h ⊢
    obtain ⟨u, h1, h2⟩ := h
    refine ⟨u, codeN_mono hC hnm h1, ?_⟩
    split at h2
    · exact codeN_mono hC hnm h2
    · exact h2
  | .cond x a b, s, r, h => by
    simp only [codeN] at h ⊢
    refine bind_mono h fun v r h => ?_
    cases v with
    | bool t => cases t <;> exact codeN_mono hC hnm h
    | _ => cases h
  | .block id b, s, r, h => map_mono h fun r h => codeN_mono hC hnm h
  | .loop b, s, r, h => by
    simp only [codeN] at h ⊢
    exact loopN_mono (fun s r h => codeN_mono hC hnm h) hnm h
  | .exit id, s, r, h => h
  | .ret, s, r, h => h
  | .dead, s, r, h => h
  | .fence ks b, s, r, h => by
    simp only [codeN, Option.bind_eq_some_iff] at h ⊢
    obtain ⟨u, h1, h2⟩ := h
    exact ⟨u, codeN_mono hC hnm h1, h2⟩

theorem runFun_mono {c c' : LCode → RS → Option (LExit × RS)} {lf : LFun} (hc : ∀ s r, c lf.code s = some r → c' lf.code s = some r) {args : List LVal} {st : List LObj} {r} (h : runFun c lf args st = some r) : runFun c' lf args st = some r := by
  unfold runFun at h ⊢
  split at h
  · rename_i hp
    rw [if_pos hp]
    simp only [Option.bind_eq_some_iff] at h ⊢
    obtain ⟨u, h1, h2⟩ := h
    exact ⟨u, hc _ _ h1, h2⟩
  · cases h
end

variable {T : Tbl}

theorem callN_step : ∀ n, CLe (callN T n) (callN T (n + 1))
  | 0 => fun f args st r h => by simp [callN] at h
  | n + 1 => fun f args st r h => by
    rw [callN] at h ⊢
    cases hf : T.fns f with
    | none => simp [hf] at h
    | some d =>
      simp only [hf] at h ⊢
      cases d with
      | hook g => exact h
      | fn lf => exact runFun_mono (fun s r h => codeN_mono (callN_step n) (Nat.le_succ n) h) h

theorem callN_mono {n m : Nat} (h : n ≤ m) : CLe (callN T n) (callN T m) := by
  induction h with
  | refl => exact fun _ _ _ _ h => h
  | step _ ih => exact fun f args st r h => callN_step _ _ _ _ _ (ih _ _ _ _ h)

/-! ### Without fuel -/
open Classical in
/-- The limit of a chain of answers. -/
noncomputable def lim {α : Type} (f : Nat → Option α) : Option α := if h : ∃ n, (f n).isSome then f (Classical.choose h) else none

theorem lim_some {α : Type} {f : Nat → Option α} (hm : ∀ n m r, n ≤ m → f n = some r → f m = some r) {r : α} : lim f = some r ↔ ∃ n, f n = some r := by
  unfold lim
  constructor
  · intro h
    split at h
    · exact ⟨_, h⟩
    · cases h
  · rintro ⟨n, hn⟩
    have hex : ∃ n, (f n).isSome := ⟨n, by rw [hn]; rfl⟩
    rw [dif_pos hex]
    have hs := Classical.choose_spec hex
    obtain ⟨r', hr'⟩ := Option.isSome_iff_exists.1 hs
    rw [hr']
    rcases Nat.le_total n (Classical.choose hex) with hle | hle
    · have := hm _ _ _ hle hn; rw [hr'] at this; exact this
    · have := hm _ _ _ hle hr'; rw [hn] at this; exact this.symm

noncomputable def callW (T : Tbl) : CallL := fun f args st => lim fun n => callN T n f args st
noncomputable def codeW (T : Tbl) (c : LCode) (s : RS) : Option (LExit × RS) := lim fun n => codeN (callN T n) T.im T.impl n c s

theorem callW_iff {f : FuncId} {args : List LVal} {st : List LObj} {r} : callW T f args st = some r ↔ ∃ n, callN T n f args st = some r :=
  lim_some fun n m r h hn => callN_mono h _ _ _ _ hn
theorem codeW_iff {c : LCode} {s : RS} {r} : codeW T c s = some r ↔ ∃ n, codeN (callN T n) T.im T.impl n c s = some r :=
  lim_some fun n m r h hn => codeN_mono (callN_mono h) h hn

theorem le_callW (n : Nat) : CLe (callN T n) (callW T) := fun f args st r h => callW_iff.2 ⟨n, h⟩

/-- What is told with all calls is told with some fuel. -/
theorem sem_cont {s : RS} {o : LOp} {r} (h : sem (callW T) T.im T.impl s o = some r) : ∃ n, sem (callN T n) T.im T.impl s o = some r := by
  have key : ∀ {s : RS} {f a st} {r}, callOut s (callW T f a st) = some r → ∃ n, callOut s (callN T n f a st) = some r := by
    intro s f a st r h
    cases hc : callW T f a st with
    | none => rw [hc] at h; simp [callOut] at h
    | some u =>
      obtain ⟨n, hn⟩ := callW_iff.1 hc
      exact ⟨n, by rw [hn]; rwa [hc] at h⟩
  cases o
  case call f args =>
    simp only [sem, Option.bind_eq_some_iff] at h ⊢
    obtain ⟨u, h1, h2⟩ := h
    obtain ⟨n, hn⟩ := key h2
    exact ⟨n, u, h1, hn⟩
  case callp f args =>
    simp only [sem, Option.bind_eq_some_iff] at h ⊢
    obtain ⟨u, h1, h2⟩ := h
    split at h2
    · rename_i hp
      simp only [Option.bind_eq_some_iff] at h2
      obtain ⟨o, h3, h4⟩ := h2
      obtain ⟨n, hn⟩ := callW_iff.1 h3
      refine ⟨n, u, h1, ?_⟩
      rw [if_pos hp, hn]
      exact h4
    · cases h2
  case callv x args =>
    simp only [sem, Option.bind_eq_some_iff] at h ⊢
    obtain ⟨u, h1, h2⟩ := h
    cases u with
    | func f caps =>
      simp only [Option.bind_eq_some_iff] at h2
      obtain ⟨a, h3, h4⟩ := h2
      obtain ⟨n, hn⟩ := key h4
      exact ⟨n, _, h1, by simp only [h3, Option.bind_some]; exact hn⟩
    | _ => cases h2
  case invoke x name tbl args =>
    simp only [sem, Option.bind_eq_some_iff] at h ⊢
    obtain ⟨u, h1, h2⟩ := h
    cases u with
    | iface t v =>
      simp only [Option.bind_eq_some_iff] at h2
      obtain ⟨f, h3, a, h4, h5⟩ := h2
      obtain ⟨n, hn⟩ := key h5
      exact ⟨n, _, h1, by simp only [h3, h4, Option.bind_some]; exact hn⟩
    | _ => cases h2
  all_goals exact ⟨0, h⟩

theorem step_cont {s : RS} {o : LOper} {r} (h : step (callW T) T.im T.impl s o = some r) : ∃ n, step (callN T n) T.im T.impl s o = some r := by
  have key : ∀ {o : LOper} {r}, ((sem (callW T) T.im T.impl s o.op).map fun r => r.2.put o r.1) = some r → ∃ n, ((sem (callN T n) T.im T.impl s o.op).map fun r => r.2.put o r.1) = some r := by
    intro o r h
    simp only [Option.map_eq_some_iff] at h
    obtain ⟨u, h1, h2⟩ := h
    obtain ⟨n, hn⟩ := sem_cont h1
    exact ⟨n, by rw [hn]; simp [h2]⟩
  unfold step at h ⊢
  split at h
  · exact key h
  · simp only [Option.bind_eq_some_iff] at h ⊢
    obtain ⟨v, h1, h2⟩ := h
    cases v with
    | bool b =>
      dsimp only at h2
      split at h2
      · rename_i hb
        obtain ⟨n, hn⟩ := key h2
        exact ⟨n, _, h1, by dsimp only; rw [if_pos hb]; exact hn⟩
      · rename_i hb
        exact ⟨0, _, h1, by dsimp only; rw [if_neg hb]; exact h2⟩
    | tup l => exact ⟨0, _, h1, h2⟩
    | _ => cases h2

theorem runOps_cont : ∀ {l : List LOper} {s : RS} {r}, runOps (callW T) T.im T.impl l s = some r → ∃ n, runOps (callN T n) T.im T.impl l s = some r
  | [], s, r, h => ⟨0, h⟩
  | o :: l, s, r, h => by
    simp only [runOps, Option.bind_eq_some_iff] at h
    obtain ⟨u, h1, h2⟩ := h
    obtain ⟨n1, k1⟩ := step_cont h1
    obtain ⟨n2, k2⟩ := runOps_cont h2
    refine ⟨max n1 n2, ?_⟩
    simp only [runOps, Option.bind_eq_some_iff]
    exact ⟨u, step_mono (callN_mono (Nat.le_max_left ..)) k1, runOps_mono (callN_mono (Nat.le_max_right ..)) k2⟩

theorem stepD_cont {s : RS} {o : LOper} {r} (h : stepD (callW T) T.im T.impl s o = some r) : ∃ n, stepD (callN T n) T.im T.impl s o = some r := by
  have keyD : ∀ {r}, semD (callW T) T.im T.impl s o = some r → ∃ n, semD (callN T n) T.im T.impl s o = some r := by
    intro r h
    unfold semD at h ⊢
    split at h
    · rename_i h1
      split at h
      · rename_i h2
        obtain ⟨n, hn⟩ := sem_cont h
        exact ⟨n, by rw [if_pos h1, if_pos h2]; exact hn⟩
      · cases h
    · rename_i h1
      obtain ⟨n, hn⟩ := sem_cont h
      exact ⟨n, by rw [if_neg h1]; exact hn⟩
  have key : ∀ {r}, ((semD (callW T) T.im T.impl s o).map fun r => r.2.put o (o.fix r.1)) = some r → ∃ n, ((semD (callN T n) T.im T.impl s o).map fun r => r.2.put o (o.fix r.1)) = some r := by
    intro r h
    simp only [Option.map_eq_some_iff] at h
    obtain ⟨u, h1, h2⟩ := h
    obtain ⟨n, hn⟩ := keyD h1
    exact ⟨n, by rw [hn]; simp [h2]⟩
  unfold stepD at h ⊢
  split at h
  · cases h
  · rename_i h0
    simp only [if_neg h0]
    split at h
    · exact key h
    · simp only [Option.bind_eq_some_iff] at h ⊢
      obtain ⟨v, h1, h2⟩ := h
      cases v with
      | bool b =>
        dsimp only at h2
        split at h2
        · rename_i hb
          obtain ⟨n, hn⟩ := key h2
          exact ⟨n, _, h1, by dsimp only; rw [if_pos hb]; exact hn⟩
        · rename_i hb
          exact ⟨0, _, h1, by dsimp only; rw [if_neg hb]; exact h2⟩
      | tup l =>
        cases l with
        | nil => exact ⟨0, _, h1, h2⟩
        | cons => cases h2
      | _ => cases h2

theorem runOpsD_cont : ∀ {l : List LOper} {s : RS} {r}, runOpsD (callW T) T.im T.impl l s = some r → ∃ n, runOpsD (callN T n) T.im T.impl l s = some r
  | [], s, r, h => ⟨0, h⟩
  | o :: l, s, r, h => by
    simp only [runOpsD, Option.bind_eq_some_iff] at h
    obtain ⟨u, h1, h2⟩ := h
    obtain ⟨n1, k1⟩ := stepD_cont h1
    obtain ⟨n2, k2⟩ := runOpsD_cont h2
    refine ⟨max n1 n2, ?_⟩
    simp only [runOpsD, Option.bind_eq_some_iff]
    exact ⟨u, stepD_mono (callN_mono (Nat.le_max_left ..)) k1, runOpsD_mono (callN_mono (Nat.le_max_right ..)) k2⟩

/-! ### The equations -/
theorem opt_ext {α} {x y : Option α} (h : ∀ r, x = some r ↔ y = some r) : x = y := Option.ext h

theorem callW_hook {f : FuncId} {g} (hf : T.fns f = some (.hook g)) (args : List LVal) (st : List LObj) : callW T f args st = g args st := by
  refine opt_ext fun r => ?_
  rw [callW_iff]
  constructor
  · rintro ⟨n, hn⟩
    cases n with
    | zero => simp [callN] at hn
    | succ n => simpa [callN, hf] using hn
  · intro h; exact ⟨1, by simpa [callN, hf] using h⟩

theorem callW_fn {f : FuncId} {lf : LFun} (hf : T.fns f = some (.fn lf)) (args : List LVal) (st : List LObj) : callW T f args st = runFun (codeW T) lf args st := by
  refine opt_ext fun r => ?_
  rw [callW_iff]
  constructor
  · rintro ⟨n, hn⟩
    cases n with
    | zero => simp [callN] at hn
    | succ n =>
      simp only [callN, hf] at hn
      exact runFun_mono (fun s r h => codeW_iff.2 ⟨n, h⟩) hn
  · intro h
    have : ∃ n, runFun (codeN (callN T n) T.im T.impl n) lf args st = some r := by
      unfold runFun at h ⊢
      split at h
      · rename_i hp
        simp only [Option.bind_eq_some_iff] at h
        obtain ⟨u, h1, h2⟩ := h
        obtain ⟨n, hn⟩ := codeW_iff.1 h1
        exact ⟨n, by rw [if_pos hp]; simp only [Option.bind_eq_some_iff]; exact ⟨u, hn, h2⟩⟩
      · cases h
    obtain ⟨n, hn⟩ := this
    exact ⟨n + 1, by simpa only [callN, hf] using hn⟩

theorem codeW_const {c : LCode} {s : RS} {x : Option (LExit × RS)} (h : ∀ n, codeN (callN T n) T.im T.impl n c s = x) : codeW T c s = x := by
  refine opt_ext fun r => ?_
  rw [codeW_iff]
  simp [h]

theorem codeW_skip (s : RS) : codeW T .skip s = some (.normal, s) := codeW_const fun n => rfl
theorem codeW_exit (id : Nat) (s : RS) : codeW T (.exit id) s = some (.exit id, s) := codeW_const fun n => rfl
theorem codeW_ret (s : RS) : codeW T .ret s = some (.ret, s) := codeW_const fun n => rfl
theorem codeW_dead (s : RS) : codeW T .dead s = none := codeW_const fun n => rfl

theorem codeW_region (n : Nat) (ops : List LOper) (s : RS) :
    codeW T (.region n ops false) s = (runOps (callW T) T.im T.impl ops { s with rs := List.replicate n .undef }).map fun s => (.normal, { s with rs := [] }) := by
  refine opt_ext fun r => ?_
  rw [codeW_iff]
  constructor
  · rintro ⟨m, hm⟩
    exact map_mono (x := runOps ..) hm fun r h => runOps_mono (le_callW m) h
  · intro h
    simp only [Option.map_eq_some_iff] at h
    obtain ⟨u, h1, h2⟩ := h
    obtain ⟨m, hm⟩ := runOps_cont h1
    exact ⟨m, by simp [codeN, hm, h2]⟩

theorem codeW_regionD (n : Nat) (ops : List LOper) (s : RS) :
    codeW T (.region n ops true) s = (runOpsD (callW T) T.im T.impl ops { s.settle with rs := List.replicate n .undef }).map fun s => (.normal, { s with rs := [] }) := by
  refine opt_ext fun r => ?_
  rw [codeW_iff]
  constructor
  · rintro ⟨m, hm⟩
    exact map_mono (x := runOpsD ..) hm fun r h => runOpsD_mono (le_callW m) h
  · intro h
    simp only [Option.map_eq_some_iff] at h
    obtain ⟨u, h1, h2⟩ := h
    obtain ⟨m, hm⟩ := runOpsD_cont h1
    exact ⟨m, by simp [codeN, hm, h2]⟩

/-- Behind a first code. -/
def thenW (k : RS → Option (LExit × RS)) (r : LExit × RS) : Option (LExit × RS) := match r.1 with
  | .normal => k r.2
  | _ => some r

@[simp] theorem thenW_normal {k s} : thenW k (.normal, s) = k s := rfl
@[simp] theorem thenW_exit {k id s} : thenW k (.exit id, s) = some (.exit id, s) := rfl
@[simp] theorem thenW_ret {k s} : thenW k (.ret, s) = some (.ret, s) := rfl

theorem codeW_up {c : LCode} {s : RS} {r} {n m : Nat} (h : codeN (callN T n) T.im T.impl n c s = some r) (hm : n ≤ m) : codeN (callN T m) T.im T.impl m c s = some r :=
  codeN_mono (callN_mono hm) hm h

theorem codeW_seq (a b : LCode) (s : RS) : codeW T (.seq a b) s = (codeW T a s).bind (thenW (codeW T b)) := by
  refine opt_ext fun r => ?_
  rw [codeW_iff]
  constructor
  · rintro ⟨n, hn⟩
    simp only [codeN, Option.bind_eq_some_iff] at hn ⊢
    obtain ⟨⟨ex, s1⟩, h1, h2⟩ := hn
    refine ⟨_, codeW_iff.2 ⟨n, h1⟩, ?_⟩
    cases ex with
    | normal => exact codeW_iff.2 ⟨n, h2⟩
    | _ => exact h2
  · intro h
    simp only [Option.bind_eq_some_iff] at h
    obtain ⟨u, h1, h2⟩ := h
    obtain ⟨n, hn⟩ := codeW_iff.1 h1
    unfold thenW at h2
    split at h2
    · rename_i hu
      obtain ⟨m, hm⟩ := codeW_iff.1 h2
      refine ⟨max n m, ?_⟩
      simp only [codeN, Option.bind_eq_some_iff]
      refine ⟨u, codeW_up hn (Nat.le_max_left ..), ?_⟩
      rw [hu]
      exact codeW_up hm (Nat.le_max_right ..)
    · rename_i hu
      refine ⟨n, ?_⟩
      simp only [codeN, Option.bind_eq_some_iff]
      refine ⟨u, hn, ?_⟩
      split
      · rename_i hu'; exact absurd hu' hu
      · exact h2

theorem codeW_cond (x : Opd) (a b : LCode) (s : RS) : codeW T (.cond x a b) s = (s.peek x).bind fun v => match v with
    | .bool t => if t then codeW T a s else codeW T b s
    | _ => none := by
  refine opt_ext fun r => ?_
  rw [codeW_iff]
  constructor
  · rintro ⟨n, hn⟩
    simp only [codeN] at hn
    refine bind_mono hn fun v r h => ?_
    cases v with
    | bool t => cases t <;> exact codeW_iff.2 ⟨n, h⟩
    | _ => cases h
  · intro h
    simp only [Option.bind_eq_some_iff] at h
    obtain ⟨v, h1, h2⟩ := h
    cases v with
    | bool t =>
      cases t with
      | true => obtain ⟨n, hn⟩ := codeW_iff.1 (show codeW T a s = some r from h2); exact ⟨n, by simp [codeN, h1, hn]⟩
      | false => obtain ⟨n, hn⟩ := codeW_iff.1 (show codeW T b s = some r from h2); exact ⟨n, by simp [codeN, h1, hn]⟩
    | _ => cases h2

/-- Out of a block. -/
def outW (id : Nat) (r : LExit × RS) : LExit × RS := if r.1 = .exit id then (.normal, r.2) else r
@[simp] theorem outW_normal {id s} : outW id (.normal, s) = (.normal, s) := rfl
@[simp] theorem outW_ret {id s} : outW id (.ret, s) = (.ret, s) := rfl
theorem outW_exit {id j s} : outW id (.exit j, s) = if j = id then (.normal, s) else (.exit j, s) := by unfold outW; simp

theorem codeW_block (id : Nat) (b : LCode) (s : RS) : codeW T (.block id b) s = (codeW T b s).map (outW id) := by
  refine opt_ext fun r => ?_
  rw [codeW_iff]
  constructor
  · rintro ⟨n, hn⟩
    exact map_mono (x := codeN ..) hn fun r h => codeW_iff.2 ⟨n, h⟩
  · intro h
    simp only [Option.map_eq_some_iff] at h
    obtain ⟨u, h1, h2⟩ := h
    obtain ⟨n, hn⟩ := codeW_iff.1 h1
    exact ⟨n, by simp only [codeN, hn, Option.map_some]; exact congrArg some h2⟩

theorem codeW_fence (ks : List Nat) (b : LCode) (s : RS) : codeW T (.fence ks b) s = (codeW T b s).bind (fenceOut s.st.length ks) := by
  refine opt_ext fun r => ?_
  rw [codeW_iff]
  constructor
  · rintro ⟨n, hn⟩
    simp only [codeN, Option.bind_eq_some_iff] at hn ⊢
    obtain ⟨u, h1, h2⟩ := hn
    exact ⟨u, codeW_iff.2 ⟨n, h1⟩, h2⟩
  · intro h
    simp only [Option.bind_eq_some_iff] at h
    obtain ⟨u, h1, h2⟩ := h
    obtain ⟨n, hn⟩ := codeW_iff.1 h1
    exact ⟨n, by simp only [codeN, hn, Option.bind_some]; exact h2⟩

/-- One round. -/
theorem codeW_loop (b : LCode) (s : RS) : codeW T (.loop b) s = (codeW T b s).bind (thenW (codeW T (.loop b))) := by
  refine opt_ext fun r => ?_
  rw [codeW_iff]
  constructor
  · rintro ⟨n, hn⟩
    cases n with
    | zero => simp [codeN, loopN] at hn
    | succ n =>
      simp only [codeN, loopN, Option.bind_eq_some_iff] at hn ⊢
      obtain ⟨⟨ex, s1⟩, h1, h2⟩ := hn
      refine ⟨_, codeW_iff.2 ⟨n + 1, h1⟩, ?_⟩
      cases ex with
      | normal =>
        refine codeW_iff.2 ⟨n + 1, ?_⟩
        exact loopN_mono (fun s r h => h) (Nat.le_succ n) h2
      | _ => exact h2
  · intro h
    simp only [Option.bind_eq_some_iff] at h
    obtain ⟨u, h1, h2⟩ := h
    obtain ⟨n, hn⟩ := codeW_iff.1 h1
    unfold thenW at h2
    split at h2
    · rename_i hu
      obtain ⟨m, hm⟩ := codeW_iff.1 h2
      refine ⟨max n m + 1, ?_⟩
      simp only [codeN, loopN, Option.bind_eq_some_iff]
      refine ⟨u, codeW_up hn (by omega), ?_⟩
      rw [hu]
      exact loopN_mono (fun s r h => codeW_up h (by omega)) (Nat.le_max_right ..) hm
    · rename_i hu
      refine ⟨n + 1, ?_⟩
      simp only [codeN, loopN, Option.bind_eq_some_iff]
      refine ⟨u, codeW_up hn (by omega), ?_⟩
      split
      · rename_i hu'; exact absurd hu' hu
      · exact h2
end Go.L
