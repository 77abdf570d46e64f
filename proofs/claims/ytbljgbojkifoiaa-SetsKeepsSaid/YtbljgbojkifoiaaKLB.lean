/- The interpreter, part LB. -/
import Derived.Test.YtbljgbojkifoiaaKLA
import Derived.ChangeKeysEq
import Derived.Great.FillDense
/- L3: states under what an operation does: places kept, given over, copied, written. -/
set_option linter.unusedVariables false
set_option linter.unusedSimpArgs false
namespace Go.L
open Go

variable {P : Program} {vm : List Nat} {lm : List (Option Nat)} {ρ ρ' : List Nat} {S S' : Nat → Nat → Prop} {G G' : Nat → Cl} {σ : RS} {a : Act} {w w' : World}

def LVal.simple : LVal → Bool
  | .vs _ (.own ..) _ _ | .vs _ (.pk _) _ _ | .tup _ => false
  | _ => true

theorem LVal.simple_of_plain {v : LVal} (h : v.plain = true) : v.simple = true := by
  cases v with
  | vs b o n xs => cases o <;> simp_all [LVal.plain, LVal.simple]
  | _ => simp_all [LVal.plain, LVal.simple]
theorem LVal.simple_of_agg {v : LVal} (h : v.isAgg = true) : v.simple = true := by cases v <;> simp_all [LVal.isAgg, LVal.simple]

/-- What is no slice that is owned or looked at stands by itself. -/
theorem At1.simple {pk l v cv} (hs : v.simple = true) : At1 P w S G ρ pk l v cv ↔ V w S ρ v cv := by
  cases v with
  | vs b o n xs => cases o <;> simp_all [LVal.simple, At1]
  | _ => simp_all [LVal.simple, At1]
theorem At.simple {pk b v cv} (hs : v.simple = true) : At P w S G ρ pk b v cv ↔ V w S ρ v cv := by
  cases v with
  | vs b o n xs => cases o <;> simp_all [LVal.simple, At, At1]
  | _ => simp_all [LVal.simple, At, At1]

theorem At.nt {pk b v cv} (h : ∀ l, v ≠ .tup l) : At P w S G ρ pk b v cv ↔ At1 P w S G ρ pk (b, 0) v cv := by
  cases v with
  | tup l => exact absurd rfl (h l)
  | _ => exact Iff.rfl

theorem Cells.mono {T T' : Nat → Nat → Prop} {b off l} (h : Cells w S T b off l) (he : Ext S w S' w') (hc : ∀ j v, l[j]? = some v → w'.cell? ⟨b, off + j, none⟩ = w.cell? ⟨b, off + j, none⟩)
    (ht : ∀ o, T b o → T' b o) : Cells w' S' T' b off l := by
  intro j v hj
  obtain ⟨h1, c, h2, h3, h4⟩ := h j v hj
  exact ⟨ht _ h1, c, (hc j v hj).trans h2, h3.mono he (RhoLe.refl _), h4⟩

theorem OwnAt.keep {l e x n xs cv} (h : OwnAt P w S G l e x n xs cv) (he : Ext S w S' w')
    (hb : ∀ b e x, G b = .arr l e x → w'.heap[b]? = w.heap[b]? ∧ G' b = G b) : OwnAt P w' S' G' l e x n xs cv := by
  obtain ⟨b, cap, cur, h1, h2, h3, h4, h5, h6, h7, h8, h9, h10⟩ := h
  obtain ⟨k1, k2⟩ := hb b _ _ h8
  refine ⟨b, cap, cur, h1, k1.trans h2, h3, h4, h5, h6, h7, k2.trans h8, h9, h10.mono he (fun j v _ => World.cell?_of_block (w := w) k1) (fun o hx hx' => ?_)⟩
  exact (he _ _ (hx hx')).1

theorem At1.keep {pk pk' l v cv} (h : At1 P w S G ρ pk l v cv) (he : Ext S w S' w') (hr : RhoLe ρ ρ')
    (hb : ∀ b e x, G b = .arr l e x → w'.heap[b]? = w.heap[b]? ∧ G' b = G b) (hpk : ∀ p n xs, pk p n xs cv → pk' p n xs cv) : At1 P w' S' G' ρ' pk' l v cv := by
  by_cases hs : v.simple = true
  · exact (At1.simple hs).2 (((At1.simple hs).1 h).mono he hr)
  · cases v with
    | vs b o n xs =>
      cases o with
      | own e x => exact ⟨h.1, h.2.keep he hb⟩
      | pk p => exact ⟨h.1, hpk _ _ _ h.2⟩
      | _ => simp [LVal.simple] at hs
    | tup l => exact V.mono h he hr
    | _ => simp [LVal.simple] at hs

theorem At.keep {pk pk' b v cv} (h : At P w S G ρ pk b v cv) (he : Ext S w S' w') (hr : RhoLe ρ ρ')
    (hb : ∀ bl c e x, G bl = .arr (b, c) e x → w'.heap[bl]? = w.heap[bl]? ∧ G' bl = G bl) (hpk : ∀ p n xs, pk p n xs cv → pk' p n xs cv) : At P w' S' G' ρ' pk' b v cv := by
  cases v with
  | tup l =>
    obtain ⟨cs, h1, h2, h3⟩ := h
    refine ⟨cs, h1, h2, fun c u hu => ?_⟩
    obtain ⟨k0, cu, k1, k2⟩ := h3 c u hu
    exact ⟨k0, cu, k1, k2.keep he hr (fun bl e x => hb bl (c + 1) e x) (fun _ _ _ h => h)⟩
  | _ => exact (At.nt (by simp)).2 (((At.nt (by simp)).1 h).keep he hr (fun bl e x => hb bl 0 e x) hpk)

theorem ObjAt.keep {id o} (h : ObjAt P w S G ρ id o) (he : Ext S w S' w') (hr : RhoLe ρ ρ')
    (hbox : ∀ b, G b = .box id → w'.heap[b]? = w.heap[b]? ∧ G' b = G b)
    (hb : ∀ bl off c e x, G bl = .arr (.cell id off, c) e x → w'.heap[bl]? = w.heap[bl]? ∧ G' bl = G bl) : ObjAt P w' S' G' ρ' id o := by
  cases o with
  | dead => trivial
  | cells et c =>
    obtain ⟨b, cc, h1, h2, h3, h4, h5⟩ := h
    obtain ⟨k1, k2⟩ := hbox b h3
    refine ⟨b, cc, hr _ _ h1, k1.trans h2, k2.trans h3, h4, fun off v hv => ?_⟩
    obtain ⟨m0, cv, m1, m2⟩ := h5 off v hv
    exact ⟨m0, cv, m1, m2.keep he hr (fun bl e x => hb bl off 0 e x) (fun _ _ _ h => h)⟩
  | map es =>
    obtain ⟨b, ces, clock, h1, h2, h3, h4, h5, h6⟩ := h
    obtain ⟨k1, k2⟩ := hbox b h3
    refine ⟨b, ces, clock, hr _ _ h1, k1.trans h2, k2.trans h3, h4, h5, fun i e hi => ?_⟩
    obtain ⟨ce, m1, m2, m3, m4, m5⟩ := h6 i e hi
    exact ⟨ce, m1, m2.mono he (RhoLe.refl _), m3, m4.mono he hr, m5⟩

theorem PkOk.heap {p n xs cv} (h : PkOk vm ρ σ a w p n xs cv) (hr : RhoLe ρ ρ') (hb : ∀ (id b : Nat), ρ[id]? = some b → (∃ ty c, σ.st[id]? = some (LObj.cells ty c)) → w'.heap[b]? = w.heap[b]?) : PkOk vm ρ' σ a w' p n xs cv := by
  cases p with
  | var k => exact h
  | cell id off =>
    obtain ⟨e, x, ty, c, b, cc, et, fr, h1, h2, h3, h4, h5⟩ := h
    exact ⟨e, x, ty, c, b, cc, et, fr, h1, h2, hr _ _ h3, (hb _ _ h3 ⟨ty, c, h1⟩).trans h4, h5⟩

/-- The state in a world that has not touched what it stands for. -/
theorem Rel.keep (h : Rel P vm lm ρ S G σ a w) (he : Ext S w S' w') (hsz : w.heap.size ≤ w'.heap.size) (hswf : SWf w' S' G')
    (hbox : ∀ b id, G b = .box id → w'.heap[b]? = w.heap[b]? ∧ G' b = G b)
    (hb : ∀ bl l e x, G bl = .arr l e x → l.1 ≠ .pend → w'.heap[bl]? = w.heap[bl]? ∧ G' bl = G bl) : Rel P vm lm ρ S' G' σ a w' where
  defers := h.defers
  vsz := h.vsz
  lsz := h.lsz
  swf := hswf
  len := h.len
  rho id b hi := Nat.lt_of_lt_of_le (h.rho id b hi) hsz
  st id o ho := (h.st id o ho).keep he (RhoLe.refl _) (fun b => hbox b id) (fun bl off c e x hg => hb bl _ e x hg (by simp))
  vars k v hv := by
    obtain ⟨t, h1, h2, h3⟩ := h.vars k v hv
    exact ⟨t, h1, h2, h3.keep he (RhoLe.refl _) (fun bl c e x hg => hb bl _ e x hg (by simp)) (fun _ _ _ h => h)⟩
  rs i v hv := by
    rcases h.rs i v hv with h0 | ⟨t, h1, h2, h3⟩
    · exact .inl h0
    · refine .inr ⟨t, h1, h2, h3.keep he (RhoLe.refl _) (fun bl c e x hg => hb bl _ e x hg (by simp)) (fun p n xs hp => PkOk.heap hp (RhoLe.refl _) ?_)⟩
      rintro id b hi ⟨ty, c, hc⟩
      obtain ⟨b', cc, m1, m2, m3, _⟩ := h.st id _ hc
      obtain rfl : b = b' := by rw [hi] at m1; exact Option.some.inj m1
      exact (hbox b id m3).1

/-! ### Going over from place to place -/
def gmove (p q : Base) (G : Nat → Cl) : Nat → Cl := fun b => match G b with
  | .arr (p', c) e x => if p' = p then .arr (q, c) e x else .arr (p', c) e x
  | g => g

theorem relab_box {p q b id} : gmove p q G b = .box id ↔ G b = .box id := by
  unfold gmove
  cases h : G b with
  | arr l e x => obtain ⟨p', c⟩ := l; dsimp only; split <;> simp
  | _ => simp
theorem relab_ro {p q b} : gmove p q G b = .ro ↔ G b = .ro := by
  unfold gmove
  cases h : G b with
  | arr l e x => obtain ⟨p', c⟩ := l; dsimp only; split <;> simp
  | _ => simp
theorem relab_other {p q b p' c e x} (h : G b = .arr (p', c) e x) (hn : p' ≠ p) : gmove p q G b = G b := by
  unfold gmove; rw [h]; simp [hn]
theorem relab_at {p q b c e x} (h : G b = .arr (p, c) e x) : gmove p q G b = .arr (q, c) e x := by
  unfold gmove; rw [h]; simp
theorem relab_arr {p q b l e x} (h : gmove p q G b = .arr l e x) : ∃ l', G b = .arr l' e x := by
  unfold gmove at h
  cases hg : G b with
  | arr l' e' x' =>
    rw [hg] at h
    obtain ⟨p', c⟩ := l'
    dsimp only at h
    split at h <;> (injection h with h1 h2 h3; subst h2; subst h3; exact ⟨_, rfl⟩)
  | _ => rw [hg] at h; simp at h

theorem SWf.relab (h : SWf w S G) (p q : Base) : SWf w S (gmove p q G) where
  lt := h.lt
  fresh b hb := relab_ro.2 (h.fresh b hb)
  box b o id hs hg := h.box b o id hs (relab_box.1 hg)
  arr b o l e x hs hg := by obtain ⟨l', hg'⟩ := relab_arr hg; exact h.arr b o l' e x hs hg'

theorem OwnAt.relab {p q c e x n xs cv} (h : OwnAt P w S G (p, c) e x n xs cv) : OwnAt P w S (gmove p q G) (q, c) e x n xs cv := by
  obtain ⟨b, cap, cur, h1, h2, h3, h4, h5, h6, h7, h8, h9, h10⟩ := h
  exact ⟨b, cap, cur, h1, h2, h3, h4, h5, h6, h7, relab_at h8, h9, h10⟩
theorem At1.relab {pk p q c v cv} (h : At1 P w S G ρ pk (p, c) v cv) : At1 P w S (gmove p q G) ρ pk (q, c) v cv := by
  by_cases hs : v.simple = true
  · exact (At1.simple hs).2 ((At1.simple hs).1 h)
  · cases v with
    | vs b o n xs =>
      cases o with
      | own e x => exact ⟨h.1, h.2.relab⟩
      | pk p => exact h
      | _ => simp [LVal.simple] at hs
    | tup l => exact h
    | _ => simp [LVal.simple] at hs
theorem At.relab {pk p q v cv} (h : At P w S G ρ pk p v cv) : At P w S (gmove p q G) ρ pk q v cv := by
  cases v with
  | tup l =>
    obtain ⟨cs, h1, h2, h3⟩ := h
    refine ⟨cs, h1, h2, fun c u hu => ?_⟩
    obtain ⟨k0, cu, k1, k2⟩ := h3 c u hu
    exact ⟨k0, cu, k1, k2.relab⟩
  | _ => exact (At.nt (by simp)).2 (At1.relab ((At.nt (by simp)).1 h))
theorem At.relab_other {pk p q b v cv} (h : At P w S G ρ pk b v cv) (hn : b ≠ p) : At P w S (gmove p q G) ρ pk b v cv :=
  h.keep (Ext.refl _ _) (RhoLe.refl _) (fun bl c e x hg => ⟨rfl, Go.L.relab_other hg hn⟩) (fun _ _ _ h => h)
theorem ObjAt.relab {p q id o} (h : ObjAt P w S G ρ id o) (hp : ∀ off, p ≠ .cell id off) : ObjAt P w S (gmove p q G) ρ id o :=
  h.keep (Ext.refl _ _) (RhoLe.refl _) (fun b hg => ⟨rfl, (relab_box.2 hg).trans hg.symm⟩) (fun bl off c e x hg => ⟨rfl, Go.L.relab_other hg (fun e => hp off e.symm)⟩)

/-- Nothing in the state is at the place. -/
def RS.frees (σ : RS) : Base → Prop
  | .var k => ∀ v, σ.vars[k]? = some v → v.simple = true
  | .rs i => ∀ v, σ.rs[i]? = some v → v.simple = true
  | .cell _ _ => False
  | .pend => True

theorem Rel.relab (h : Rel P vm lm ρ S G σ a w) {p q : Base} (hp : σ.frees p) : Rel P vm lm ρ S (gmove p q G) σ a w where
  defers := h.defers
  vsz := h.vsz
  lsz := h.lsz
  swf := h.swf.relab p q
  len := h.len
  rho := h.rho
  st id o ho := (h.st id o ho).relab (fun off e => by subst e; exact hp)
  vars k v hv := by
    obtain ⟨t, h1, h2, h3⟩ := h.vars k v hv
    refine ⟨t, h1, h2, ?_⟩
    by_cases hk : Base.var k = p
    · subst hk
      exact (At.simple (hp v hv)).2 ((At.simple (hp v hv)).1 h3)
    · exact h3.relab_other hk
  rs i v hv := by
    rcases h.rs i v hv with h0 | ⟨t, h1, h2, h3⟩
    · exact .inl h0
    · refine .inr ⟨t, h1, h2, ?_⟩
      by_cases hk : Base.rs i = p
      · subst hk
        exact (At.simple (hp v hv)).2 ((At.simple (hp v hv)).1 h3)
      · exact h3.relab_other hk

theorem Pr.relab (p q : Base) : Pr w S G ρ w S (gmove p q G) ρ :=
  ⟨rfl, rfl, rfl, Nat.le_refl _, Ext.refl _ _, RhoLe.refl _, fun _ _ h => ⟨rfl, relab_ro.2 h⟩, fun _ _ h => .inl h⟩

/-! ### A place forgets -/
theorem Rel.rsUndef (h : Rel P vm lm ρ S G σ a w) (i : Nat) : Rel P vm lm ρ S G { σ with rs := σ.rs.set i .undef } a w where
  defers := h.defers
  vsz := h.vsz
  lsz := h.lsz
  swf := h.swf
  len := h.len
  rho := h.rho
  st := h.st
  vars := h.vars
  rs j v hv := by
    by_cases hj : i = j
    · subst hj
      rw [List.getElem?_set] at hv
      simp at hv
      exact .inl hv.2.symm
    · rw [List.getElem?_set_ne hj] at hv
      exact h.rs j v hv

theorem LVal.unpk_cases (v : LVal) : v.unpk = v ∨ v.unpk = .undef := by
  cases v with
  | vs b o n xs => cases o <;> simp [LVal.unpk]
  | _ => simp [LVal.unpk]
theorem LVal.unpk_pk {v : LVal} : (∃ b p n xs, v = .vs b (.pk p) n xs) → v.unpk = .undef := by rintro ⟨b, p, n, xs, rfl⟩; rfl

/-- Without looks the entries hang on nothing but their own places. -/
theorem At.unpk {pk pk' b v cv} (h : At P w S G ρ pk b v cv) : v.unpk = .undef ∨ (v.unpk = v ∧ At P w S G ρ pk' b v cv) := by
  cases v with
  | vs bb o n xs =>
    cases o with
    | pk p => exact .inl rfl
    | own e x => exact .inr ⟨rfl, h⟩
    | sh => exact .inr ⟨rfl, h⟩
    | full => exact .inr ⟨rfl, h⟩
  | tup l => exact .inr ⟨rfl, h⟩
  | _ => exact .inr ⟨rfl, h⟩

theorem RS.noPk_rs {σ : RS} {i : Nat} {v : LVal} (h : σ.noPk.rs[i]? = some v) : ∃ u, σ.rs[i]? = some u ∧ v = u.unpk := by
  simp [RS.noPk] at h
  obtain ⟨u, h1, h2⟩ := h
  exact ⟨u, h1, h2.symm⟩

end Go.L
/- L4: operands: looked at, copied, given over. -/
set_option linter.unusedVariables false
set_option linter.unusedSimpArgs false
namespace Go.L
open Go

variable {P : Program} {vm : List Nat} {lm : List (Option Nat)} {ρ ρ' : List Nat} {S S' : Nat → Nat → Prop} {G G' : Nat → Cl} {σ σ' : RS} {a : Act} {w w' : World}

/-! ### Constants, and which operand stands for which -/
mutual
def constOk : Value → LVal → Bool
  | .bool b, .bool b' => b == b'
  | .int k n, .int k' n' => k == k' && n == n'
  | .string s, .str l => s.data.toList == l
  | .pointer none, .nilptr => true
  | .slice none 0 0, .vs true .sh _ [] => true
  | .map none, .nilmap => true
  | .nilFunc, .nilfunc => true
  | .nilIface, .niliface => true
  | .func (.func f) ⟨[]⟩ ⟨[]⟩, .func f' [] => f == f'
  | .agg ⟨cs⟩, .agg l => constsOk cs l && l.all LVal.plain
  | .iface t v, .iface t' u => t == t' && constOk v u && (u.plain || u.isAgg)
  | .tuple ⟨[]⟩, .tup [] => true
  | _, _ => false
def constsOk : List Value → List LVal → Bool
  | [], [] => true
  | c :: cs, v :: l => constOk c v && constsOk cs l
  | _, _ => false
end

mutual
theorem constOk.V {w S} : ∀ {c : Value} {v : LVal} (ρ : List Nat), constOk c v = true → V w S ρ v c
  | .bool b, .bool b', ρ, h => by simp [constOk] at h; subst h; exact .bool _
  | .int k n, .int k' n', ρ, h => by simp [constOk] at h; obtain ⟨rfl, rfl⟩ := h; exact .int _ _
  | .string ⟨⟨s⟩⟩, .str l, ρ, h => by simp [constOk] at h; subst h; exact .str _
  | .pointer none, .nilptr, ρ, _ => .nilptr
  | .slice none 0 0, .vs true .sh _ [], ρ, _ => .nils
  | .map none, .nilmap, ρ, _ => .nilmap
  | .nilFunc, .nilfunc, ρ, _ => .nilfunc
  | .nilIface, .niliface, ρ, _ => .niliface
  | .func (.func f) ⟨[]⟩ ⟨[]⟩, .func f' [], ρ, h => by simp [constOk] at h; subst h; exact .func .nil rfl
  | .agg ⟨cs⟩, .agg l, ρ, h => by simp only [constOk, Bool.and_eq_true] at h; exact .agg (constsOk.VL ρ h.1) h.2
  | .iface t x, .iface t' u, ρ, h => by
    simp only [constOk, Bool.and_eq_true, beq_iff_eq, Bool.or_eq_true] at h
    obtain ⟨⟨rfl, h1⟩, h2⟩ := h
    exact .iface (constOk.V ρ h1) h2
  | .tuple ⟨[]⟩, .tup [], ρ, _ => .tup .nil rfl
theorem constsOk.VL {w S} : ∀ {cs : List Value} {l : List LVal} (ρ : List Nat), constsOk cs l = true → VL w S ρ l cs
  | [], [], ρ, _ => .nil
  | c :: cs, v :: l, ρ, h => by
    simp only [constsOk, Bool.and_eq_true] at h
    exact .cons (constOk.V ρ h.1) (constsOk.VL ρ h.2)
end

def chkOpd (vm : List Nat) (lm : List (Option Nat)) : Operand → Opd → Bool
  | .tmp t, .loc i => lm[i]? == some (some t)
  | .tmp t, .var k => vm[k]? == some t
  | .const v, .const u => constOk v u && u.simple
  | .func f, .const (.func f' []) => f == f'
  | _, _ => false

/-- What any slice that is looked at leads to. -/
def SliceView (w : World) (S : Nat → Nat → Prop) (b : Bool) (n : Nat) (xs : List LVal) (cv : Value) : Prop :=
  (b = true ∧ xs = [] ∧ cv = .slice none 0 0) ∨
  (b = false ∧ ∃ bl off cap, cv = .slice (some ⟨bl, off, none⟩) xs.length cap ∧ xs.length ≤ cap ∧ cap ≤ maxLen ∧ (∀ x ∈ xs, x.cells.length = n) ∧
    Cells w S (fun _ _ => True) bl off (xs.flatMap LVal.cells)) ∨
  (b = false ∧ xs = [] ∧ ∃ ad, cv = .slice (some ad) 0 0)

theorem V.view {b o n xs cv} (h : V w S ρ (.vs b o n xs) cv) : SliceView w S b n xs cv := by
  cases h with
  | nils => exact .inl ⟨rfl, rfl, rfl⟩
  | vz => exact .inr (.inr ⟨rfl, rfl, _, rfl⟩)
  | vs h1 h2 h3 h4 h5 => exact .inr <| .inl ⟨rfl, _, _, _, rfl, h1, h2, h4, h5.cells.weak fun _ _ _ => trivial⟩
theorem OwnAt.view {l e x n xs cv} (h : OwnAt P w S G l e x n xs cv) : SliceView w S false n xs cv := by
  obtain ⟨b, cap, cur, h1, h2, h3, h4, h5, h6, h7, h8, h9, h10⟩ := h
  exact .inr (.inl ⟨rfl, b, 0, cap, h1, h3, h4, h9, h10.weak fun _ _ _ => trivial⟩)

/-- What a place's entry is good for: by itself, or as a slice to look at. -/
theorem Rel.pk_view (h : Rel P vm lm ρ S G σ a w) {p n xs cv} (hp : PkOk vm ρ σ a w p n xs cv) : SliceView w S false n xs cv := by
  cases p with
  | var k =>
    obtain ⟨e, x, t, h1, h2, h3⟩ := hp
    obtain ⟨t', h4, _, h5⟩ := h.vars k _ h1
    obtain rfl : t = t' := by rw [h2] at h4; exact Option.some.inj h4
    rw [h3] at h5
    exact h5.2.view
  | cell id off =>
    obtain ⟨e, x, ty, c, b, cc, et, fr, h1, h2, h3, h4, h5⟩ := hp
    obtain ⟨b', cc', k1, k2, k3, k4, k5⟩ := h.st id _ h1
    obtain rfl : b = b' := by rw [h3] at k1; exact Option.some.inj k1
    rw [h4] at k2
    injection k2 with k2; injection k2 with k2 _ _
    subst k2
    obtain ⟨_, cv', m1, m2⟩ := k5 off _ h2
    obtain rfl : cv = cv' := by rw [h5] at m1; exact Option.some.inj m1
    exact m2.2.view

theorem Rel.at_view (h : Rel P vm lm ρ S G σ a w) {bs b o n xs cv} (ha : At P w S G ρ (PkOk vm ρ σ a w) bs (.vs b o n xs) cv) : SliceView w S b n xs cv := by
  cases o with
  | own e x => obtain ⟨rfl, ha⟩ := ha; exact ha.view
  | pk p => obtain ⟨rfl, ha⟩ := ha; exact h.pk_view ha
  | sh => exact V.view (ρ := ρ) ha
  | full => exact V.view (ρ := ρ) ha

theorem PkOk_of_no {bs v cv} (h : At P w S G ρ noPkOk bs v cv) (pk) : At P w S G ρ pk bs v cv :=
  h.keep (Ext.refl _ _) (RhoLe.refl _) (fun _ _ _ _ _ => ⟨rfl, rfl⟩) (fun _ _ _ h => h.elim)

section peek
variable (h : Rel P vm lm ρ S G σ a w) {x : Operand} {y : Opd} (hc : chkOpd vm lm x y = true)
include h hc

/-- The place at which an operand's value is. -/
theorem Rel.peek_at {v : LVal} (hv : σ.peek y = some v) : v = .undef ∨ (∃ u, y = .const u ∧ V w S ρ v (a.eval x) ∧ v.simple = true) ∨ ∃ b, (y = .loc (match b with | .rs i => i | _ => 0) ∨ y = .var (match b with | .var k => k | _ => 0)) ∧ At P w S G ρ (PkOk vm ρ σ a w) b v (a.eval x) := by
  cases y with
  | const u =>
    simp [RS.peek] at hv
    subst hv
    cases x with
    | const c =>
      simp only [chkOpd, Bool.and_eq_true] at hc
      exact .inr (.inl ⟨_, rfl, constOk.V ρ hc.1, hc.2⟩)
    | func f =>
      cases u with
      | func f' caps =>
        cases caps with
        | nil => simp [chkOpd] at hc; subst hc; exact .inr (.inl ⟨_, rfl, .func .nil rfl, rfl⟩)
        | cons => simp [chkOpd] at hc
      | _ => simp [chkOpd] at hc
    | _ => simp [chkOpd] at hc
  | loc i =>
    cases x with
    | tmp t =>
      simp [chkOpd] at hc
      simp only [RS.peek] at hv
      rcases h.rs i v hv with h0 | ⟨t', h1, h2, h3⟩
      · exact .inl h0
      · rw [hc] at h1
        injection h1 with h1; injection h1 with h1; subst h1
        exact .inr (.inr ⟨.rs i, .inl rfl, h3⟩)
    | _ => simp [chkOpd] at hc
  | var k =>
    cases x with
    | tmp t =>
      simp [chkOpd] at hc
      simp only [RS.peek] at hv
      obtain ⟨t', h1, h2, h3⟩ := h.vars k v hv
      rw [hc] at h1
      injection h1 with h1; subst h1
      exact .inr (.inr ⟨.var k, .inr rfl, PkOk_of_no h3 _⟩)
    | _ => simp [chkOpd] at hc

theorem Rel.peek_V {v : LVal} (hv : σ.peek y = some v) (hs : v.simple = true) : V w S ρ v (a.eval x) := by
  rcases h.peek_at hc hv with h0 | ⟨u, _, h1, _⟩ | ⟨b, _, h1⟩
  · subst h0; exact .undef
  · exact h1
  · exact (At.simple hs).1 h1

theorem Rel.peek_view {b o n xs} (hv : σ.peek y = some (.vs b o n xs)) : SliceView w S b n xs (a.eval x) := by
  rcases h.peek_at hc hv with h0 | ⟨u, _, h1, _⟩ | ⟨b, _, h1⟩
  · cases h0
  · exact h1.view
  · exact h.at_view h1
end peek

/-! ### What stays at a place when a copy is taken -/
/-- The contents of the slice at a place are from now on among those that stay. -/
def sdown (S : Nat → Nat → Prop) (b e : Nat) : Nat → Nat → Prop := fun b' o => S b' o ∨ (b' = b ∧ o < e)
def gdown (G : Nat → Cl) (b : Nat) (l : GLoc) (e : Nat) : Nat → Cl := fun b' => if b' = b then .arr l e false else G b'

theorem LVal.isOwn_cases {v : LVal} (h : v.isOwn = true) : ∃ b e x n xs, v = .vs b (.own e x) n xs := by
  cases v with
  | vs b o n xs => cases o <;> simp_all [LVal.isOwn]
  | _ => simp_all [LVal.isOwn]

theorem sum_cells {xs : List LVal} {n : Nat} (h : ∀ x ∈ xs, x.cells.length = n) : (xs.flatMap LVal.cells).length = xs.length * n := by
  induction xs with
  | nil => simp
  | cons x xs ih =>
    simp only [List.flatMap_cons, List.length_append, List.length_cons]
    rw [ih (fun y hy => h y (List.mem_cons_of_mem _ hy)), h x (List.mem_cons_self ..)]
    rw [Nat.add_mul]; omega

/-- The ghost's side of a copy: stated of the block of the slice at the place l. -/
theorem Rel.down (h : Rel P vm lm ρ S G σ a w) {l : GLoc} {e x n xs cv} (ho : OwnAt P w S G l e x n xs cv) (hl : l.1 ≠ .pend) :
    ∃ S' G', SWf w S' G' ∧ Ext S w S' w ∧ OwnAt P w S' G' l e false n xs cv ∧ V w S' ρ (.vs false .sh n xs) cv ∧
      (∀ b, (∀ e x, G b ≠ .arr l e x) → G' b = G b) ∧ Pr w S G ρ w S' G' ρ := by
  obtain ⟨b, cap, cur, h1, h2, h3, h4, h5, h6, h7, h8, h9, h10⟩ := ho
  have hlen := sum_cells h9
  have hext : Ext S w (sdown S b (xs.length * n)) w := fun b' o hs => ⟨.inl hs, rfl⟩
  have hcells : Cells w (sdown S b (xs.length * n)) (sdown S b (xs.length * n)) b 0 (xs.flatMap LVal.cells) := by
    intro j v hj
    obtain ⟨_, c, k1, k2, k3⟩ := h10 j v hj
    have hlt : j < xs.length * n := by rw [← hlen]; exact (List.getElem?_eq_some_iff.1 hj).1
    exact ⟨.inr ⟨rfl, by omega⟩, c, k1, k2.mono hext (RhoLe.refl _), k3⟩
  have hblt : b < w.heap.size := (Array.getElem?_eq_some_iff.1 h2).1
  refine ⟨sdown S b (xs.length * n), gdown G b l (xs.length * n), ⟨?_, ?_, ?_, ?_⟩, hext, ?_, ?_, ?_, ?_⟩
  · rintro b' o (hs | ⟨rfl, _⟩)
    · exact h.swf.lt _ _ hs
    · exact hblt
  · intro b' hb'
    have : b' ≠ b := by omega
    simp [gdown, this, h.swf.fresh b' hb']
  · rintro b' o id (hs | ⟨rfl, _⟩) hg
    · by_cases hb : b' = b
      · simp [gdown, hb] at hg
      · simp [gdown, hb] at hg; exact h.swf.box _ _ _ hs hg
    · simp [gdown] at hg
  · rintro b' o l' e' x' hs hg
    by_cases hb : b' = b
    · subst hb
      simp [gdown] at hg
      obtain ⟨rfl, rfl, rfl⟩ := hg
      refine ⟨rfl, ?_⟩
      rcases hs with hs | ⟨_, hlt⟩
      · exact (h.swf.arr _ _ _ _ _ hs h8).2
      · exact hlt
    · simp [gdown, hb] at hg
      rcases hs with hs | ⟨rfl, _⟩
      · exact h.swf.arr _ _ _ _ _ hs hg
      · exact absurd rfl hb
  · exact ⟨b, cap, cur, h1, h2, h3, h4, h5, h6, h7, by simp [gdown], h9, hcells.weak fun _ _ hs _ => hs⟩
  · rw [h1]; exact .vs h3 h4 (by intro h; cases h) h9 hcells.row
  · intro b' hb'
    have : b' ≠ b := fun e => hb' _ _ (e ▸ h8)
    simp [gdown, this]
  · refine ⟨rfl, rfl, rfl, Nat.le_refl _, hext, RhoLe.refl _, fun b' _ hg => ⟨rfl, ?_⟩, ?_⟩
    · have : b' ≠ b := fun e => by rw [e, h8] at hg; cases hg
      simp [gdown, this, hg]
    · rintro b' o (hs | ⟨rfl, _⟩)
      · exact .inl hs
      · exact .inr (.inr (by rw [h8]; simp))

/-- Changing one variable's own entry, all others kept. -/
theorem Rel.setVarAt (h : Rel P vm lm ρ S G σ a w) {k : Nat} {t : Nat} {v u : LVal} (hv : σ.vars[k]? = some v) (ht : vm[k]? = some t) (htl : t < a.tmps.size)
    (hswf : SWf w S' G') (he : Ext S w S' w) (hg : ∀ b, (∀ c e x, G b ≠ .arr (.var k, c) e x) → G' b = G b) (hu : At P w S' G' ρ noPkOk (.var k) u (a.tmps.getD t undef))
    (hpk : ∀ e x n xs, v = .vs false (.own e x) n xs → ∃ e' x', u = .vs false (.own e' x') n xs) :
    Rel P vm lm ρ S' G' { σ with vars := σ.vars.set k u } a w where
  defers := h.defers
  vsz := h.vsz
  lsz := h.lsz
  swf := hswf
  len := h.len
  rho := h.rho
  st id o ho := (h.st id o ho).keep he (RhoLe.refl _) (fun b hb => ⟨rfl, hg b (by rw [hb]; simp)⟩) (fun bl off c e x hb => ⟨rfl, hg bl (by rw [hb]; simp)⟩)
  vars j y hy := by
    by_cases hj : k = j
    · subst hj
      simp only [List.getElem?_set_self', hv] at hy
      simp at hy
      subst hy
      exact ⟨t, ht, htl, hu⟩
    · rw [List.getElem?_set_ne hj] at hy
      obtain ⟨t', h1, h2, h3⟩ := h.vars j y hy
      exact ⟨t', h1, h2, h3.keep he (RhoLe.refl _) (fun bl c e x hb => ⟨rfl, hg bl (by rw [hb]; simp; omega)⟩) (fun _ _ _ h => h)⟩
  rs i y hy := by
    rcases h.rs i y hy with h0 | ⟨t', h1, h2, h3⟩
    · exact .inl h0
    · refine .inr ⟨t', h1, h2, h3.keep he (RhoLe.refl _) (fun bl c e x hb => ⟨rfl, hg bl (by rw [hb]; simp)⟩) ?_⟩
      intro p n xs hp
      cases p with
      | var j =>
        obtain ⟨e, x, t'', m1, m2, m3⟩ := hp
        by_cases hj : k = j
        · subst hj
          rw [hv] at m1
          obtain ⟨e', x', rfl⟩ := hpk e x n xs (Option.some.inj m1)
          exact ⟨e', x', t'', by simp [List.getElem?_set_self', hv], m2, m3⟩
        · exact ⟨e, x, t'', by rw [List.getElem?_set_ne hj]; exact m1, m2, m3⟩
      | cell id off => exact hp

theorem Rel.setRsAt (h : Rel P vm lm ρ S G σ a w) {i : Nat} {t : Nat} {v u : LVal} (hv : σ.rs[i]? = some v) (ht : lm[i]? = some (some t)) (htl : t < a.tmps.size)
    (hswf : SWf w S' G') (he : Ext S w S' w) (hg : ∀ b, (∀ c e x, G b ≠ .arr (.rs i, c) e x) → G' b = G b) (hu : At P w S' G' ρ noPkOk (.rs i) u (a.tmps.getD t undef)) :
    Rel P vm lm ρ S' G' { σ with rs := σ.rs.set i u } a w where
  defers := h.defers
  vsz := h.vsz
  lsz := h.lsz
  swf := hswf
  len := h.len
  rho := h.rho
  st id o ho := (h.st id o ho).keep he (RhoLe.refl _) (fun b hb => ⟨rfl, hg b (by rw [hb]; simp)⟩) (fun bl off c e x hb => ⟨rfl, hg bl (by rw [hb]; simp)⟩)
  vars j y hy := by
    obtain ⟨t', h1, h2, h3⟩ := h.vars j y hy
    exact ⟨t', h1, h2, h3.keep he (RhoLe.refl _) (fun bl c e x hb => ⟨rfl, hg bl (by rw [hb]; simp)⟩) (fun _ _ _ h => h)⟩
  rs j y hy := by
    by_cases hj : i = j
    · subst hj
      simp only [List.getElem?_set_self', hv] at hy
      simp at hy
      subst hy
      exact .inr ⟨t, ht, htl, PkOk_of_no hu _⟩
    · rw [List.getElem?_set_ne hj] at hy
      rcases h.rs j y hy with h0 | ⟨t', h1, h2, h3⟩
      · exact .inl h0
      · exact .inr ⟨t', h1, h2, h3.keep he (RhoLe.refl _) (fun bl c e x hb => ⟨rfl, hg bl (by rw [hb]; simp; omega)⟩) (fun p n xs hp => by
          cases p <;> exact hp)⟩

end Go.L
/- L5: copies, what goes over, what an operation puts where. -/
set_option linter.unusedVariables false
set_option linter.unusedSimpArgs false
namespace Go.L
open Go

variable {P : Program} {vm : List Nat} {lm : List (Option Nat)} {ρ ρ' : List Nat} {S S' : Nat → Nat → Prop} {G G' : Nat → Cl} {σ σ' : RS} {a : Act} {w w' : World}

theorem LVal.copy_some {v u : LVal} (h : v.copy = some u) : u.simple = true ∧ (v.isOwn = false → u = v) := by
  cases v with
  | vs b o n xs => cases o <;> simp_all [LVal.copy, LVal.down, LVal.simple, LVal.isOwn] <;> (subst h; simp)
  | tup l => simp [LVal.copy] at h
  | _ => simp [LVal.copy, LVal.down] at h; subst h; simp [LVal.simple, LVal.isOwn]

section
variable (h : Rel P vm lm ρ S G σ a w) {x : Operand} {y : Opd} (hc : chkOpd vm lm x y = true)
include h hc

theorem Rel.take {u : LVal} (ht : σ.take y = some (u, σ')) :
    ∃ S' G', Rel P vm lm ρ S' G' σ' a w ∧ V w S' ρ u (a.eval x) ∧ u.simple = true ∧ Pr w S G ρ w S' G' ρ := by
  cases y with
  | const c =>
    simp [RS.take] at ht
    obtain ⟨rfl, rfl⟩ := ht
    have hs : c.simple = true := by
      cases x with
      | const c' => simp only [chkOpd, Bool.and_eq_true] at hc; exact hc.2
      | func f => cases c <;> simp_all [chkOpd, LVal.simple]
      | _ => simp [chkOpd] at hc
    exact ⟨S, G, h, h.peek_V hc rfl hs, hs, Pr.refl ..⟩
  | loc i =>
    simp only [RS.take] at ht
    cases hv : σ.rs[i]? with
    | none => simp [hv] at ht
    | some v =>
      simp only [hv, Option.bind_some, Option.map_eq_some_iff] at ht
      obtain ⟨u', hcp, e⟩ := ht
      obtain ⟨hs, hu⟩ := LVal.copy_some hcp
      by_cases hown : v.isOwn = true
      · simp only [hown, if_true] at e
        injection e with e1 e2; subst e1; subst e2
        obtain ⟨b, e, xx, n, xs, rfl⟩ := LVal.isOwn_cases hown
        simp [LVal.copy, LVal.down] at hcp
        subst hcp
        cases x with
        | tmp t =>
          simp [chkOpd] at hc
          rcases h.rs i _ hv with h0 | ⟨t', h1, h2, h3⟩
          · cases h0
          · rw [hc] at h1; injection h1 with h1; injection h1 with h1; subst h1
            obtain ⟨rfl, ho⟩ := h3
            obtain ⟨S', G', k1, k2, k3, k4, k5, k6⟩ := h.down ho (by simp)
            refine ⟨S', G', h.setRsAt hv hc h2 k1 k2 (fun b hb => k5 b (fun e x => hb 0 e x)) ⟨rfl, k3⟩, k4, rfl, k6⟩
        | _ => simp [chkOpd] at hc
      · simp only [hown, if_false, Bool.false_eq_true] at e
        injection e with e1 e2; subst e1; subst e2
        have := hu (by simpa using hown)
        subst this
        exact ⟨S, G, h, h.peek_V hc (y := .loc i) hv hs, hs, Pr.refl ..⟩
  | var k =>
    simp only [RS.take] at ht
    cases hv : σ.vars[k]? with
    | none => simp [hv] at ht
    | some v =>
      simp only [hv, Option.bind_some, Option.map_eq_some_iff] at ht
      obtain ⟨u', hcp, e⟩ := ht
      obtain ⟨hs, hu⟩ := LVal.copy_some hcp
      by_cases hown : v.isOwn = true
      · simp only [hown, if_true] at e
        injection e with e1 e2; subst e1; subst e2
        obtain ⟨b, e, xx, n, xs, rfl⟩ := LVal.isOwn_cases hown
        simp [LVal.copy, LVal.down] at hcp
        subst hcp
        cases x with
        | tmp t =>
          simp [chkOpd] at hc
          obtain ⟨t', h1, h2, h3⟩ := h.vars k _ hv
          rw [hc] at h1; injection h1 with h1; subst h1
          obtain ⟨rfl, ho⟩ := h3
          obtain ⟨S', G', k1, k2, k3, k4, k5, k6⟩ := h.down ho (by simp)
          refine ⟨S', G', h.setVarAt hv hc h2 k1 k2 (fun b hb => k5 b (fun e x => hb 0 e x)) ⟨rfl, k3⟩ (fun e' x' n' xs' he => ?_), k4, rfl, k6⟩
          injection he with _ e2 e3 e4
          subst e3; subst e4
          exact ⟨_, _, rfl⟩
        | _ => simp [chkOpd] at hc
      · simp only [hown, if_false, Bool.false_eq_true] at e
        injection e with e1 e2; subst e1; subst e2
        have := hu (by simpa using hown)
        subst this
        exact ⟨S, G, h, h.peek_V hc (y := .var k) hv hs, hs, Pr.refl ..⟩
end

/-- A list of operands, copied one behind the other. -/
def chkOpds (vm : List Nat) (lm : List (Option Nat)) : List Operand → List Opd → Bool
  | [], [] => true
  | x :: xs, y :: ys => chkOpd vm lm x y && chkOpds vm lm xs ys
  | _, _ => false

theorem Rel.takes : ∀ {xs : List Operand} {ys : List Opd} {S G σ} (_ : Rel P vm lm ρ S G σ a w) (_ : chkOpds vm lm xs ys = true) {us : List LVal} {σ' : RS} (_ : σ.takes ys = some (us, σ')),
    ∃ S' G', Rel P vm lm ρ S' G' σ' a w ∧ VL w S' ρ us (xs.map a.eval) ∧ us.all LVal.simple = true ∧ Pr w S G ρ w S' G' ρ
  | [], [], S, G, σ, h, _, us, σ', ht => by
    simp [RS.takes] at ht
    obtain ⟨rfl, rfl⟩ := ht
    exact ⟨S, G, h, .nil, rfl, Pr.refl ..⟩
  | x :: xs, y :: ys, S, G, σ, h, hc, us, σ', ht => by
    simp only [chkOpds, Bool.and_eq_true] at hc
    simp only [RS.takes] at ht
    cases h1 : σ.take y with
    | none => simp [h1] at ht
    | some r =>
      obtain ⟨u, σ1⟩ := r
      simp only [h1, Option.bind_some, Option.map_eq_some_iff] at ht
      obtain ⟨⟨us1, σ2⟩, h2, e⟩ := ht
      injection e with e1 e2; subst e1; subst e2
      obtain ⟨S1, G1, k1, k2, k3, k4⟩ := h.take hc.1 h1
      obtain ⟨S2, G2, m1, m2, m3, m4⟩ := Rel.takes k1 hc.2 h2
      exact ⟨S2, G2, m1, .cons (k2.mono m4.ext (RhoLe.refl _)) m2, by simp [k3, m3], k4.trans m4⟩

/-! ### Looks end -/
def RS.nopk (σ : RS) : Prop := ∀ (i : Nat) b p n xs, σ.rs[i]? ≠ some (.vs b (.pk p) n xs)

theorem RS.noPk_nopk (σ : RS) : σ.noPk.nopk := by
  intro i b p n xs h
  obtain ⟨u, _, e⟩ := RS.noPk_rs h
  rcases u.unpk_cases with hu | hu
  · cases u with
    | vs b' o n' xs' => cases o <;> simp [LVal.unpk] at e
    | _ => simp [LVal.unpk] at e
  · rw [hu] at e; cases e

theorem At.nopk {pk pk' bs v cv} (h : At P w S G ρ pk bs v cv) (hn : ∀ b p n xs, v ≠ .vs b (.pk p) n xs) : At P w S G ρ pk' bs v cv := by
  rcases At.unpk (pk' := pk') h with h1 | ⟨_, h1⟩
  · cases v with
    | vs b o n xs => cases o <;> first | (exact absurd rfl (hn _ _ _ _)) | (simp [LVal.unpk] at h1)
    | undef => exact (At.simple rfl).2 .undef
    | _ => simp [LVal.unpk] at h1
  · exact h1

theorem Rel.noPk (h : Rel P vm lm ρ S G σ a w) : Rel P vm lm ρ S G σ.noPk a w where
  defers := h.defers
  vsz := h.vsz
  lsz := h.lsz
  swf := h.swf
  len := h.len
  rho := h.rho
  st := h.st
  vars := h.vars
  rs i v hv := by
    obtain ⟨u, h1, rfl⟩ := RS.noPk_rs hv
    rcases h.rs i u h1 with h0 | ⟨t, h2, h3, h4⟩
    · subst h0; exact .inl rfl
    · rcases At.unpk (pk' := PkOk vm ρ σ.noPk a w) h4 with k | ⟨k1, k2⟩
      · exact .inl k
      · rw [k1]; exact .inr ⟨t, h2, h3, k2⟩

/-- A variable is set where no look hangs on it. -/
theorem Rel.setVarNo {k : Nat} (h : Rel P vm lm ρ S G σ a w) (hn : σ.nopk ∨ (∀ v, σ.vars[k]? = some v → v.isOwn = false)) {u : LVal}
    (hu : ∃ t, vm[k]? = some t ∧ t < a.tmps.size ∧ At P w S G ρ noPkOk (.var k) u (a.tmps.getD t undef)) : Rel P vm lm ρ S G { σ with vars := σ.vars.set k u } a w where
  defers := h.defers
  vsz := h.vsz
  lsz := h.lsz
  swf := h.swf
  len := h.len
  rho := h.rho
  st := h.st
  vars j v hv := by
    by_cases hj : k = j
    · subst hj
      rw [List.getElem?_set] at hv
      simp at hv
      obtain ⟨_, rfl⟩ := hv
      exact hu
    · rw [List.getElem?_set_ne hj] at hv
      exact h.vars j v hv
  rs i v hv := by
    rcases h.rs i v hv with h0 | ⟨t, h1, h2, h3⟩
    · exact .inl h0
    · refine .inr ⟨t, h1, h2, ?_⟩
      rcases hn with hn | hn
      · exact h3.nopk (fun b p n xs e => hn i b p n xs (e ▸ hv))
      · refine h3.keep (Ext.refl _ _) (RhoLe.refl _) (fun _ _ _ _ _ => ⟨rfl, rfl⟩) (fun p n xs hp => ?_)
        cases p with
        | var j =>
          obtain ⟨e, x, t, m1, m2, m3⟩ := hp
          by_cases hj : k = j
          · subst hj; have := hn _ m1; simp [LVal.isOwn] at this
          · exact ⟨e, x, t, by rw [List.getElem?_set_ne hj]; exact m1, m2, m3⟩
        | cell id off => exact hp

theorem Rel.varUndef (h : Rel P vm lm ρ S G σ a w) (hn : σ.nopk) (k : Nat) : Rel P vm lm ρ S G { σ with vars := σ.vars.set k .undef } a w := by
  by_cases hk : k < σ.vars.length
  · obtain ⟨t, h1, h2, _⟩ := h.vars k _ (List.getElem?_eq_getElem hk)
    exact h.setVarNo (.inl hn) ⟨t, h1, h2, (At.simple rfl).2 .undef⟩
  · have : σ.vars.set k .undef = σ.vars := List.set_eq_of_length_le (by omega)
    rw [this]; exact h

/-- A value goes over: it stands by itself now. -/
theorem Rel.give (h : Rel P vm lm ρ S G σ a w) {x : Operand} {y : Opd} (hc : chkOpd vm lm x y = true) {v : LVal} (hg : σ.give y = some (v, σ')) :
    ∃ S' G', Rel P vm lm ρ S' G' σ' a w ∧ At P w S' G' ρ noPkOk .pend v (a.eval x) ∧ Pr w S G ρ w S' G' ρ := by
  have viaTake : σ.take y = some (v, σ') → ∃ S' G', Rel P vm lm ρ S' G' σ' a w ∧ At P w S' G' ρ noPkOk .pend v (a.eval x) ∧ Pr w S G ρ w S' G' ρ := fun ht => by
    obtain ⟨S', G', k1, k2, k3, k4⟩ := h.take hc ht
    exact ⟨S', G', k1, (At.simple k3).2 k2, k4⟩
  cases y with
  | const c => exact viaTake hg
  | var k => exact viaTake hg
  | loc i =>
    simp only [RS.give] at hg
    cases hv : σ.rs[i]? with
    | none => simp [hv] at hg
    | some u =>
      simp only [hv, Option.bind_some] at hg
      have over : (u.isOwn = true ∨ ∃ l, u = .tup l) → v = u → σ' = { σ with rs := σ.rs.set i .undef } → ∃ S' G', Rel P vm lm ρ S' G' σ' a w ∧ At P w S' G' ρ noPkOk .pend v (a.eval x) ∧ Pr w S G ρ w S' G' ρ := by
        rintro hu rfl rfl
        cases x with
        | tmp t =>
          simp [chkOpd] at hc
          rcases h.rs i _ hv with h0 | ⟨t', h1, h2, h3⟩
          · subst h0; simp [LVal.isOwn] at hu
          · rw [hc] at h1; injection h1 with h1; injection h1 with h1; subst h1
            have hf : RS.frees { σ with rs := σ.rs.set i .undef } (.rs i) := by
              intro z hz
              rw [List.getElem?_set] at hz
              simp at hz
              rw [← hz.2]; rfl
            have hn : ∀ b p n xs, v ≠ .vs b (.pk p) n xs := by
              rintro b p n xs rfl
              simp [LVal.isOwn] at hu
            exact ⟨S, gmove (.rs i) .pend G, (h.rsUndef i).relab hf, (h3.nopk hn).relab, Pr.relab ..⟩
        | _ => simp [chkOpd] at hc
      have same : u.simple = true → v = u → σ' = σ → ∃ S' G', Rel P vm lm ρ S' G' σ' a w ∧ At P w S' G' ρ noPkOk .pend v (a.eval x) ∧ Pr w S G ρ w S' G' ρ := by
        rintro hs rfl rfl
        exact ⟨S, G, h, (At.simple hs).2 (h.peek_V hc (y := .loc i) hv hs), Pr.refl ..⟩
      cases u with
      | vs b o n xs =>
        cases o with
        | own e xx => simp at hg; exact over (.inl rfl) hg.1.symm hg.2.symm
        | pk p => simp at hg
        | sh => simp at hg; exact same rfl hg.1.symm hg.2.symm
        | full => simp at hg; exact same rfl hg.1.symm hg.2.symm
      | tup l => simp at hg; exact over (.inr ⟨_, rfl⟩) hg.1.symm hg.2.symm
      | _ => simp at hg; exact same rfl hg.1.symm hg.2.symm

end Go.L
/- L6: where an operation's value is put; what an append takes over. -/
set_option linter.unusedVariables false
set_option linter.unusedSimpArgs false
namespace Go.L
open Go

variable {P : Program} {vm : List Nat} {lm : List (Option Nat)} {ρ ρ' : List Nat} {S S' : Nat → Nat → Prop} {G G' : Nat → Cl} {σ σ' : RS} {a : Act} {w w' : World}

/-- Each temporary stands for one place alone. -/
structure WfMap (vm : List Nat) (lm : List (Option Nat)) : Prop where
  vv : ∀ (j k t : Nat), vm[j]? = some t → vm[k]? = some t → j = k
  ll : ∀ (i j t : Nat), lm[i]? = some (some t) → lm[j]? = some (some t) → i = j
  vl : ∀ (i k t : Nat), lm[i]? = some (some t) → vm[k]? = some t → False

def chkDst (vm : List Nat) (lm : List (Option Nat)) (dst : Option Tmp) (lo : LOper) : Bool :=
  match lo.dst, dst with
  | none, none => false
  | none, some t => lm[lo.ix]? == some (some t)
  | some k, some t => vm[k]? == some t
  | some k, none => (vm[k]?).isNone

theorem getD_set {a : Array Value} {t : Nat} (ht : t < a.size) (v : Value) : (a.setIfInBounds t v).getD t undef = v := by
  simp [Array.getD, ht]
theorem getD_set_ne {a : Array Value} {t u : Nat} (hn : t ≠ u) (v : Value) : (a.setIfInBounds t v).getD u undef = a.getD u undef := by
  simp [Array.getD_eq_getD_getElem?, hn]

theorem Rel.put (h : Rel P vm lm ρ S G σ a w) (wf : WfMap vm lm) {v : LVal} {cv : Value} (hv : At P w S G ρ (PkOk vm ρ σ a w) .pend v cv) {dst : Option Tmp} {lo : LOper}
    (hd : chkDst vm lm dst lo = true) : ∃ G', Rel P vm lm ρ S G' (σ.put lo v) (a.put dst cv) w ∧ Pr w S G ρ w S G' ρ := by
  unfold chkDst at hd
  cases hlo : lo.dst with
  | none =>
    rw [hlo] at hd
    cases dst with
    | none => simp at hd
    | some t =>
      simp only [beq_iff_eq] at hd
      have htl := h.lsz _ _ hd
      refine ⟨gmove .pend (.rs lo.ix) G, ?_, Pr.relab ..⟩
      have h' := h.relab (p := .pend) (q := .rs lo.ix) trivial
      have hv' : At P w S (gmove .pend (.rs lo.ix) G) ρ (PkOk vm ρ σ a w) (.rs lo.ix) v cv := hv.relab
      simp only [RS.put, hlo, Act.put]
      have pkk : ∀ p n xs cv, PkOk vm ρ σ a w p n xs cv → PkOk vm ρ { σ with rs := σ.rs.set lo.ix v } { a with tmps := a.tmps.setIfInBounds t cv } w p n xs cv := by
        intro p n xs c hp
        cases p with
        | var k =>
          obtain ⟨e, x, t', m1, m2, m3⟩ := hp
          refine ⟨e, x, t', m1, m2, ?_⟩
          exact (getD_set_ne (fun e => wf.vl _ _ _ hd (e ▸ m2)) _).trans m3
        | cell id off => exact hp
      have pkk' : ∀ c0 p n xs cv', PkOk vm ρ σ a w p n xs cv' → PkOk vm ρ { σ with rs := σ.rs.set lo.ix v } { a with tmps := a.tmps.setIfInBounds t c0 } w p n xs cv' := by
        intro c0 p n xs c hp
        cases p with
        | var k =>
          obtain ⟨e, x, t', m1, m2, m3⟩ := hp
          exact ⟨e, x, t', m1, m2, (getD_set_ne (fun e => wf.vl _ _ _ hd (e ▸ m2)) _).trans m3⟩
        | cell id off => exact hp
      exact {
        defers := h'.defers
        vsz := fun k t' hk => by simpa using h'.vsz k t' hk
        lsz := fun i t' hi => by simpa using h'.lsz i t' hi
        swf := h'.swf
        len := h'.len
        rho := h'.rho
        st := h'.st
        vars := fun k u hu => by
          obtain ⟨t', m1, m2, m3⟩ := h'.vars k u hu
          refine ⟨t', m1, by simpa using m2, ?_⟩
          rw [getD_set_ne (fun e => wf.vl _ _ _ hd (e ▸ m1))]; exact m3
        rs := fun i u hu => by
          by_cases hi : lo.ix = i
          · subst hi
            rw [List.getElem?_set] at hu
            simp at hu
            obtain ⟨_, rfl⟩ := hu
            refine .inr ⟨t, hd, by simpa using htl, ?_⟩
            rw [getD_set htl]
            exact hv'.keep (Ext.refl _ _) (RhoLe.refl _) (fun _ _ _ _ _ => ⟨rfl, rfl⟩) (fun p n xs hp => pkk' _ _ _ _ _ hp)
          · rw [List.getElem?_set_ne hi] at hu
            rcases h'.rs i u hu with h0 | ⟨t', m1, m2, m3⟩
            · exact .inl h0
            · have hne : t ≠ t' := fun e => hi (wf.ll _ _ _ hd (e ▸ m1))
              refine .inr ⟨t', m1, by simpa using m2, ?_⟩
              rw [getD_set_ne hne]
              exact m3.keep (Ext.refl _ _) (RhoLe.refl _) (fun _ _ _ _ _ => ⟨rfl, rfl⟩) (fun p n xs hp => pkk' _ _ _ _ _ hp) }
  | some k =>
    rw [hlo] at hd
    cases dst with
    | none =>
      simp only [Option.isNone_iff_eq_none] at hd
      refine ⟨G, ?_, Pr.refl ..⟩
      have hvk : σ.vars[k]? = none := by
        cases hu : σ.vars[k]? with
        | none => rfl
        | some u =>
          obtain ⟨t, h1, _⟩ := h.vars k u hu
          rw [hd] at h1; cases h1
      have hle : σ.vars.length ≤ k := by simpa using hvk
      simp only [RS.put, hlo, Act.put, RS.setVar, hvk, Option.any_none, Bool.false_eq_true, if_false]
      rw [List.set_eq_of_length_le hle]
      exact h
    | some t =>
      simp only [beq_iff_eq] at hd
      have htl := h.vsz _ _ hd
      refine ⟨gmove .pend (.var k) G, ?_, Pr.relab ..⟩
      simp only [RS.put, hlo, Act.put]
      have key : ∀ (σ1 : RS), Rel P vm lm ρ S G σ1 a w → (σ1.nopk ∨ (∀ v, σ1.vars[k]? = some v → v.isOwn = false)) →
          Rel P vm lm ρ S (gmove .pend (.var k) G) { σ1 with vars := σ1.vars.set k v.unpk } { a with tmps := a.tmps.setIfInBounds t cv } w := by
        intro σ1 h1 hn
        have h' := h1.relab (p := .pend) (q := .var k) trivial
        have hv' : At P w S (gmove .pend (.var k) G) ρ noPkOk (.var k) v.unpk cv := by
          rcases At.unpk (pk' := noPkOk) hv with m | ⟨m1, m2⟩
          · rw [m]; exact (At.simple rfl).2 .undef
          · rw [m1]; exact m2.relab
        have pkk : ∀ p n xs cv', (σ1.nopk → False) → PkOk vm ρ σ1 a w p n xs cv' → PkOk vm ρ { σ1 with vars := σ1.vars.set k v.unpk } { a with tmps := a.tmps.setIfInBounds t cv } w p n xs cv' := by
          intro p n xs c hnn hp
          cases p with
          | var j =>
            obtain ⟨e, x, t', m1, m2, m3⟩ := hp
            by_cases hj : k = j
            · subst hj
              rcases hn with hn | hn
              · exact (hnn hn).elim
              · have := hn _ m1; simp [LVal.isOwn] at this
            · exact ⟨e, x, t', by rw [List.getElem?_set_ne hj]; exact m1, m2, (getD_set_ne (fun e => hj (wf.vv _ _ t hd (by rw [e]; exact m2))) _).trans m3⟩
          | cell id off => exact hp
        exact {
          defers := h'.defers
          vsz := fun k t' hk => by simpa using h'.vsz k t' hk
          lsz := fun i t' hi => by simpa using h'.lsz i t' hi
          swf := h'.swf
          len := h'.len
          rho := h'.rho
          st := h'.st
          vars := fun j u hu => by
            by_cases hj : k = j
            · subst hj
              rw [List.getElem?_set] at hu
              simp at hu
              obtain ⟨_, rfl⟩ := hu
              exact ⟨t, hd, by simpa using htl, by rw [getD_set htl]; exact hv'⟩
            · rw [List.getElem?_set_ne hj] at hu
              obtain ⟨t', m1, m2, m3⟩ := h'.vars j u hu
              refine ⟨t', m1, by simpa using m2, ?_⟩
              rw [getD_set_ne (fun e => hj (wf.vv _ _ t hd (by rw [e]; exact m1)))]; exact m3
          rs := fun i u hu => by
            rcases h'.rs i u hu with h0 | ⟨t', m1, m2, m3⟩
            · exact .inl h0
            · refine .inr ⟨t', m1, by simpa using m2, ?_⟩
              rw [getD_set_ne (fun e => wf.vl _ _ _ m1 (e ▸ hd))]
              by_cases hnn : σ1.nopk
              · exact m3.nopk (fun b p n xs e => hnn i b p n xs (e ▸ hu))
              · exact m3.keep (Ext.refl _ _) (RhoLe.refl _) (fun _ _ _ _ _ => ⟨rfl, rfl⟩) (fun p n xs hp => pkk _ _ _ _ hnn hp) }
      unfold RS.setVar
      split
      · exact key σ.noPk h.noPk (.inl σ.noPk_nopk)
      · rename_i hne
        refine key σ h (.inr fun u hu => ?_)
        rw [hu] at hne
        simpa using hne

/-! ### An object of the store whose parts are copied -/
def sobj (S : Nat → Nat → Prop) (G : Nat → Cl) (id : Nat) : Nat → Nat → Prop := fun b o => S b o ∨ ∃ off c e x, G b = .arr (.cell id off, c) e x ∧ o < e
def gobj (G : Nat → Cl) (id : Nat) : Nat → Cl := fun b => match G b with
  | .arr (.cell id' off, c) e x => if id' = id then .arr (.cell id' off, c) e false else .arr (.cell id' off, c) e x
  | g => g

theorem gobj_in {id b off c e x} (h : G b = .arr (.cell id off, c) e x) : gobj G id b = .arr (.cell id off, c) e false := by unfold gobj; rw [h]; simp
theorem gobj_out {id b} (h : ∀ off c e x, G b ≠ .arr (.cell id off, c) e x) : gobj G id b = G b := by
  unfold gobj
  split
  · rename_i id' off c e x hg
    by_cases hi : id' = id
    · subst hi; exact absurd hg (h off c e x)
    · simp [hi, hg]
  · rfl

theorem LVal.stay_simple {v : LVal} (h : v.isOwn = false) : v.stay = v := by
  cases v with
  | vs b o n xs => cases o <;> simp_all [LVal.stay, LVal.isOwn]
  | _ => rfl
theorem LVal.down_simple {v : LVal} (h : v.isOwn = false) : v.down = v := by
  cases v with
  | vs b o n xs => cases o <;> simp_all [LVal.down, LVal.isOwn]
  | _ => rfl

theorem Rel.downObjX (h : Rel P vm lm ρ S G σ a w) {id : Nat} {et : TypeId} {c : List LVal} (hc : σ.st[id]? = some (.cells et c)) :
    Rel P vm lm ρ (sobj S G id) (gobj G id) { σ with st := σ.st.set id (.cells et (c.map LVal.stay)) } a w ∧ Pr w S G ρ w (sobj S G id) (gobj G id) ρ ∧
      ∃ b cc, ρ[id]? = some b ∧ w.heap[b]? = some (.cells cc et (0, 0)) ∧ c.length ≤ cc.size ∧
        ∀ (o : Nat) (v : LVal), c[o]? = some v → ∃ cv, cc[o]? = some cv ∧ V w (sobj S G id) ρ v.down cv ∧ (v.plain = true ∨ v.isOwn = true) ∧ At1 P w (sobj S G id) (gobj G id) ρ noPkOk (.cell id o, 0) v.stay cv := by
  have he : Ext S w (sobj S G id) w := fun b o hs => ⟨.inl hs, rfl⟩
  have hswf : SWf w (sobj S G id) (gobj G id) := {
    lt := fun b o hs => by
      rcases hs with hs | ⟨off, c, e, x, hg, _⟩
      · exact h.swf.lt b o hs
      · rcases Nat.lt_or_ge b w.heap.size with k | k
        · exact k
        · have := h.swf.fresh b k; rw [hg] at this; cases this
    fresh := fun b hb => by
      have := h.swf.fresh b hb
      rw [gobj_out (fun off c e x hg => by rw [this] at hg; cases hg)]; exact this
    box := fun b o i hs hg => by
      by_cases hin : ∃ off c e x, G b = .arr (.cell id off, c) e x
      · obtain ⟨off, c, e, x, hg'⟩ := hin
        rw [gobj_in hg'] at hg; cases hg
      · have hout := gobj_out (id := id) (G := G) (b := b) (fun off c e x hg' => hin ⟨off, c, e, x, hg'⟩)
        rw [hout] at hg
        rcases hs with hs | ⟨off, c, e, x, hg', _⟩
        · exact h.swf.box b o i hs hg
        · exact hin ⟨off, c, e, x, hg'⟩
    arr := fun b o l e x hs hg => by
      by_cases hin : ∃ off c e x, G b = .arr (.cell id off, c) e x
      · obtain ⟨off, c, e', x', hg'⟩ := hin
        rw [gobj_in hg'] at hg
        injection hg with h1 h2 h3
        subst h2; subst h3
        refine ⟨rfl, ?_⟩
        rcases hs with hs | ⟨off2, c2, e2, x2, hg2, hlt⟩
        · exact (h.swf.arr b o _ _ _ hs hg').2
        · rw [hg'] at hg2; injection hg2 with _ h2 _; omega
      · have hout := gobj_out (id := id) (G := G) (b := b) (fun off c e x hg' => hin ⟨off, c, e, x, hg'⟩)
        rw [hout] at hg
        rcases hs with hs | ⟨off, c, e, x, hg', _⟩
        · exact h.swf.arr b o l e x hs hg
        · exact absurd ⟨off, c, e, x, hg'⟩ hin }
  have hkeep : ∀ b l e x, G b = .arr l e x → (∀ off, l.1 ≠ .cell id off) → w.heap[b]? = w.heap[b]? ∧ gobj G id b = G b := fun b l e x hg hl =>
    ⟨rfl, gobj_out (fun off c e' x' hg' => by rw [hg] at hg'; injection hg' with h1 _ _; exact hl off (by rw [h1]))⟩
  have hbox : ∀ b i, G b = .box i → w.heap[b]? = w.heap[b]? ∧ gobj G id b = G b := fun b i hg => ⟨rfl, gobj_out (fun off c e' x' hg' => by rw [hg] at hg'; cases hg')⟩
  obtain ⟨b, cc, h1, h2, h3, h4, h5⟩ := h.st id _ hc
  have cellfact : ∀ (o : Nat) (v : LVal), c[o]? = some v → ∃ cv, cc[o]? = some cv ∧ V w (sobj S G id) ρ v.down cv ∧ (v.plain = true ∨ v.isOwn = true) ∧ At1 P w (sobj S G id) (gobj G id) ρ noPkOk (.cell id o, 0) v.stay cv := by
    intro o v hv
    obtain ⟨m0, cv, m1, m2⟩ := h5 o v hv
    refine ⟨cv, m1, ?_⟩
    by_cases hown : v.isOwn = true
    · obtain ⟨bb, e, x, n, xs, rfl⟩ := LVal.isOwn_cases hown
      obtain ⟨rfl, bl, cap, cur, q1, q2, q3, q4, q5, q6, q7, q8, q9, q10⟩ := m2
      have hlen := sum_cells q9
      have hcells : Cells w (sobj S G id) (sobj S G id) bl 0 (xs.flatMap LVal.cells) := by
        intro j u hj
        obtain ⟨_, cc', k1, k2, k3⟩ := q10 j u hj
        have hlt : j < xs.length * n := by rw [← hlen]; exact (List.getElem?_eq_some_iff.1 hj).1
        exact ⟨.inr ⟨_, _, _, _, q8, by omega⟩, cc', k1, k2.mono he (RhoLe.refl _), k3⟩
      refine ⟨?_, .inr rfl, rfl, bl, cap, cur, q1, q2, q3, q4, q5, q6, q7, gobj_in q8, q9, hcells.weak fun _ _ hs _ => hs⟩
      rw [q1]; exact .vs q3 q4 (by intro h; cases h) q9 hcells.row
    · have hp : v.plain = true := by rcases m0 with m0 | m0; exact m0; exact absurd m0 hown
      have hs := LVal.simple_of_plain hp
      have hown' : v.isOwn = false := by simpa using hown
      rw [LVal.stay_simple hown', LVal.down_simple hown']
      have hV := ((At1.simple hs).1 m2).mono he (RhoLe.refl _)
      exact ⟨hV, .inl hp, (At1.simple hs).2 hV⟩
  refine ⟨?_, ?_, b, cc, h1, h2, h4, cellfact⟩
  · exact {
      defers := h.defers
      vsz := h.vsz
      lsz := h.lsz
      swf := hswf
      len := by simpa using h.len
      rho := h.rho
      st := fun i o ho => by
        by_cases hi : id = i
        · subst hi
          rw [List.getElem?_set] at ho
          simp at ho
          obtain ⟨_, rfl⟩ := ho
          refine ⟨b, cc, h1, h2, (hbox b id h3).2.trans h3, by simpa using h4, fun o v hv => ?_⟩
          simp at hv
          obtain ⟨u, hu, rfl⟩ := hv
          obtain ⟨cv, m1, m2, m3, m4⟩ := cellfact o u hu
          refine ⟨?_, cv, m1, m4⟩
          rcases m3 with m3 | m3
          · left
            rw [LVal.stay_simple (by cases u with | vs b o n xs => cases o <;> simp_all [LVal.plain, LVal.isOwn] | _ => simp_all [LVal.plain, LVal.isOwn])]; exact m3
          · right
            obtain ⟨bb, e, x, n, xs, rfl⟩ := LVal.isOwn_cases m3
            rfl
        · rw [List.getElem?_set_ne hi] at ho
          exact (h.st i o ho).keep he (RhoLe.refl _) (fun b hb => hbox b i hb) (fun bl off c e x hb => hkeep bl _ e x hb (by simp; omega))
      vars := fun k v hv => by
        obtain ⟨t, h1, h2, h3⟩ := h.vars k v hv
        exact ⟨t, h1, h2, h3.keep he (RhoLe.refl _) (fun bl c e x hb => hkeep bl _ e x hb (by simp)) (fun _ _ _ h => h)⟩
      rs := fun i v hv => by
        rcases h.rs i v hv with h0 | ⟨t, h1, h2, h3⟩
        · exact .inl h0
        · refine .inr ⟨t, h1, h2, h3.keep he (RhoLe.refl _) (fun bl c e x hb => hkeep bl _ e x hb (by simp)) (fun p n xs hp => ?_)⟩
          cases p with
          | var k => exact hp
          | cell i' off =>
            obtain ⟨e, x, ty', c', b', cc', et', fr, q1, q2, q3, q4, q5⟩ := hp
            by_cases hi : id = i'
            · subst hi
              rw [hc] at q1
              obtain rfl : c = c' := by injection q1 with q1; injection q1
              exact ⟨e, false, et, c.map LVal.stay, b', cc', et', fr, by simp [List.getElem?_set_self', hc], by simp [q2, LVal.stay], q3, q4, q5⟩
            · exact ⟨e, x, ty', c', b', cc', et', fr, by rw [List.getElem?_set_ne hi]; exact q1, q2, q3, q4, q5⟩ }
  · refine ⟨rfl, rfl, rfl, Nat.le_refl _, he, RhoLe.refl _, fun b' _ hg => ⟨rfl, ?_⟩, ?_⟩
    · rw [gobj_out (fun off c e x hg' => by rw [hg] at hg'; cases hg')]; exact hg
    · rintro b' o (hs | ⟨off, c, e, x, hg, _⟩)
      · exact .inl hs
      · exact .inr (.inr (by rw [hg]; simp))

/-- A cell of the store is set to a plain value that stands for what lies there. -/
theorem Rel.downObj (h : Rel P vm lm ρ S G σ a w) {id : Nat} {et : TypeId} {c : List LVal} (hc : σ.st[id]? = some (.cells et c)) :
    ∃ S' G', Rel P vm lm ρ S' G' { σ with st := σ.st.set id (.cells et (c.map LVal.stay)) } a w ∧ Pr w S G ρ w S' G' ρ ∧
      ∃ b cc, ρ[id]? = some b ∧ w.heap[b]? = some (.cells cc et (0, 0)) ∧ c.length ≤ cc.size ∧
        ∀ (o : Nat) (v : LVal), c[o]? = some v → ∃ cv, cc[o]? = some cv ∧ V w S' ρ v.down cv ∧ (v.plain = true ∨ v.isOwn = true) ∧ At1 P w S' G' ρ noPkOk (.cell id o, 0) v.stay cv :=
  ⟨_, _, h.downObjX hc⟩

theorem Rel.cellSet (h : Rel P vm lm ρ S G σ a w) (hn : σ.nopk) {id off : Nat} {ty : TypeId} {c : List LVal} (hc : σ.st[id]? = some (.cells ty c)) {u : LVal} (hp : u.plain = true)
    (hu : ∃ b cc et, ρ[id]? = some b ∧ w.heap[b]? = some (.cells cc et (0, 0)) ∧ ∃ cv, cc[off]? = some cv ∧ V w S ρ u cv) :
    Rel P vm lm ρ S G { σ with st := σ.st.set id (.cells ty (c.set off u)) } a w where
  defers := h.defers
  vsz := h.vsz
  lsz := h.lsz
  swf := h.swf
  len := by simpa using h.len
  rho := h.rho
  st i o ho := by
    by_cases hi : id = i
    · subst hi
      rw [List.getElem?_set] at ho
      simp at ho
      obtain ⟨_, rfl⟩ := ho
      obtain ⟨b, cc, h1, h2, h3, h4, h5⟩ := h.st id _ hc
      refine ⟨b, cc, h1, h2, h3, by simpa using h4, fun o v hv => ?_⟩
      by_cases hoff : off = o
      · subst hoff
        rw [List.getElem?_set] at hv
        simp at hv
        obtain ⟨hlt, rfl⟩ := hv
        obtain ⟨b', cc', et', k1, k2, cv, k3, k4⟩ := hu
        obtain rfl : b = b' := by rw [h1] at k1; exact Option.some.inj k1
        rw [h2] at k2
        injection k2 with k2; injection k2 with k2 _ _
        subst k2
        exact ⟨.inl hp, cv, k3, (At1.simple (LVal.simple_of_plain hp)).2 k4⟩
      · rw [List.getElem?_set_ne hoff] at hv
        exact h5 o v hv
    · rw [List.getElem?_set_ne hi] at ho
      exact h.st i o ho
  vars := h.vars
  rs i v hv := by
    rcases h.rs i v hv with h0 | ⟨t, h1, h2, h3⟩
    · exact .inl h0
    · exact .inr ⟨t, h1, h2, h3.nopk (fun b p n xs e => hn i b p n xs (e ▸ hv))⟩

theorem ObjAt.relab_cell {p q : Base} {id : Nat} {o : LObj} (h : ObjAt P w S G ρ id o) (hp : ∀ off ty c v, o = .cells ty c → p = .cell id off → c[off]? = some v → v.simple = true) : ObjAt P w S (gmove p q G) ρ id o := by
  cases o with
  | cells et c =>
    obtain ⟨b, cc, h1, h2, h3, h4, h5⟩ := h
    refine ⟨b, cc, h1, h2, relab_box.2 h3, h4, fun o v hv => ?_⟩
    obtain ⟨m0, cv, m1, m2⟩ := h5 o v hv
    refine ⟨m0, cv, m1, ?_⟩
    by_cases hb : Base.cell id o = p
    · have := hp o et c v rfl hb.symm hv
      exact (At1.simple this).2 ((At1.simple this).1 m2)
    · exact m2.keep (Ext.refl _ _) (RhoLe.refl _) (fun bl e x hg => ⟨rfl, Go.L.relab_other hg hb⟩) (fun _ _ _ h => h)
  | dead => trivial
  | map es =>
    obtain ⟨b, ces, clock, h1, h2, h3, h4⟩ := h
    exact ⟨b, ces, clock, h1, h2, relab_box.2 h3, h4⟩

/-- Nothing that is owned stands at the place (a cell's also). -/
def RS.frees' (σ : RS) : Base → Prop
  | .cell id off => ∀ ty c v, σ.st[id]? = some (.cells ty c) → c[off]? = some v → v.simple = true
  | b => σ.frees b

theorem Rel.relab' (h : Rel P vm lm ρ S G σ a w) {p q : Base} (hp : σ.frees' p) : Rel P vm lm ρ S (gmove p q G) σ a w := by
  by_cases hcell : ∃ id off, p = .cell id off
  · obtain ⟨id, off, rfl⟩ := hcell
    exact {
      defers := h.defers
      vsz := h.vsz
      lsz := h.lsz
      swf := h.swf.relab _ q
      len := h.len
      rho := h.rho
      st := fun i o ho => (h.st i o ho).relab_cell (fun off' ty c v e1 e2 hv => by
        injection e2 with e2 e3
        subst e1; subst e2; subst e3
        exact hp ty c v ho hv)
      vars := fun k v hv => by
        obtain ⟨t, h1, h2, h3⟩ := h.vars k v hv
        exact ⟨t, h1, h2, h3.relab_other (by simp)⟩
      rs := fun i v hv => by
        rcases h.rs i v hv with h0 | ⟨t, h1, h2, h3⟩
        · exact .inl h0
        · exact .inr ⟨t, h1, h2, h3.relab_other (by simp)⟩ }
  · refine h.relab ?_
    cases p with
    | cell id off => exact absurd ⟨id, off, rfl⟩ hcell
    | var k => exact hp
    | rs i => exact hp
    | pend => trivial

theorem Rel.acquire (h : Rel P vm lm ρ S G σ a w) {x : Operand} {y : Opd} (hc : chkOpd vm lm x y = true) {v : LVal} (hg : σ.acquire y = some (v, σ')) :
    ∃ S' G', Rel P vm lm ρ S' G' σ' a w ∧ (At P w S' G' ρ noPkOk .pend v (a.eval x) ∨ ∃ l, v = .tup l) ∧ Pr w S G ρ w S' G' ρ := by
  cases y with
  | const c =>
    simp [RS.acquire] at hg
    obtain ⟨rfl, rfl⟩ := hg
    have hs : c.simple = true := by
      cases x with
      | const c' => simp only [chkOpd, Bool.and_eq_true] at hc; exact hc.2
      | func f => cases c <;> simp_all [chkOpd, LVal.simple]
      | _ => simp [chkOpd] at hc
    exact ⟨S, G, h, .inl ((At.simple hs).2 (h.peek_V hc (y := .const c) rfl hs)), Pr.refl ..⟩
  | var k => simp [RS.acquire] at hg
  | loc i =>
    simp only [RS.acquire] at hg
    cases hv : σ.rs[i]? with
    | none => simp [hv] at hg
    | some u =>
      simp only [hv, Option.bind_some] at hg
      have same : u.simple = true → v = u → σ' = σ → ∃ S' G', Rel P vm lm ρ S' G' σ' a w ∧ (At P w S' G' ρ noPkOk .pend v (a.eval x) ∨ ∃ l, v = .tup l) ∧ Pr w S G ρ w S' G' ρ := by
        rintro hs rfl rfl
        exact ⟨S, G, h, .inl ((At.simple hs).2 (h.peek_V hc (y := .loc i) hv hs)), Pr.refl ..⟩
      cases u with
      | vs b o n xs =>
        cases o with
        | own e xx =>
          have hgive : σ.give (.loc i) = some (v, σ') := by simp only [RS.give, hv, Option.bind_some]; exact hg
          obtain ⟨S', G', k1, k2, k3⟩ := h.give hc hgive
          exact ⟨S', G', k1, .inl k2, k3⟩
        | sh => simp at hg; exact same rfl hg.1.symm hg.2.symm
        | full => simp at hg; exact same rfl hg.1.symm hg.2.symm
        | pk p =>
          cases x with
          | tmp t =>
            simp [chkOpd] at hc
            rcases h.rs i _ hv with h0 | ⟨t', h1, h2, h3⟩
            · cases h0
            · rw [hc] at h1; injection h1 with h1; injection h1 with h1; subst h1
              obtain ⟨rfl, hp⟩ := h3
              cases p with
              | var k =>
                obtain ⟨e, x, t', m1, m2, m3⟩ := hp
                simp only [m1, Option.bind_some, LVal.isOwn, if_true, Option.some.injEq, Prod.mk.injEq] at hg
                obtain ⟨rfl, rfl⟩ := hg
                obtain ⟨t'', q1, q2, q3⟩ := h.vars k _ m1
                obtain rfl : t' = t'' := by rw [m2] at q1; exact Option.some.inj q1
                rw [m3] at q3
                have hu := h.noPk.varUndef σ.noPk_nopk k
                have hf : RS.frees { σ.noPk with vars := σ.vars.set k .undef } (.var k) := by
                  intro z hz
                  rw [List.getElem?_set] at hz
                  simp at hz
                  rw [← hz.2]; rfl
                refine ⟨S, gmove (.var k) .pend G, hu.relab hf, .inl (q3.relab), Pr.relab ..⟩
              | cell id off =>
                obtain ⟨e, x, ty, c, b, cc, et, fr, m1, m2, m3, m4, m5⟩ := hp
                simp only [m1, m2, Option.bind_some, LVal.isOwn, if_true, Option.some.injEq, Prod.mk.injEq] at hg
                obtain ⟨rfl, rfl⟩ := hg
                obtain ⟨b', cc', q1, q2, q3, q4, q5⟩ := h.st id _ m1
                obtain rfl : b = b' := by rw [m3] at q1; exact Option.some.inj q1
                rw [m4] at q2
                injection q2 with q2; injection q2 with q2 _ _
                subst q2
                obtain ⟨_, cv', r1, r2⟩ := q5 off _ m2
                have ecv : a.tmps.getD t undef = cv' := by rw [m5] at r1; exact Option.some.inj r1
                obtain ⟨S', G', k1, k2, b2, cc2, p1, p2, p3, p4⟩ := h.noPk.downObj m1
                obtain rfl : b = b2 := by rw [m3] at p1; exact Option.some.inj p1
                have p2c := p2
                rw [m4] at p2
                injection p2 with p2; injection p2 with p2 _ _
                subst p2
                obtain ⟨cv2, w1, w2, w3, w4⟩ := p4 off _ m2
                have ecv2 : cv' = cv2 := by rw [r1] at w1; exact Option.some.inj w1
                subst ecv2
                have hst : { σ.noPk with st := σ.st.set id (.cells ty ((c.map LVal.stay).set off (LVal.down (.vs false (.own e x) n xs)))) } =
                    ({ ({ σ.noPk with st := σ.st.set id (.cells ty (c.map LVal.stay)) } : RS) with st := (σ.st.set id (.cells ty (c.map LVal.stay))).set id (.cells ty ((c.map LVal.stay).set off (.vs false .sh n xs))) } : RS) := by
                  simp [List.set_set, LVal.down]
                have hlook : (σ.st.set id (.cells ty (c.map LVal.stay)))[id]? = some (.cells ty (c.map LVal.stay)) := by simp [List.getElem?_set_self', m1]
                rw [hst]
                have hu := k1.cellSet (off := off) (u := .vs false .sh n xs) (RS.noPk_nopk σ) hlook rfl ⟨b, cc, ty, m3, p2c, _, r1, w2⟩
                have hf : RS.frees' { ({ σ.noPk with st := σ.st.set id (.cells ty (c.map LVal.stay)) } : RS) with st := (σ.st.set id (.cells ty (c.map LVal.stay))).set id (.cells ty ((c.map LVal.stay).set off (.vs false .sh n xs))) } (.cell id off) := by
                  intro ty' c' z hc' hz
                  simp only [List.getElem?_set_self', hlook] at hc'
                  simp at hc'
                  obtain ⟨_, rfl⟩ := hc'
                  rw [List.getElem?_set] at hz
                  simp at hz
                  rw [← hz.2]; rfl
                refine ⟨S', gmove (.cell id off) .pend G', hu.relab' hf, .inl ?_, k2.trans (Pr.relab ..)⟩
                show At P w S' _ ρ noPkOk .pend _ (a.tmps.getD t undef)
                rw [ecv]
                exact (At.nt (by simp [LVal.stay])).2 (At1.relab w4)
          | _ => simp [chkOpd] at hc
      | tup l =>
        simp at hg
        obtain ⟨rfl, rfl⟩ := hg
        exact ⟨S, G, h, .inr ⟨_, rfl⟩, Pr.refl ..⟩
      | _ => simp at hg; exact same rfl hg.1.symm hg.2.symm

end Go.L
/- L7: which operation of the model an operation of the interpreter stands for; the first operations' soundness. -/
set_option linter.unusedVariables false
set_option linter.unusedSimpArgs false
namespace Go.L
open Go

variable {P : Program} {vm : List Nat} {lm : List (Option Nat)} {ρ ρ' : List Nat} {S S' : Nat → Nat → Prop} {G G' : Nat → Cl} {σ σ' : RS} {a : Act} {w w' : World}

/-! ### Types, as the tables have them -/
def aggD : TypeDesc → Bool
  | .struct _ | .array _ _ => true
  | _ => false
def tyOk (P : Program) (t : TypeId) (agg : Bool) (n : Nat) : Bool :=
  match P.underlying t with
  | some d => aggD d == agg && (P.info? t).map (·.size) == some n && (agg || n == 1)
  | none => false
def zeroOk (P : Program) (t : TypeId) (cells : List LVal) : Bool :=
  match (P.info? t).bind (·.zero) with
  | some z => constsOk z.cells.toList cells && cells.all LVal.plain
  | none => false

theorem tyOk_facts {t agg n} (h : tyOk P t agg n = true) : ∃ d i, P.underlying t = some d ∧ aggD d = agg ∧ P.info? t = some i ∧ i.size = n ∧ (agg = false → n = 1) := by
  unfold tyOk at h
  cases hd : P.underlying t with
  | none => simp [hd] at h
  | some d =>
    simp only [hd, Bool.and_eq_true, beq_iff_eq, Option.map_eq_some_iff, Bool.or_eq_true] at h
    obtain ⟨⟨h1, i, h2, h3⟩, h4⟩ := h
    exact ⟨d, i, rfl, h1, h2, h3, fun e => by simpa [e] using h4⟩

theorem run_isAgg' {t : TypeId} {d : TypeDesc} (h : P.underlying t = some d) (w : World) : (isAgg t).run P w = .ok (aggD d) w := by
  unfold isAgg
  simp only [Sem.run_bind, run_underlying h, Result.andThen_ok]
  cases d <;> rfl

theorem run_zeroValue' {t : TypeId} {i : TypeInfo} {z : Value} (h : P.info? t = some i) (hz : i.zero = some z) (w : World) : (zeroValue t).run P w = .ok z w := by
  unfold zeroValue
  simp [run_typeInfo w h, hz]

theorem run_sizeOf' {t : TypeId} {i : TypeInfo} (h : P.info? t = some i) (w : World) : (sizeOf t).run P w = .ok i.size w := by
  simp [sizeOf, run_typeInfo w h]

/-! ### What an operation gives -/
def Gives (P : Program) (o : Oper) (a : Act) (w : World) (R : Value → World → Prop) : Prop :=
  ∀ (K : Act → World → Prop) (Q : Exit → Act → World → Prop), (∀ cv w', R cv w' → K (a.put o.dst cv) w') → o.wp P a w K Q

theorem Gives.value {o : Oper} {R : Value → World → Prop} {cv : Value} (hr : (execOp a.eval o).run P w = .ok (.value cv) w') (h : R cv w') : Gives P o a w R := by
  intro K Q hk
  unfold Oper.wp
  rw [hr]
  exact hk cv w' h
theorem Gives.skip {o : Oper} {R : Value → World → Prop} (hr : (execOp a.eval o).run P w = .ok .skip w') (h : R undef w') : Gives P o a w R := by
  intro K Q hk
  unfold Oper.wp
  rw [hr]
  exact hk undef w' h

/-- What holds behind an operation: the state σ', the value v that is to be put. -/
def Post (P : Program) (vm : List Nat) (lm : List (Option Nat)) (ρ : List Nat) (S : Nat → Nat → Prop) (G : Nat → Cl) (w : World) (a : Act) (σ' : RS) (v : LVal) : Value → World → Prop :=
  fun cv w' => ∃ ρ' S' G', Rel P vm lm ρ' S' G' σ' a w' ∧ At P w' S' G' ρ' (PkOk vm ρ' σ' a w') .pend v cv ∧ Pr w S G ρ w' S' G' ρ'

theorem Post.of {v : LVal} {cv : Value} (h : Rel P vm lm ρ' S' G' σ' a w') (hv : At P w' S' G' ρ' noPkOk .pend v cv) (hp : Pr w S G ρ w' S' G' ρ') : Post P vm lm ρ S G w a σ' v cv w' :=
  ⟨ρ', S', G', h, PkOk_of_no hv _, hp⟩
theorem Post.simple {v : LVal} {cv : Value} (h : Rel P vm lm ρ' S' G' σ' a w') (hs : v.simple = true) (hv : V w' S' ρ' v cv) (hp : Pr w S G ρ w' S' G' ρ') : Post P vm lm ρ S G w a σ' v cv w' :=
  ⟨ρ', S', G', h, (At.simple hs).2 hv, hp⟩
/-- Nothing but a value. -/
theorem Post.pure {v : LVal} {cv : Value} (h : Rel P vm lm ρ S G σ a w) (hs : v.simple = true) (hv : V w S ρ v cv) : Post P vm lm ρ S G w a σ v cv w :=
  .simple h hs hv (Pr.refl ..)

/-- An operation's run, where its value is told alone. -/
theorem exec_v {o : Oper} {s : Sem Value} {cv : Value} (he : execOp a.eval o = (do Pure.pure (.value (← s)))) (hs : s.run P w = .ok cv w') : (execOp a.eval o).run P w = .ok (.value cv) w' := by
  rw [he]; simp [hs]
theorem exec_u {o : Oper} {s : Sem Unit} (he : execOp a.eval o = (do s; Pure.pure .skip)) (hs : s.run P w = .ok () w') : (execOp a.eval o).run P w = .ok .skip w' := by
  rw [he]; simp [hs]

/-! ### Inversions -/
section inv
variable {cv : Value}
theorem V.bool_inv {b} (h : V w S ρ (.bool b) cv) : cv = .bool b := by cases h; rfl
theorem V.int_inv {k n} (h : V w S ρ (.int k n) cv) : cv = .int k n := by cases h; rfl
theorem V.str_inv {s} (h : V w S ρ (.str s) cv) : cv = .string ⟨⟨s⟩⟩ := by cases h; rfl
theorem V.ptr_inv {id off} (h : V w S ρ (.ptr id off) cv) : ∃ b, ρ[id]? = some b ∧ cv = .pointer (some ⟨b, off, none⟩) := by cases h with | ptr h => exact ⟨_, h, rfl⟩
theorem V.ref_inv {v} (h : V w S ρ (.ref v) cv) : ∃ b off, Row w S b off v.cells ∧ cv = .pointer (some ⟨b, off, none⟩) := by cases h with | ref h => exact ⟨_, _, h, rfl⟩
theorem V.nilptr_inv (h : V w S ρ .nilptr cv) : cv = .pointer none := by cases h; rfl
theorem V.ms_inv {id off len esz agg} (h : V w S ρ (.ms id off len esz agg) cv) : ∃ b cap, ρ[id]? = some b ∧ len ≤ cap ∧ cap ≤ maxLen ∧ cv = .slice (some ⟨b, off, none⟩) len cap := by
  cases h with | ms h1 h2 h3 => exact ⟨_, _, h1, h2, h3, rfl⟩
theorem V.map_inv {id} (h : V w S ρ (.map id) cv) : ∃ b, ρ[id]? = some b ∧ cv = .map (some b) := by cases h with | map h => exact ⟨_, h, rfl⟩
theorem V.nilmap_inv (h : V w S ρ .nilmap cv) : cv = .map none := by cases h; rfl
theorem V.func_inv {f caps} (h : V w S ρ (.func f caps) cv) : ∃ cs, VL w S ρ caps cs ∧ cv = .func (.func f) #[] ⟨cs⟩ := by cases h with | func h _ => exact ⟨_, h, rfl⟩
theorem V.nilfunc_inv (h : V w S ρ .nilfunc cv) : cv = .nilFunc := by cases h; rfl
theorem V.iface_inv {t v} (h : V w S ρ (.iface t v) cv) : ∃ x, V w S ρ v x ∧ (v.plain = true ∨ v.isAgg = true) ∧ cv = .iface t x := by cases h with | iface h1 h2 => exact ⟨_, h1, h2, rfl⟩
theorem V.niliface_inv (h : V w S ρ .niliface cv) : cv = .nilIface := by cases h; rfl
theorem V.agg_inv {cs} (h : V w S ρ (.agg cs) cv) : ∃ xs, VL w S ρ cs xs ∧ cs.all LVal.plain = true ∧ cv = .agg ⟨xs⟩ := by cases h with | agg h1 h2 => exact ⟨_, h1, h2, rfl⟩
end inv

theorem heap_alloc_lt {o : Obj} {b : Nat} (hb : b < w.heap.size) : (w.alloc o).heap[b]? = w.heap[b]? := by
  show (w.heap.push o)[b]? = _
  rw [Array.getElem?_push, if_neg (by omega)]
theorem heap_alloc_at {o : Obj} : (w.alloc o).heap[w.heap.size]? = some o := by
  show (w.heap.push o)[_]? = _
  simp
theorem heap_alloc_size {o : Obj} : (w.alloc o).heap.size = w.heap.size + 1 := by
  show (w.heap.push o).size = _
  simp
theorem SWf.lt_of {b} (hs : SWf w S G) (hg : G b ≠ .ro) : b < w.heap.size := by
  rcases Nat.lt_or_ge b w.heap.size with h | h
  · exact h
  · exact absurd (hs.fresh b h) hg
theorem Ext.alloc (hs : SWf w S G) (o : Obj) : Ext S w S (w.alloc o) := fun b o' h1 => ⟨h1, World.cell?_alloc_lt _ _ _ (hs.lt _ _ h1)⟩
def gnew (w : World) (G : Nat → Cl) (id : Nat) : Nat → Cl := fun b => if b = w.heap.size then .box id else G b

/-! ### The operations, one by one -/
section
variable {C : CallL} {im : TypeId → String → Option FuncId} {impl : TypeId → TypeId → Bool}
variable (h : Rel P vm lm ρ S G σ a w) {o : Oper}
include h

theorem ok_asg {x : Operand} {y : Opd} (ho : o.op = .assign x ∨ o.op = .move x) (hc : chkOpd vm lm x y = true) {v : LVal} (hs : σ.give y = some (v, σ')) : Gives P o a w (Post P vm lm ρ S G w a σ' v) := by
  obtain ⟨S', G', k1, k2, k3⟩ := h.give hc hs
  refine .value (cv := a.eval x) (w' := w) ?_ (.of k1 k2 k3)
  rcases ho with ho | ho <;> simp [execOp, ho]

theorem ok_take {x : Operand} {y : Opd} (ho : o.op = .assign x ∨ o.op = .move x) (hc : chkOpd vm lm x y = true) {v : LVal} (hs : σ.take y = some (v, σ')) : Gives P o a w (Post P vm lm ρ S G w a σ' v) := by
  obtain ⟨S', G', k1, k2, k3, k4⟩ := h.take hc hs
  refine .value (cv := a.eval x) (w' := w) ?_ (.simple k1 k3 k2 k4)
  rcases ho with ho | ho <;> simp [execOp, ho]

theorem ok_look {x : Operand} {k : Nat} (ho : o.op = .assign x ∨ o.op = .move x) (hc : chkOpd vm lm x (.var k) = true) {v : LVal} (hs : sem C im impl σ (.mv (.var k) true) = some (v, σ')) :
    Gives P o a w (Post P vm lm ρ S G w a σ' v) := by
  have hrun : (execOp a.eval o).run P w = .ok (.value (a.eval x)) w := by rcases ho with ho | ho <;> simp [execOp, ho]
  simp only [sem] at hs
  cases hu : σ.vars[k]? with
  | none => simp [hu] at hs
  | some u =>
    simp only [hu, Option.bind_some] at hs
    cases x with
    | tmp t =>
      simp [chkOpd] at hc
      obtain ⟨t', h1, h2, h3⟩ := h.vars k u hu
      rw [hc] at h1; injection h1 with h1; subst h1
      refine .value hrun ?_
      cases u with
      | vs b o n xs =>
        cases o with
        | own e x =>
          simp at hs
          obtain ⟨rfl, rfl⟩ := hs
          obtain ⟨rfl, _⟩ := h3
          exact ⟨ρ, S, G, h, ⟨rfl, e, x, t, hu, hc, rfl⟩, Pr.refl ..⟩
        | pk p => exact (h3.2).elim
        | sh => simp at hs; obtain ⟨rfl, rfl⟩ := hs; exact ⟨ρ, S, G, h, h3, Pr.refl ..⟩
        | full => simp at hs; obtain ⟨rfl, rfl⟩ := hs; exact ⟨ρ, S, G, h, h3, Pr.refl ..⟩
      | tup l => simp at hs
      | _ => simp at hs; obtain ⟨rfl, rfl⟩ := hs; exact ⟨ρ, S, G, h, h3, Pr.refl ..⟩
    | _ => simp [chkOpd] at hc

theorem ok_pick {c x y : Operand} {c' x' y' : Opd} (ho : o.op = .pick c x y) (hc : chkOpd vm lm c c' = true) (hx : chkOpd vm lm x x' = true) (hy : chkOpd vm lm y y' = true) {v : LVal}
    (hs : sem C im impl σ (.pick c' x' y') = some (v, σ')) : Gives P o a w (Post P vm lm ρ S G w a σ' v) := by
  simp only [sem, Option.bind_eq_some_iff] at hs
  obtain ⟨b, h1, h2⟩ := hs
  cases b with
  | bool b =>
    have hb := h.peek_V hc h1 rfl
    have hcb : a.eval c = .bool b := hb.bool_inv
    cases b with
    | true =>
      obtain ⟨S', G', k1, k2, k3, k4⟩ := h.take hx (by simpa using h2)
      exact .value (cv := a.eval x) (w' := w) (by simp [execOp, ho, hcb, asBool]) (.simple k1 k3 k2 k4)
    | false =>
      obtain ⟨S', G', k1, k2, k3, k4⟩ := h.take hy (by simpa using h2)
      exact .value (cv := a.eval y) (w' := w) (by simp [execOp, ho, hcb, asBool]) (.simple k1 k3 k2 k4)
  | _ => simp at h2

/-! #### New objects of the store -/
omit h in
theorem PkOk.st {σ σ' : RS} {p n xs cv} (h : PkOk vm ρ σ a w p n xs cv) (hv : σ'.vars = σ.vars) (hst : ∀ (id : Nat) ty c, σ.st[id]? = some (.cells ty c) → σ'.st[id]? = some (.cells ty c))
    (hr : RhoLe ρ ρ') (hb : ∀ (id b : Nat), ρ[id]? = some b → (∃ ty c, σ.st[id]? = some (LObj.cells ty c)) → w'.heap[b]? = w.heap[b]?) : PkOk vm ρ' σ' a w' p n xs cv := by
  cases p with
  | var k =>
    obtain ⟨e, x, t, h1, h2, h3⟩ := h
    exact ⟨e, x, t, by rw [hv]; exact h1, h2, h3⟩
  | cell id off =>
    obtain ⟨e, x, ty, c, b, cc, et, fr, h1, h2, h3, h4, h5⟩ := h
    exact ⟨e, x, ty, c, b, cc, et, fr, hst _ _ _ h1, h2, hr _ _ h3, (hb _ _ h3 ⟨ty, c, h1⟩).trans h4, h5⟩

omit h in
/-- A new block that is an object of the store. -/
theorem Rel.newObj (h : Rel P vm lm ρ S G σ a w) {ob : Obj} {ol : LObj}
    (hob : ∀ G' ρ', G' w.heap.size = .box σ.st.length → RhoLe ρ ρ' → ρ'[σ.st.length]? = some w.heap.size → Ext S w S (w.alloc ob) →
      (∀ bl l e x, G bl = .arr l e x → (w.alloc ob).heap[bl]? = w.heap[bl]? ∧ G' bl = G bl) → ObjAt P (w.alloc ob) S G' ρ' σ.st.length ol) :
    ∃ G', Rel P vm lm (ρ ++ [w.heap.size]) S G' (σ.alloc ol) a (w.alloc ob) ∧ Pr w S G ρ (w.alloc ob) S G' (ρ ++ [w.heap.size]) ∧
      (∀ bl l e x, G bl = .arr l e x → (w.alloc ob).heap[bl]? = w.heap[bl]? ∧ G' bl = G bl) := by
  have he := Ext.alloc h.swf ob
  have hr := RhoLe.app ρ [w.heap.size]
  have hkeep : ∀ b, G b ≠ .ro → (w.alloc ob).heap[b]? = w.heap[b]? ∧ gnew w G σ.st.length b = G b := fun b hb => by
    have hlt := h.swf.lt_of hb
    exact ⟨heap_alloc_lt hlt, by simp [gnew]; omega⟩
  have hsz : (w.alloc ob).heap.size = w.heap.size + 1 := heap_alloc_size
  refine ⟨gnew w G σ.st.length, ?_, ?_, fun bl l e x hg => hkeep bl (by rw [hg]; simp)⟩
  · exact {
      defers := h.defers
      vsz := h.vsz
      lsz := h.lsz
      swf := {
        lt := fun b o hs => by have := h.swf.lt b o hs; omega
        fresh := fun b hb => by
          have : b ≠ w.heap.size := by omega
          simp [gnew, this]; exact h.swf.fresh b (by omega)
        box := fun b o id hs hg => by
          have := h.swf.lt b o hs
          simp [gnew] at hg
          rw [if_neg (by omega)] at hg
          exact h.swf.box b o id hs hg
        arr := fun b o l e x hs hg => by
          have := h.swf.lt b o hs
          simp [gnew] at hg
          rw [if_neg (by omega)] at hg
          exact h.swf.arr b o l e x hs hg }
      len := by simp [RS.alloc, h.len]
      rho := fun id b hb => by
        rw [List.getElem?_append] at hb
        split at hb
        · have := h.rho id b hb; omega
        · simp [List.getElem?_cons] at hb
          omega
      st := fun id o ho => by
        simp only [RS.alloc] at ho
        rw [List.getElem?_append] at ho
        split at ho
        · refine (h.st id o ho).keep he hr (fun b hb => hkeep b (by rw [hb]; simp)) (fun bl off c e x hb => hkeep bl (by rw [hb]; simp))
        · rename_i hlt
          have hid : id = σ.st.length := by
            have := (List.getElem?_eq_some_iff.1 ho).1
            simp at this; omega
          subst hid
          simp at ho
          subst ho
          exact hob _ _ (by simp [gnew]) hr (by rw [List.getElem?_append_right (by rw [h.len]; exact Nat.le_refl _)]; simp [h.len]) he (fun bl l e x hg => hkeep bl (by rw [hg]; simp))
      vars := fun k v hv => by
        obtain ⟨t, h1, h2, h3⟩ := h.vars k v hv
        exact ⟨t, h1, h2, h3.keep he hr (fun bl c e x hb => hkeep bl (by rw [hb]; simp)) (fun _ _ _ h => h)⟩
      rs := fun i v hv => by
        rcases h.rs i v hv with h0 | ⟨t, h1, h2, h3⟩
        · exact .inl h0
        · refine .inr ⟨t, h1, h2, h3.keep he hr (fun bl c e x hb => hkeep bl (by rw [hb]; simp)) (fun p n xs hp => PkOk.st hp rfl (fun id ty c hc => ?_) hr (fun id b hb _ => heap_alloc_lt (h.rho id b hb)))⟩
          simp only [RS.alloc]
          rw [List.getElem?_append_left (List.getElem?_eq_some_iff.1 hc).1]
          exact hc }
  · refine ⟨rfl, rfl, rfl, by omega, he, hr, fun b hb hg => ⟨heap_alloc_lt hb, by simp [gnew]; rw [if_neg (by omega)]; exact hg⟩, fun b o hs => .inl hs⟩

theorem ok_alloc {t : TypeId} {cells : List LVal} (ho : o.op = .alloc t) (hz : zeroOk P t cells = true) : Gives P o a w (Post P vm lm ρ S G w a (σ.alloc (.cells t cells)) (.ptr σ.st.length 0)) := by
  unfold zeroOk at hz
  cases hi : P.info? t with
  | none => simp [hi] at hz
  | some i =>
    cases hzz : i.zero with
    | none => simp [hi, hzz] at hz
    | some z =>
      simp only [hi, Option.bind_some, hzz, Bool.and_eq_true] at hz
      have hrun : (execOp a.eval o).run P w = .ok (.value (.pointer (some ⟨w.heap.size, 0, none⟩))) (w.alloc (.cells z.cells t)) := by
        refine exec_v (s := Instr.alloc t true (.tuple #[])) (by simp [execOp, ho]) ?_
        simp [Instr.alloc, run_zeroValue' hi hzz, newVar, newRow]
      have hVL : VL w S ρ cells z.cells.toList := constsOk.VL ρ hz.1
      obtain ⟨G', k1, k2, k3⟩ := h.newObj (ob := .cells z.cells t) (ol := .cells t cells) (fun G' ρ' hG hr hρ he hk => by
        refine ⟨w.heap.size, z.cells, hρ, heap_alloc_at, hG, ?_, fun o v hv => ?_⟩
        · have := hVL.length; simp at this; omega
        · obtain ⟨c, hc, hvc⟩ := hVL.get o v hv
          have hp : v.plain = true := by
            have := List.all_eq_true.1 hz.2 v (List.mem_of_getElem? hv)
            exact this
          exact ⟨.inl hp, c, by simpa using hc, (At1.simple (LVal.simple_of_plain hp)).2 (hvc.mono he hr)⟩)
      refine .value hrun (.simple k1 rfl (.ptr ?_) k2)
      rw [List.getElem?_append_right (by rw [h.len]; exact Nat.le_refl _)]; simp [h.len]

omit h in
theorem At1.of_pend_own {b e x n xs cv id} (hv : At P w S G ρ noPkOk .pend (.vs b (.own e x) n xs) cv) : At1 P w S (gmove .pend (.cell id 0) G) ρ noPkOk (.cell id 0, 0) (.vs b (.own e x) n xs) cv :=
  At1.relab ((At.nt (by simp)).1 hv)

end
end Go.L
/- L8: the operations that read and write the store, and those that build. -/
set_option linter.unusedVariables false
set_option linter.unusedSimpArgs false
set_option linter.unusedSectionVars false
namespace Go.L
open Go

variable {P : Program} {vm : List Nat} {lm : List (Option Nat)} {ρ ρ' : List Nat} {S S' : Nat → Nat → Prop} {G G' : Nat → Cl} {σ σ' : RS} {a : Act} {w w' : World}
variable {C : CallL} {im : TypeId → String → Option FuncId} {impl : TypeId → TypeId → Bool}

/-- A plain value is one cell. -/
theorem V.one {v : LVal} {cv : Value} (h : V w S ρ v cv) (hp : v.plain = true) : cv.oneCell' = true ∧ cv.cells = #[cv] := by
  cases h <;> first | (simp [LVal.plain] at hp; done) | exact ⟨rfl, rfl⟩
theorem OwnAt.one {l e x n xs cv} (h : OwnAt P w S G l e x n xs cv) : cv.oneCell' = true ∧ cv.cells = #[cv] := by
  obtain ⟨b, cap, cur, h1, _⟩ := h
  subst h1; exact ⟨rfl, rfl⟩

theorem V.cells {v : LVal} {cv : Value} (h : V w S ρ v cv) (hp : v.cells.all LVal.plain = true) : VL w S ρ v.cells cv.cells.toList ∧ ∀ c ∈ cv.cells.toList, c.oneCell' = true := by
  cases v with
  | agg cs =>
    obtain ⟨xs, h1, h2, rfl⟩ := h.agg_inv
    refine ⟨h1, fun c hc => ?_⟩
    obtain ⟨i, hi, hic⟩ := List.getElem_of_mem hc
    have hl := h1.length
    have hi' : i < xs.length := hi
    obtain ⟨c', e, hv⟩ := h1.get i cs[i] (List.getElem?_eq_getElem (by omega))
    have : c = c' := by
      have h3 : xs[i]? = some c := by rw [List.getElem?_eq_getElem hi']; exact congrArg some hic
      rw [h3] at e; exact Option.some.inj e
    subst this
    exact (hv.one (List.all_eq_true.1 h2 _ (List.getElem_mem _))).1
  | undef => simp [LVal.cells, LVal.plain] at hp
  | bool _ | int _ _ | str _ | ptr _ _ | ref _ | nilptr | vs _ _ _ _ | ms _ _ _ _ _ | map _ | nilmap | func _ _ | nilfunc | iface _ _ | niliface | tup _ =>
    have hp' := (by simpa [LVal.cells] using hp)
    obtain ⟨h1, h2⟩ := h.one hp'
    rw [h2]
    exact ⟨.cons h .nil, fun c hc => by simp at hc; subst hc; exact h1⟩

section
variable (h : Rel P vm lm ρ S G σ a w) {o : Oper}
include h

/-- What is given over fills an object of the store anew. -/
theorem ok_boxed {v : LVal} {cv : Value} (hv : At P w S G ρ noPkOk .pend v cv) (hp : (v.cells.all LVal.plain || (!v.isAgg && v.isOwn)) = true) (t : TypeId) :
    ∃ G', Rel P vm lm (ρ ++ [w.heap.size]) S G' (σ.alloc (.cells t v.cells)) a (w.alloc (.cells cv.cells t)) ∧ Pr w S G ρ (w.alloc (.cells cv.cells t)) S G' (ρ ++ [w.heap.size]) := by
  by_cases hall : v.cells.all LVal.plain = true
  · have hs : v.simple = true := by
      cases v with
      | vs b o n xs => cases o <;> simp_all [LVal.simple, LVal.cells, LVal.plain]
      | tup l => simp [LVal.cells, LVal.plain] at hall
      | _ => rfl
    have hV := (At.simple hs).1 hv
    obtain ⟨hVL, _⟩ := hV.cells hall
    obtain ⟨G', k1, k2, _⟩ := h.newObj (ob := .cells cv.cells t) (ol := .cells t v.cells) (fun G' ρ' hG hr hρ he hk => by
      refine ⟨w.heap.size, cv.cells, hρ, heap_alloc_at, hG, ?_, fun o u hu => ?_⟩
      · have := hVL.length; simp at this; omega
      · obtain ⟨c, hc, hvc⟩ := hVL.get o u hu
        have hpu : u.plain = true := List.all_eq_true.1 hall u (List.mem_of_getElem? hu)
        exact ⟨.inl hpu, c, by simpa using hc, (At1.simple (LVal.simple_of_plain hpu)).2 (hvc.mono he hr)⟩)
    exact ⟨G', k1, k2⟩
  · have hown : v.isOwn = true := by
      simp only [Bool.or_eq_true, Bool.and_eq_true] at hp
      rcases hp with hp | hp
      · exact absurd hp hall
      · exact hp.2
    obtain ⟨bb, e, x, n, xs, rfl⟩ := LVal.isOwn_cases hown
    have h1 := h.relab (p := .pend) (q := .cell σ.st.length 0) trivial
    have hat := At1.of_pend_own (id := σ.st.length) hv
    have hcells : cv.cells = #[cv] := by have := (At.nt (by simp)).1 hv; exact this.2.one.2
    obtain ⟨G', k1, k2, _⟩ := h1.newObj (ob := .cells cv.cells t) (ol := .cells t [.vs bb (.own e x) n xs]) (fun G' ρ' hG hr hρ he hk => by
      refine ⟨w.heap.size, cv.cells, hρ, heap_alloc_at, hG, by simp [hcells], fun o u hu => ?_⟩
      cases o with
      | zero =>
        simp at hu; subst hu
        refine ⟨.inr rfl, cv, by simp [hcells], hat.keep he hr (fun bl e x hg => hk bl _ e x hg) (fun _ _ _ h => h)⟩
      | succ o => simp at hu)
    exact ⟨G', k1, (Pr.relab ..).trans k2⟩

theorem ok_box {x : Operand} {y : Opd} {t : TypeId} (ho : o.op = .box t x) (hc : chkOpd vm lm x y = true) {v : LVal} (hs : sem C im impl σ (.box t y) = some (v, σ')) :
    Gives P o a w (Post P vm lm ρ S G w a σ' v) := by
  simp only [sem, Option.bind_eq_some_iff] at hs
  obtain ⟨⟨u, σ1⟩, h1, h2⟩ := hs
  dsimp only at h2
  split at h2
  · rename_i hp
    simp at h2
    obtain ⟨rfl, rfl⟩ := h2
    obtain ⟨S1, G1, k1, k2, k3⟩ := h.give hc h1
    obtain ⟨G', m1, m2⟩ := ok_boxed k1 k2 hp t
    refine .value (cv := .pointer (some ⟨w.heap.size, 0, none⟩)) (w' := w.alloc (.cells (a.eval x).cells t)) ?_ (.simple m1 rfl (.ptr ?_) (k3.trans m2))
    · refine exec_v (s := Instr.box t (a.eval x)) (by simp [execOp, ho]) ?_
      simp [Instr.box, newVar, newRow]
    · rw [List.getElem?_append_right (by rw [k1.len]; exact Nat.le_refl _)]; simp [k1.len]
  · simp at h2

/-! #### Building -/
def chkParts (P : Program) (vm : List Nat) (lm : List (Option Nat)) (place : Nat → Option (Nat × Nat)) : List (Nat × Operand) → List (Nat × Nat × Opd) → Bool
  | [], [] => true
  | (i, x) :: r, (off, n, y) :: r' => place i == some (off, n) && chkOpd vm lm x y && chkParts P vm lm place r r'
  | _, _ => false

omit h in
theorem takeParts_ok : ∀ {ps : List (Nat × Operand)} {qs : List (Nat × Nat × Opd)} {S G σ} (_ : Rel P vm lm ρ S G σ a w) {place} (_ : chkParts P vm lm place ps qs = true)
    {us : List (Nat × Nat × LVal)} {σ' : RS} (_ : σ.takeParts qs = some (us, σ')),
    ∃ S' G', Rel P vm lm ρ S' G' σ' a w ∧ Pr w S G ρ w S' G' ρ ∧ us.length = ps.length ∧
      ∀ (j : Nat) off n v, us[j]? = some (off, n, v) → ∃ i x, ps[j]? = some (i, x) ∧ place i = some (off, n) ∧ V w S' ρ v (a.eval x)
  | [], [], S, G, σ, h, place, _, us, σ', ht => by
    simp [RS.takeParts] at ht
    obtain ⟨rfl, rfl⟩ := ht
    exact ⟨S, G, h, Pr.refl .., rfl, fun j _ _ _ hj => by simp at hj⟩
  | (i, x) :: ps, (off, n, y) :: qs, S, G, σ, h, place, hc, us, σ', ht => by
    simp only [chkParts, Bool.and_eq_true, beq_iff_eq] at hc
    simp only [RS.takeParts, Option.bind_eq_some_iff, Option.map_eq_some_iff] at ht
    obtain ⟨⟨u, σ1⟩, h1, ⟨⟨us1, σ2⟩, h2, e⟩⟩ := ht
    injection e with e1 e2; subst e1; subst e2
    obtain ⟨S1, G1, k1, k2, k3, k4⟩ := h.take hc.1.2 h1
    obtain ⟨S2, G2, m1, m2, m3, m4⟩ := takeParts_ok k1 hc.2 h2
    refine ⟨S2, G2, m1, k4.trans m2, by simp [m3], fun j off' n' v hj => ?_⟩
    cases j with
    | zero =>
      simp at hj
      obtain ⟨rfl, rfl, rfl⟩ := hj
      exact ⟨i, x, rfl, hc.1.1, k2.mono m2.ext (RhoLe.refl _)⟩
    | succ j =>
      obtain ⟨i', x', q1, q2, q3⟩ := m4 j off' n' v (by simpa using hj)
      exact ⟨i', x', by simpa using q1, q2, q3⟩

omit h in
theorem VL.setPart {cs us : List LVal} {cc : Array Value} {uc : List Value} (h : VL w S ρ cs cc.toList) (hu : VL w S ρ us uc) {off : Nat} (hl : off + us.length ≤ cs.length) :
    VL w S ρ (cs.take off ++ us ++ cs.drop (off + us.length)) ((uc.zipIdx 0).foldl (fun cs (x : Value × Nat) => cs.setIfInBounds (off + x.2) x.1) cc).toList := by
  obtain ⟨h1, h2⟩ := Great.foldl_set off uc 0 cc
  have hlen := h.length
  have hul := hu.length
  simp at hlen
  refine VL.of (by simp [h1]; omega) (fun i v hv => ?_)
  rw [List.append_assoc] at hv
  simp only [Array.getElem?_toList, h2 i, Nat.add_zero]
  rw [List.getElem?_append] at hv
  simp only [List.length_take] at hv
  split at hv
  · rename_i hi
    rw [if_neg (by omega)]
    rw [List.getElem?_take] at hv
    split at hv
    · simpa using h.get i v hv
    · simp at hv
  · rename_i hi
    rw [List.getElem?_append] at hv
    split at hv
    · rename_i hi2
      rw [if_pos (by omega)]
      have e : i - min off cs.length = i - off := by omega
      rw [e] at hv
      exact hu.get _ v hv
    · rename_i hi2
      rw [List.getElem?_drop] at hv
      have e : off + us.length + (i - min off cs.length - us.length) = i := by omega
      rw [e] at hv
      rw [if_neg (by omega)]
      simpa using h.get i v hv

omit h in
theorem fill_ok {place : Nat → Option (Nat × Nat)} : ∀ {ps : List (Nat × Value)} {us : List (Nat × Nat × LVal)} {cs cs' : List LVal} {cc : Array Value}, VL w S ρ cs cc.toList → us.length = ps.length →
    (∀ (j : Nat) off n v, us[j]? = some (off, n, v) → ∃ i cv, ps[j]? = some (i, cv) ∧ place i = some (off, n) ∧ V w S ρ v cv) → us.all (fun p => p.2.2.cells.all LVal.plain) = true →
    setParts cs us = some cs' → ∃ r, Instr.fill place cc ps = some r ∧ VL w S ρ cs' r.toList ∧ (cs.all LVal.plain = true → cs'.all LVal.plain = true)
  | [], [], cs, cs', cc, h, _, _, _, hs => by simp [setParts] at hs; subst hs; exact ⟨cc, rfl, h, fun h => h⟩
  | (i, cv) :: ps, (off, n, v) :: us, cs, cs', cc, h, hl, hp, ha, hs => by
    simp only [setParts] at hs
    split at hs
    · rename_i hcond
      obtain ⟨hn, hoff⟩ := hcond
      obtain ⟨i', cv', e, hpl, hV⟩ := hp 0 off n v rfl
      simp at e
      obtain ⟨rfl, rfl⟩ := e
      simp only [List.all_cons, Bool.and_eq_true] at ha
      obtain ⟨hVL, _⟩ := hV.cells ha.1
      have hstep := h.setPart hVL (off := off) (by omega)
      rw [hn] at hstep
      have hsz : cv.cells.size = n := by have := hVL.length; simp at this; omega
      have hcc : cc.size = cs.length := by have := h.length; simp at this; omega
      obtain ⟨r, k1, k2, k3⟩ := fill_ok hstep (by simpa using hl) (fun j off' n' v' hj => by simpa using hp (j + 1) off' n' v' (by simpa using hj)) ha.2 hs
      refine ⟨r, ?_, k2, fun hpl => k3 ?_⟩
      · unfold Instr.fill
        rw [hpl]
        simp only [hsz]
        rw [if_neg (by simp; omega)]
        rw [← k1]
        congr 1
        rw [← Array.foldl_toList, Array.toList_zipIdx]
      · simp only [List.all_append, Bool.and_eq_true, List.all_eq_true]
        refine ⟨⟨fun x hx => List.all_eq_true.1 hpl x (List.mem_of_mem_take hx), fun x hx => List.all_eq_true.1 ha.1 x hx⟩, fun x hx => List.all_eq_true.1 hpl x (List.mem_of_mem_drop hx)⟩
    · simp at hs

omit h in
theorem zeroOk_facts {t : TypeId} {cells : List LVal} (hz : zeroOk P t cells = true) : ∃ i z, P.info? t = some i ∧ i.zero = some z ∧ constsOk z.cells.toList cells = true ∧ cells.all LVal.plain = true := by
  unfold zeroOk at hz
  cases hi : P.info? t with
  | none => simp [hi] at hz
  | some i =>
    cases hzz : i.zero with
    | none => simp [hi, hzz] at hz
    | some z =>
      simp only [hi, Option.bind_some, hzz, Bool.and_eq_true] at hz
      exact ⟨i, z, rfl, hzz, hz.1, hz.2⟩

/-- Where a type's parts lie. -/
def placesOf (P : Program) (t : TypeId) : Nat → Option (Nat × Nat) :=
  match P.underlying t with
  | some (.struct fs) => fun i => (fs[i]?).bind fun f => (P.info? f.type).map fun inf => (f.offset, inf.size)
  | some (.array _ e) => fun i => (P.info? e).map fun inf => (i * inf.size, inf.size)
  | _ => fun _ => none

/-- All of a struct's fields have their types in the table. -/
def buildable (P : Program) (t : TypeId) : Bool :=
  match P.underlying t with
  | some (.struct fs) => fs.toList.all fun f => (P.info? f.type).isSome
  | some (.array _ e) => (P.info? e).isSome
  | _ => false

omit h in
theorem run_mapM_places {fs : List Field} (hf : fs.all (fun f => (P.info? f.type).isSome) = true) (w : World) :
    (fs.mapM (fun f => do Pure.pure (f.offset, ← sizeOf f.type) : Field → Sem (Nat × Nat))).run P w = .ok (fs.map fun f => (f.offset, P.cellsOf f.type)) w := by
  induction fs with
  | nil => simp
  | cons f fs ih =>
    simp only [List.all_cons, Bool.and_eq_true] at hf
    obtain ⟨i, hi⟩ := Option.isSome_iff_exists.1 hf.1
    simp only [List.mapM_cons, Sem.run_bind, run_sizeOf w hi, Result.andThen_ok, ih hf.2, Sem.run_pure, List.map_cons]

theorem ok_build {t : TypeId} {ps : Array (Nat × Operand)} {zero : List LVal} {qs : List (Nat × Nat × Opd)} (ho : o.op = .build t ps) (hz : zeroOk P t zero = true) (hb : buildable P t = true)
    (hc : chkParts P vm lm (placesOf P t) ps.toList qs = true) {v : LVal} (hs : sem C im impl σ (.build zero qs) = some (v, σ')) : Gives P o a w (Post P vm lm ρ S G w a σ' v) := by
  simp only [sem, Option.bind_eq_some_iff] at hs
  obtain ⟨⟨us, σ1⟩, h1, h2⟩ := hs
  dsimp only at h2
  split at h2
  · rename_i hall
    simp only [Option.map_eq_some_iff] at h2
    obtain ⟨cs, h3, e⟩ := h2
    injection e with e1 e2; subst e1; subst e2
    obtain ⟨S1, G1, k1, k2, k3, k4⟩ := takeParts_ok h (ps := ps.toList) hc h1
    obtain ⟨i, z, z1, z2, z3, z4⟩ := zeroOk_facts hz
    obtain ⟨r, r1, r2, r3⟩ := fill_ok (place := placesOf P t) (ps := (ps.map fun (p : Nat × Operand) => (p.1, a.eval p.2)).toList) (cc := z.cells) (constsOk.VL ρ z3) (by simp [k3]) (fun j off n v hj => by
      obtain ⟨i, x, q1, q2, q3⟩ := k4 j off n v hj
      exact ⟨i, a.eval x, by simp at q1 ⊢; exact ⟨i, x, q1, rfl, rfl⟩, q2, q3⟩) hall h3
    have hr3 := r3 z4
    refine .value (cv := .agg r) (w' := w) ?_ (.simple k1 rfl (.agg (xs := r.toList) r2 hr3) k2)
    refine exec_v (s := Instr.build t (ps.map fun (p : Nat × Operand) => (p.1, a.eval p.2))) (by simp [execOp, ho]) ?_
    unfold Instr.build
    simp only [Sem.run_bind, run_zeroValue' z1 z2, Result.andThen_ok]
    unfold buildable at hb
    cases hu : P.underlying t with
    | none => simp [hu] at hb
    | some d =>
      simp only [run_underlying hu, Result.andThen_ok]
      cases d with
      | struct fs =>
        simp only [hu] at hb
        have hpl : (fs.mapM (fun f => do Pure.pure (f.offset, ← sizeOf f.type) : Field → Sem (Nat × Nat))).run P w = .ok (fs.map fun f => (f.offset, P.cellsOf f.type)) w := by
          rw [Array.mapM_eq_mapM_toList, Sem.run_map, run_mapM_places hb]
          simp
          apply Array.ext'; simp
        have hplace : (fun i => (fs.map fun f => (f.offset, P.cellsOf f.type))[i]?) = placesOf P t := by
          funext i
          simp only [placesOf, hu]
          cases hfi : fs[i]? with
          | none => simp [hfi]
          | some f =>
            have hm := List.all_eq_true.1 hb f (by simpa using Array.mem_of_getElem? hfi)
            obtain ⟨inf, hinf⟩ := Option.isSome_iff_exists.1 hm
            simp [hfi, hinf, Program.cellsOf]
        simp only [Sem.run_bind, hpl, Result.andThen_ok]
        rw [hplace, r1]
        rfl
      | array n e =>
        simp only [hu] at hb
        obtain ⟨inf, hinf⟩ := Option.isSome_iff_exists.1 hb
        have hplace : (fun i => some (i * inf.size, inf.size)) = placesOf P t := by
          funext i
          simp [placesOf, hu, hinf]
        simp only [Sem.run_bind, run_sizeOf' hinf, Result.andThen_ok]
        rw [hplace, r1]
        rfl
      | _ => simp [hu] at hb
  · simp at h2
end
end Go.L
