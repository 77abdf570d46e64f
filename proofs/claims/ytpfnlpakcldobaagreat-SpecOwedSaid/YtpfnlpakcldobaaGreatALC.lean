/- Texts of the proof: L14 L15 L16 L17. -/
import Derived.Test.YtpfnlpakcldobaaGreatALB
import Derived.Laws.Slices
import Derived.Laws.Cover3
import Derived.Laws.Append
import Derived.Laws.MakeOwn
import Derived.Laws.StructEq
set_option linter.unusedVariables false
set_option linter.unusedSimpArgs false
set_option linter.unusedSectionVars false
namespace Go.L
open Go
variable {P : Program} {vm : List Nat} {lm : List (Option Nat)} {ρ ρ' : List Nat} {S S' : Nat → Nat → Prop} {G G' : Nat → Cl} {σ σ' : RS} {a : Act} {w w' : World}
variable {C : xV} {im : TypeId → String → Option FuncId} {impl : TypeId → TypeId → Bool}
def wO (G : Nat → Cl) (b : Nat) (l : sA) (e : Nat) (x : Bool) : Nat → Cl := fun b' => if b' = b then .arr l e x else G b'
section
variable (h : Rel P vm lm ρ S G σ a w) {o : Oper}
include h
theorem Rel.takePart {j i : Nat} {l : List LVal} {b : Nat} {e : Nat} {x : Bool} (hl : σ.rs[j]? = some (.tup l)) (hb : G b = .arr (.rs j, i + 1) e x) :
 Rel P vm lm ρ S (wO G b (.yd, 0) e x) { σ with rs := σ.rs.set j (.tup (l.set i .undef)) } a w ∧ Pr w S G ρ w S (wO G b (.yd, 0) e x) ρ := by
 have hne : ∀ bl l' e' x', G bl = .arr l' e' x' → l' ≠ (.rs j, i + 1) → wO G b (.yd, 0) e x bl = G bl := by
  intro bl l' e' x' hg hn
  unfold wO
  split
  ·rename_i hbl; subst hbl; rw [hb] at hg; injection hg with h1; exact absurd h1.symm hn
  ·rfl
 have hbox : ∀ bl id, G bl = .box id → wO G b (.yd, 0) e x bl = G bl := by
  intro bl id hg
  unfold wO
  split
  ·rename_i hbl; subst hbl; rw [hb] at hg; cases hg
  ·rfl
 refine ⟨?_, ⟨rfl, rfl, rfl, Nat.le_refl _, Ext.refl _ _, zB.refl _, fun bl _ hg => ⟨rfl, ?_⟩, fun _ _ h => .inl h⟩⟩
 ·exact {
   defers := h.defers
   vsz := h.vsz
   lsz := h.lsz
   swf := {
    lt := h.swf.lt
    fresh := fun bl hbl => by
     unfold wO
     split
     ·rename_i hbl'; subst hbl'
      have := h.swf.fresh _ hbl
      rw [hb] at this; cases this
     ·exact h.swf.fresh bl hbl
    box := fun bl o id hs hg => by
     unfold wO at hg
     split at hg
     ·cases hg
     ·exact h.swf.box bl o id hs hg
    arr := fun bl o l' e' x' hs hg => by
     unfold wO at hg
     split at hg
     ·rename_i hbl'; subst hbl'
      injection hg with g1 g2 g3; subst g2; subst g3
      exact h.swf.arr _ o _ _ _ hs hb
     ·exact h.swf.arr bl o _ _ _ hs hg }
   len := h.len
   rho := h.rho
   st := fun id ob hob => (h.st id ob hob).yb (Ext.refl _ _) (zB.refl _) (fun bl hg => ⟨rfl, hbox bl _ hg⟩) (fun bl off c e' x' hg => ⟨rfl, hne bl _ _ _ hg (by simp)⟩)
   vars := fun k v hv => by
    obtain ⟨t, h1, h2, h3⟩ := h.vars k v hv
    exact ⟨t, h1, h2, h3.yb (Ext.refl _ _) (zB.refl _) (fun bl c e' x' hg => ⟨rfl, hne bl _ _ _ hg (by simp)⟩) (fun _ _ _ h => h)⟩
   rs := fun m v hv => by
    by_cases hm : j = m
    ·subst hm
     rw [List.getElem?_set] at hv
     have hjl : j < σ.rs.length := (List.getElem?_eq_some_iff.1 hl).1
     simp [hjl] at hv
     subst hv
     rcases h.rs j _ hl with h0 | ⟨t, h1, h2, h3⟩
     ·cases h0
     ·refine .inr ⟨t, h1, h2, ?_⟩
      obtain ⟨cs, k1, k2, k3⟩ := h3
      refine ⟨cs, k1, by simpa using k2, fun c u hu => ?_⟩
      rw [List.getElem?_set] at hu
      split at hu
      ·rename_i hci; subst hci
       split at hu
       ·rename_i hcl
        injection hu with hu; subst hu
        obtain ⟨u0, hu0⟩ : ∃ u0, l[i]? = some u0 := ⟨l[i], List.getElem?_eq_getElem hcl⟩
        obtain ⟨_, cu, m1, _⟩ := k3 i u0 hu0
        exact ⟨by simp, cu, m1, (At1.simple rfl).2 .undef⟩
       ·cases hu
      ·rename_i hci
       obtain ⟨m0, cu, m1, m2⟩ := k3 c u hu
       refine ⟨m0, cu, m1, m2.yb (Ext.refl _ _) (zB.refl _) (fun bl e' x' hg => ⟨rfl, hne bl _ _ _ hg (by simp; omega)⟩) (fun _ _ _ h => h)⟩
    ·rw [List.getElem?_set_ne hm] at hv
     rcases h.rs m v hv with h0 | ⟨t, h1, h2, h3⟩
     ·exact .inl h0
     ·exact .inr ⟨t, h1, h2, h3.yb (Ext.refl _ _) (zB.refl _) (fun bl c e' x' hg => ⟨rfl, hne bl _ _ _ hg (by simp; omega)⟩) (fun _ _ _ h => h)⟩ }
 ·unfold wO
  split
  ·rename_i hbl; subst hbl; rw [hb] at hg; cases hg
  ·exact hg
theorem ok_extract {x : Operand} {x' : Opd} {i : Nat} (ho : o.op = .extract x i) (hx : zp vm lm x x' = true) {v : LVal} (hs : sem C im impl σ (.extract x' i) = some (v, σ')) :
 yn P o a w (xk P vm lm ρ S G w a σ' v) := by
 have hrun : ∀ (cs : List Value) (cu : Value), a.eval x = .tuple ⟨cs⟩ → cs[i]? = some cu → (execOp a.eval o).run P w = .ok (.value cu) w := by
  intro cs cu h1 h2
  refine yi (s := Instr.extract (a.eval x) i) (by simp [execOp, ho]) ?_
  rw [h1]
  have : (⟨cs⟩ : Array Value)[i]? = some cu := by simpa using h2
  simp [Instr.extract, this]
 simp only [sem] at hs
 cases x' with
 | const c => simp at hs
 | loc j =>
  simp only [Option.bind_eq_some_iff] at hs
  obtain ⟨u, h1, h2⟩ := hs
  cases u with
  | tup l =>
   simp only [Option.bind_eq_some_iff] at h2
   obtain ⟨c, h3, h4⟩ := h2
   rcases h.rs j _ h1 with h0 | ⟨t, q1, q2, q3⟩
   ·cases h0
   ·have hev : a.eval x = a.tmps.getD t undef := by
     cases x <;> simp [zp] at hx
     rw [hx] at q1; injection q1 with q1; injection q1 with q1; subst q1; rfl
    obtain ⟨cs, k1, k2, k3⟩ := q3
    obtain ⟨m0, cu, m1, m2⟩ := k3 i c h3
    have hr := hrun cs cu (hev.trans k1) m1
    by_cases hown : c.zr = true
    ·obtain ⟨b, e, xo, n, xs, rfl⟩ := LVal.wT hown
     simp [LVal.zr] at h4
     obtain ⟨rfl, rfl⟩ := h4
     obtain ⟨hb0, b0, cap, cur, z1, z2, z3, z4, z5, z6, z7, z8, z9, z10⟩ := m2
     obtain ⟨r1, r2⟩ := h.takePart h1 z8
     refine .value hr (.of r1 ((At.nt (by simp)).2 ⟨hb0, b0, cap, cur, z1, z2, z3, z4, z5, z6, z7, by simp [wO], z9, z10⟩) r2)
    ·have hfin : (v, σ') = (c, σ) := by
      cases c <;> simp_all
     injection hfin with e1 e2; subst e1; subst e2
     have hsim : v.simple = true := by
      cases v with
      | vs b ow n xs =>
       cases ow with
       | own e x => simp [LVal.zr] at hown
       | pk p => exact m2.2.elim
       | _ => rfl
      | tup l' => exact (m0 l' rfl).elim
      | _ => rfl
     exact .value hr (.pure h hsim ((At1.simple hsim).1 m2))
  | _ => simp at h2
 | var k =>
  simp only [Option.bind_eq_some_iff] at hs
  obtain ⟨u, h1, h2⟩ := hs
  cases u with
  | tup l =>
   simp only [Option.bind_eq_some_iff] at h2
   obtain ⟨c, h3, h4⟩ := h2
   obtain ⟨t, q1, q2, q3⟩ := h.vars k _ h1
   have hev : a.eval x = a.tmps.getD t undef := by
    cases x <;> simp [zp] at hx
    rw [hx] at q1; injection q1 with q1; subst q1; rfl
   obtain ⟨cs, k1, k2, k3⟩ := q3
   obtain ⟨m0, cu, m1, m2⟩ := k3 i c h3
   have hr := hrun cs cu (hev.trans k1) m1
   have hno : c.zr = false := by
    cases hc : c.zr with
    | false => rfl
    | true => cases c <;> simp_all [LVal.zr]
   have hfin : (v, σ') = (c, σ) := by
    cases c <;> simp_all
   injection hfin with e1 e2; subst e1; subst e2
   have hsim : v.simple = true := by
    cases v with
    | vs b ow n xs =>
     cases ow with
     | own e x => simp [LVal.zr] at hno
     | pk p => exact m2.2.elim
     | _ => rfl
    | tup l' => exact (m0 l' rfl).elim
    | _ => rfl
   exact .value hr (.pure h hsim ((At1.simple hsim).1 m2))
  | _ => simp at h2
omit h in
theorem mms_ok {mx : Bool} : ∀ {l : List LVal} {cs : List Value} {x v : LVal} {xc : Value}, VL w S ρ l cs → V w S ρ x xc → (∃ k n, x = .int k n) → sN mx x l = some v →
 ∃ vc, (cs.foldlM (if mx then Builtin.max2 else Builtin.min2) xc).run P w = .ok vc w ∧ V w S ρ v vc ∧ ∃ k n, v = .int k n
 | [], _, x, v, xc, .nil, hx, hi, h => by
  simp [sN] at h; subst h
  exact ⟨xc, by simp, hx, hi⟩
 | y :: l, _, x, v, xc, .cons (c := yc) hy hl, hx, ⟨k, n, e⟩, h => by
  subst e
  simp only [sN, Option.bind_eq_some_iff] at h
  obtain ⟨z, hz, h2⟩ := h
  cases y <;> simp [mmL] at hz
  obtain ⟨rfl, rfl⟩ := hz
  have ex := hx.xP
  have ey := hy.xP
  subst ex; subst ey
  obtain ⟨vc, r1, r2, r3⟩ := mms_ok (xc := _) hl (.int _ _) ⟨_, _, rfl⟩ h2
  refine ⟨vc, ?_, r2, r3⟩
  rw [List.foldlM_cons]
  cases mx
  ·simpa [Builtin.min2] using r1
  ·simpa [Builtin.max2] using r1
omit h in
theorem jx (h : Rel P vm lm ρ S G σ a w) : ∀ {xs : List Operand} {ys : List Opd} {l : List LVal}, xR vm lm xs ys = true → σ.yt ys = some l → (∀ v ∈ l, v.simple = true) → VL w S ρ l (xs.map a.eval)
 | [], [], l, _, hp, _ => by simp [RS.yt] at hp; subst hp; exact .nil
 | [], _ :: _, _, hc, _, _ => by simp [xR] at hc
 | _ :: _, [], _, hc, _, _ => by simp [xR] at hc
 | x :: xs, y :: ys, l, hc, hp, hs => by
  simp only [xR, Bool.and_eq_true] at hc
  simp only [RS.yt, Option.bind_eq_some_iff, Option.map_eq_some_iff] at hp
  obtain ⟨v, hv, r, hr, rfl⟩ := hp
  exact .cons (h.zM hc.1 hv (hs v (List.mem_cons_self ..))) (jx h hc.2 hr (fun u hu => hs u (List.mem_cons_of_mem _ hu)))
omit h in
theorem mJ {mx : Bool} : ∀ {l : List LVal} {x v : LVal}, sN mx x l = some v → ∀ u ∈ l, u.simple = true
 | [], _, _, _, u, hu => by simp at hu
 | y :: l, x, v, h, u, hu => by
  simp only [sN, Option.bind_eq_some_iff] at h
  obtain ⟨z, hz, h2⟩ := h
  rcases List.mem_cons.1 hu with rfl | hu
  ·cases x <;> cases u <;> simp [mmL] at hz <;> rfl
  ·exact mJ h2 u hu
theorem ok_minmax {mx : Bool} {x : Operand} {xs : List Operand} {x' : Opd} {ys : List Opd} {args : Array Operand} {at_ : Array TypeId} (ho : o.op = .call ⟨.builtin (if mx then .max else .min), args, at_⟩) (hargs : args.toList = x :: xs)
 (hx : zp vm lm x x' = true) (hy : xR vm lm xs ys = true) {v : LVal} (hs : sem C im impl σ (.vg mx x' ys) = some (v, σ')) : yn P o a w (xk P vm lm ρ S G w a σ' v) := by
 simp only [sem, Option.bind_eq_some_iff] at hs
 obtain ⟨u, h1, l, h2, h3⟩ := hs
 cases u with
 | int k n =>
  simp only [Option.map_eq_some_iff] at h3
  obtain ⟨r, h3, e⟩ := h3
  injection e with e1 e2; subst e1; subst e2
  have hX := h.zM hx h1 rfl
  have hL := jx h hy h2 (mJ h3)
  obtain ⟨vc, r1, r2, k', n', r3⟩ := mms_ok (P := P) hL hX ⟨_, _, rfl⟩ h3
  obtain ⟨cs, hex⟩ := uD (a := a) ho
  have hmap : (args.map a.eval).toList = a.eval x :: xs.map a.eval := by simp [hargs]
  have hsim : r.simple = true := by rw [r3]; rfl
  cases mx with
  | true =>
   refine .value (yi (s := Builtin.max_ at_ o.type (args.map a.eval)) (by rw [hex]; rfl) ?_) (.pure h hsim r2)
   unfold Builtin.max_
   rw [hmap]
   exact r1
  | false =>
   refine .value (yi (s := Builtin.min_ at_ o.type (args.map a.eval)) (by rw [hex]; rfl) ?_) (.pure h hsim r2)
   unfold Builtin.min_
   rw [hmap]
   exact r1
 | _ => simp at h3
def vC (vm : List Nat) (lm : List (Option Nat)) : Option Operand → Option Opd → Bool
 | none, none => true
 | some x, some y => zp vm lm x y
 | _, _ => false
theorem Rel.tN {x : Option Operand} {x' : Option Opd} (hx : vC vm lm x x' = true) {v : Option LVal} (hp : σ.xe x' = some v) {d m n : Nat} (hb : bound v d m = some n) :
 (x = none ∧ x' = none ∧ v = none ∧ n = d) ∨ ∃ y y' k i, x = some y ∧ x' = some y' ∧ v = some (.int k i) ∧ a.eval y = .int k i ∧ 0 ≤ i ∧ i ≤ (m : Int) ∧ i.toNat = n := by
 cases x' with
 | none =>
  cases x with
  | some _ => simp [vC] at hx
  | none =>
   simp [RS.xe] at hp; subst hp
   simp [bound] at hb
   exact .inl ⟨rfl, rfl, rfl, hb.symm⟩
 | some y' =>
  cases x with
  | none => simp [vC] at hx
  | some y =>
   simp only [RS.xe, Option.map_eq_some_iff] at hp
   obtain ⟨u, hu, rfl⟩ := hp
   cases u <;> simp [bound] at hb
   rename_i k i
   exact .inr ⟨y, y', k, i, rfl, rfl, rfl, (h.zM (by simpa [vC] using hx) hu rfl).xP, hb.1.1, hb.1.2, hb.2⟩
omit h in
theorem sD {k : IntKind} {i : Int} {y : Nat} {code : BoundsCode} (h0 : 0 ≤ i) (h1 : i ≤ (y : Int)) : (Instr.sliceBound (.int k i) y code).run P w = .ok i.toNat w := by
 simp [Instr.sliceBound, asIntOf, h0, h1]
omit h in
theorem sG {isS : Bool} {len cap l h' m : Nat} {lo hi mx : Option Value} (hl : (lo = none ∧ l = 0) ∨ ∃ k i, lo = some (.int k i) ∧ 0 ≤ i ∧ i ≤ (h' : Int) ∧ i.toNat = l)
 (hh : (hi = none ∧ mx = none ∧ h' = len) ∨ ∃ k i, hi = some (.int k i) ∧ 0 ≤ i ∧ i ≤ (m : Int) ∧ i.toNat = h') (hm : (mx = none ∧ m = cap) ∨ ∃ k i, mx = some (.int k i) ∧ 0 ≤ i ∧ i ≤ (cap : Int) ∧ i.toNat = m) :
 (Instr.sliceBounds isS len cap lo hi mx).run P w = .ok (l, h', m) w := by
 unfold Instr.sliceBounds
 rcases hm with ⟨rfl, rfl⟩ | ⟨km, im, rfl, m1, m2, rfl⟩
 ·rcases hh with ⟨rfl, _, rfl⟩ | ⟨kh, ih, rfl, g1, g2, rfl⟩
  ·rcases hl with ⟨rfl, rfl⟩ | ⟨kl, il, rfl, l1, l2, rfl⟩
   ·simp
   ·simp only [Sem.run_bind, Sem.run_pure, Result.andThen_ok, sD l1 l2]
  ·rcases hl with ⟨rfl, rfl⟩ | ⟨kl, il, rfl, l1, l2, rfl⟩
   ·simp only [Sem.run_bind, Sem.run_pure, Result.andThen_ok, sD g1 g2]
   ·simp only [Sem.run_bind, Sem.run_pure, Result.andThen_ok, sD g1 g2, sD l1 l2]
 ·rcases hh with ⟨_, h0, _⟩ | ⟨kh, ih, rfl, g1, g2, rfl⟩
  ·cases h0
  ·rcases hl with ⟨rfl, rfl⟩ | ⟨kl, il, rfl, l1, l2, rfl⟩
   ·simp only [Sem.run_bind, Sem.run_pure, Result.andThen_ok, sD m1 m2, sD g1 g2]
   ·simp only [Sem.run_bind, Sem.run_pure, Result.andThen_ok, sD m1 m2, sD g1 g2, sD l1 l2]
omit h in
theorem pZ (s : List UInt8) (l h' : Nat) : (⟨⟨s⟩⟩ : ByteArray).extract l h' = ⟨⟨(s.take h').drop l⟩⟩ := by
 apply ByteArray.ext
 rw [ByteArray.data_extract]
 apply Array.ext'
 simp [List.drop_take]
theorem ok_sliceStr {t : TypeId} {x : Operand} {x' : Opd} {lo hi : Option Operand} {lo' hi' : Option Opd} (ho : o.op = .slice t x lo hi none) (ht : P.underlying t = some .string) (hx : zp vm lm x x' = true)
 (hlo : vC vm lm lo lo' = true) (hhi : vC vm lm hi hi' = true) {v : LVal} (hs : sem C im impl σ (.tD x' lo' hi') = some (v, σ')) : yn P o a w (xk P vm lm ρ S G w a σ' v) := by
 simp only [sem, Option.bind_eq_some_iff] at hs
 obtain ⟨u, h1, vlo, h2, vhi, h3, h4⟩ := hs
 cases u with
 | str s =>
  simp only [Option.bind_eq_some_iff, Option.map_eq_some_iff] at h4
  obtain ⟨hh, h5, l, h6, e⟩ := h4
  injection e with e1 e2; subst e1; subst e2
  have ex := (h.zM hx h1 rfl).vK
  refine .value (yi (s := Instr.sliceAt t (a.eval x) (lo.map a.eval) (hi.map a.eval) none) (by simp [execOp, ho]) (cv := .string ⟨⟨(s.take hh).drop l⟩⟩) (w' := w) ?_) (.pure h rfl (.str _))
  rw [run_sliceAt_string w t _ _ _ _ ht, ex]
  have hb := sG (P := P) (w := w) (isS := false) (len := s.length) (cap := s.length) (l := l) (h' := hh) (m := s.length) (lo := lo.map a.eval) (hi := hi.map a.eval) (mx := none)
   (by rcases h.tN hlo h2 h6 with ⟨rfl, _, _, rfl⟩ | ⟨y, y', k, i, rfl, _, _, q1, q2, q3, q4⟩
       ·exact .inl ⟨rfl, rfl⟩
       ·exact .inr ⟨k, i, by simp [q1], q2, q3, q4⟩)
   (by rcases h.tN hhi h3 h5 with ⟨rfl, _, _, rfl⟩ | ⟨y, y', k, i, rfl, _, _, q1, q2, q3, q4⟩
       ·exact .inl ⟨rfl, rfl, rfl⟩
       ·exact .inr ⟨k, i, by simp [q1], q2, q3, q4⟩)
   (.inl ⟨rfl, rfl⟩)
  unfold Instr.slice
  have hsz : (⟨⟨s⟩⟩ : ByteArray).size = s.length := rfl
  simp only [Sem.run_bind, run_underlying ht, Result.andThen_ok, Option.isSome_none, Bool.false_eq_true, if_false, hsz, hb, Sem.run_pure, pZ]
 | _ => simp at h4
theorem ok_s2ap {t e : TypeId} {n : Nat} {x : Operand} {x' : Opd} (ho : o.op = .sliceToArrayPointer t x) (ht : P.underlying t = some (.array n e)) (hsz : (P.info? e).map (·.size) = some 1) (hx : zp vm lm x x' = true) {v : LVal}
 (hs : sem C im impl σ (.kS n x') = some (v, σ')) : yn P o a w (xk P vm lm ρ S G w a σ' v) := by
 simp only [sem, Option.bind_eq_some_iff] at hs
 obtain ⟨r, h1, h2⟩ := hs
 obtain ⟨S', G', k1, hV, k3, k4⟩ := h.take hx (u := r.1) (σ' := r.2) h1
 split at h2
 ·rename_i ow m xs hr
  split at h2
  ·rename_i hn
   injection h2 with h2; injection h2 with e1 e2; subst e1; subst e2
   rw [hr] at hV k3
   generalize hc : a.eval x = cx at hV
   cases hV with
   | vz => simp at hn; omega
   | vs q1 q2 q3 q4 q5 =>
    replace hn := hn.2
    refine .value (yi (s := Instr.arrayAt t (a.eval x)) (by simp [execOp, ho]) (by rw [hc]; exact run_arrayAt w t e n _ _ _ ht hn)) (.simple k1 rfl (.ref ?_) k4)
    have hsub := q5.sub 0 (n * m)
    have hfl : (((xs.flatMap LVal.cells).drop 0).take (n * m)) = (xs.take n).flatMap LVal.cells := by
     rw [List.drop_zero]
     conv => lhs; rw [← List.take_append_drop n xs, List.flatMap_append]
     have hlen : ((xs.take n).flatMap LVal.cells).length = n * m := by
      rw [yY (n := m) (fun y hy => q4 y (List.mem_of_mem_take hy)), List.length_take, Nat.min_eq_left hn]
     rw [← hlen, List.take_left']
     rfl
    rw [hfl, Nat.add_zero] at hsub
    exact hsub
  ·cases h2
 ·cases h2
theorem ok_sliceVs {t e : TypeId} {esz : Nat} {x : Operand} {x' : Opd} {lo hi mx : Option Operand} {lo' hi' mx' : Option Opd} (ho : o.op = .slice t x lo hi mx) (ht : P.underlying t = some (.slice e))
 (he : (P.info? e).map (·.size) = some esz) (hx : zp vm lm x x' = true) (hmh : mx'.isSome = true → hi'.isSome = true)
 (hlo : vC vm lm lo lo' = true) (hhi : vC vm lm hi hi' = true) (hmx : vC vm lm mx mx' = true) {v : LVal} (hs : sem C im impl σ (.xf esz x' lo' hi' mx') = some (v, σ')) :
 yn P o a w (xk P vm lm ρ S G w a σ' v) := by
 simp only [sem, Option.bind_eq_some_iff] at hs
 obtain ⟨vlo, h2, vhi, h3, vmx, h4, u, h1, h5⟩ := hs
 simp only [Option.map_eq_some_iff] at he
 obtain ⟨inf, t3, t4⟩ := he
 have hel : P.elem t = e := by simp [Program.elem, ht]
 have hrun : ∀ (ao : Option Addr) (len cap l hh m : Nat), a.eval x = .slice ao len cap → (Instr.sliceBounds true len cap (lo.map a.eval) (hi.map a.eval) (mx.map a.eval)).run P w = .ok (l, hh, m) w →
  (execOp a.eval o).run P w = .ok (.value (.slice (if m = l then ao else ao.map (·.add (l * esz))) (hh - l) (m - l))) w := by
  intro ao len cap l hh m ex hb
  refine yi (s := Instr.sliceAt t (a.eval x) (lo.map a.eval) (hi.map a.eval) (mx.map a.eval)) (by simp [execOp, ho]) ?_
  rw [run_sliceAt_slice w t _ _ _ _ (by rw [hel]; exact ht), ex]
  unfold Instr.slice
  simp only [Sem.run_bind, run_underlying ht, Result.andThen_ok, hb, xS t3, t4, Sem.run_pure]
 have general : ∀ (r : LVal × RS), σ.take x' = some r → (match r.1 with
        | .vs b o n xs => if n = esz ∨ b = true then (bound vmx xs.length xs.length).bind fun m => (bound vhi xs.length m).bind fun h => (bound vlo 0 h).map fun lo =>
         (LVal.vs b (if vmx.isSome then (if m = h then .full else .sh) else if o = .full ∧ h = xs.length then .full else .sh) n ((xs.take h).drop lo), r.2) else none
        | _ => none) = some (v, σ') → yn P o a w (xk P vm lm ρ S G w a σ' v) := by
  intro r h1 h5
  obtain ⟨S', G', k1, hV, k3, k4⟩ := h.take hx (u := r.1) (σ' := r.2) h1
  split at h5
  ·rename_i b ow n xs hr
   rw [hr] at hV k3
   split at h5
   ·rename_i hn
    simp only [Option.bind_eq_some_iff, Option.map_eq_some_iff] at h5
    obtain ⟨m, b1, hh, b2, l, b3, e'⟩ := h5
    injection e' with e1 e2; subst e1; subst e2
    have B1 := h.tN hmx h4 b1
    have B2 := h.tN hhi h3 b2
    have B3 := h.tN hlo h2 b3
    have hlh : l ≤ hh := by rcases B3 with ⟨_, _, _, rfl⟩ | ⟨y, y', k, i, _, _, _, _, q2, q3, q4⟩ <;> omega
    have hhm : hh ≤ m ∧ m ≤ xs.length := by
     constructor
     ·rcases B2 with ⟨hhi0, hhi1, _, rfl⟩ | ⟨y, y', k, i, _, _, _, _, q2, q3, q4⟩
      ·rcases B1 with ⟨_, _, _, rfl⟩ | ⟨y, y', k, i, _, hmx1, _⟩
       ·exact Nat.le_refl _
       ·rw [hmx1, hhi1] at hmh; simp at hmh
      ·omega
     ·rcases B1 with ⟨_, _, _, rfl⟩ | ⟨y, y', k, i, _, _, _, _, q2, q3, q4⟩ <;> omega
    have hbnd : ∀ cap, xs.length ≤ cap → ∃ mm, (Instr.sliceBounds true xs.length cap (lo.map a.eval) (hi.map a.eval) (mx.map a.eval)).run P w = .ok (l, hh, mm) w ∧ ((mx' = none ∧ vmx = none ∧ mm = cap) ∨ (vmx.isSome = true ∧ mm = m)) ∧ hh ≤ mm ∧ mm ≤ cap := by
     intro cap hcap
     have L : ((lo.map a.eval) = none ∧ l = 0) ∨ ∃ k i, (lo.map a.eval) = some (.int k i) ∧ 0 ≤ i ∧ i ≤ (hh : Int) ∧ i.toNat = l := by
      rcases B3 with ⟨rfl, _, _, rfl⟩ | ⟨y, y', k, i, rfl, _, _, q1, q2, q3, q4⟩
      ·exact .inl ⟨rfl, rfl⟩
      ·exact .inr ⟨k, i, by simp [q1], q2, q3, q4⟩
     rcases B1 with ⟨rfl, hmx1, hv1, rfl⟩ | ⟨y, y', k, i, rfl, hmx1, hv1, q1, q2, q3, q4⟩
     ·refine ⟨cap, sG L ?_ (.inl ⟨rfl, rfl⟩), .inl ⟨hmx1, hv1, rfl⟩, by omega, Nat.le_refl _⟩
      rcases B2 with ⟨rfl, _, _, rfl⟩ | ⟨y, y', k, i, rfl, _, _, q1, q2, q3, q4⟩
      ·exact .inl ⟨rfl, rfl, rfl⟩
      ·exact .inr ⟨k, i, by simp [q1], q2, by omega, q4⟩
     ·refine ⟨m, sG L ?_ (.inr ⟨k, i, by simp [q1], q2, by omega, q4⟩), .inr ⟨by rw [hv1]; rfl, rfl⟩, hhm.1, by omega⟩
      rcases B2 with ⟨rfl, hhi1, _, rfl⟩ | ⟨y2, y2', k2, i2, rfl, _, _, p1, p2, p3, p4⟩
      ·rw [hmx1, hhi1] at hmh; simp at hmh
      ·exact .inr ⟨k2, i2, by simp [p1], p2, p3, p4⟩
    generalize hc : a.eval x = cx at hV
    cases hV with
    | oF =>
     obtain ⟨mm, g1, g2, g3, g4⟩ := hbnd 0 (Nat.le_refl _)
     have : hh = 0 ∧ l = 0 := by simp at hhm; omega
     obtain ⟨rfl, rfl⟩ := this
     have hmm : mm = 0 := by omega
     subst hmm
     refine .value (hrun none 0 0 0 0 0 hc g1) (.simple k1 ?_ ?_ k4)
     ·split <;> (split <;> rfl)
     ·exact .oF
    | vz =>
     obtain ⟨mm, g1, g2, g3, g4⟩ := hbnd 0 (Nat.le_refl _)
     have : hh = 0 ∧ l = 0 := by simp at hhm; omega
     obtain ⟨rfl, rfl⟩ := this
     have hmm : mm = 0 := by omega
     subst hmm
     refine .value (hrun _ 0 0 0 0 0 hc g1) (.simple k1 ?_ ?_ k4)
     ·split <;> (split <;> rfl)
     ·exact .vz
    | vs q1 q2 q3 q4 q5 =>
     rename_i bl off cap
     obtain ⟨mm, g1, g2, g3, g4⟩ := hbnd cap q1
     have hn' : n = esz := by simpa using hn
     subst hn'
     refine .value (hrun _ _ _ _ _ _ hc g1) (.simple k1 ?_ ?_ k4)
     ·split <;> (split <;> rfl)
     ·have hlen : ((xs.take hh).drop l).length = hh - l := by simp; omega
      have hown : ∀ (ow' : Own), ow' = (if vmx.isSome then (if m = hh then .full else .sh) else if ow = .full ∧ hh = xs.length then .full else .sh) → ow' = .full → mm - l = ((xs.take hh).drop l).length := by
       intro ow' e1 e2
       rw [e1] at e2
       rcases g2 with ⟨_, hv0, rfl⟩ | ⟨hv0, rfl⟩
       ·rw [hv0] at e2
        simp at e2
        have := q3 e2.1
        omega
       ·rw [hv0] at e2
        simp at e2
        clear B1 B2 B3
        omega
      have hun : ∀ y ∈ (xs.take hh).drop l, y.cells.length = n := fun y hy => q4 y (List.mem_of_mem_take (List.mem_of_mem_drop hy))
      by_cases hml : mm = l
      ·rw [if_pos hml]
       have hnil : (xs.take hh).drop l = [] := List.eq_nil_of_length_eq_zero (by omega)
       rw [hnil] at hown ⊢
       have e0 : hh - l = ([] : List LVal).length := by simp; omega
       rw [e0]
       exact .vs (by simp) (by omega) (hown _ rfl) (by simp) .nil
      ·rw [if_neg hml]
       have hrow := q5.sub (l * n) ((hh - l) * n)
       have hfl : ((xs.flatMap LVal.cells).drop (l * n)).take ((hh - l) * n) = ((xs.take hh).drop l).flatMap LVal.cells := by
        have e1 : xs = xs.take l ++ ((xs.take hh).drop l ++ xs.drop hh) := by
         have : xs.drop hh = (xs.drop l).drop (hh - l) := by rw [List.drop_drop]; congr 1; omega
         rw [this, List.drop_take, List.take_append_drop, List.take_append_drop]
        conv => lhs; rw [e1]
        rw [List.flatMap_append, List.flatMap_append]
        have hl1 : ((xs.take l).flatMap LVal.cells).length = l * n := by
         rw [yY (n := n) (fun y hy => q4 y (List.mem_of_mem_take hy)), List.length_take, Nat.min_eq_left (by omega)]
        have hl2 : (((xs.take hh).drop l).flatMap LVal.cells).length = (hh - l) * n := by
         rw [yY (n := n) hun, hlen]
        rw [← hl1, List.drop_left', ← hl2, List.take_left'] <;> rfl
       rw [hfl] at hrow
       have := V.vs (w := w) (S := S') (ρ := ρ) (o := if vmx.isSome then (if m = hh then .full else .sh) else if ow = .full ∧ hh = xs.length then .full else .sh) (n := n) (xs := (xs.take hh).drop l) (b := bl) (off := off + l * n) (cap := mm - l)
        (by rw [hlen]; exact Nat.sub_le_sub_right g3 l) (Nat.le_trans (Nat.sub_le _ _) (Nat.le_trans g4 q2)) (hown _ rfl) hun hrow
       rw [hlen] at this
       simpa [vY] using this
   ·cases h5
  ·cases h5
 cases u with
 | ms id off len e' agg =>
  dsimp only at h5
  split at h5
  ·rename_i hc
   obtain ⟨hc1, hc2⟩ := hc
   subst hc1
   simp only [Option.bind_eq_some_iff, Option.map_eq_some_iff] at h5
   obtain ⟨hh, b2, l, b3, ee⟩ := h5
   injection ee with e1 e2; subst e1; subst e2
   obtain ⟨bl, cap, hb, hcap, hmaxl, ex⟩ := (h.zM hx h1 rfl).pK
   have B2 := h.tN hhi h3 b2
   have B3 := h.tN hlo h2 b3
   have hmx0 : mx = none := by
    cases mx' with
    | none => cases mx with
     | none => rfl
     | some _ => simp [vC] at hmx
    | some y =>
     simp only [RS.xe, Option.map_eq_some_iff] at h4
     obtain ⟨_, _, rfl⟩ := h4
     simp at hc2
   subst hmx0
   have hlh : l ≤ hh := by rcases B3 with ⟨_, _, _, rfl⟩ | ⟨y, y', k, i, _, _, _, _, q2, q3, q4⟩ <;> omega
   have hhl : hh ≤ len := by rcases B2 with ⟨_, _, _, rfl⟩ | ⟨y, y', k, i, _, _, _, _, q2, q3, q4⟩ <;> omega
   have hb := sG (P := P) (w := w) (isS := true) (len := len) (cap := cap) (l := l) (h' := hh) (m := cap) (lo := lo.map a.eval) (hi := hi.map a.eval) (mx := none)
    (by rcases B3 with ⟨rfl, _, _, rfl⟩ | ⟨y, y', k, i, rfl, _, _, q1, q2, q3, q4⟩
        ·exact .inl ⟨rfl, rfl⟩
        ·exact .inr ⟨k, i, by simp [q1], q2, q3, q4⟩)
    (by rcases B2 with ⟨rfl, _, _, rfl⟩ | ⟨y, y', k, i, rfl, _, _, q1, q2, q3, q4⟩
        ·exact .inl ⟨rfl, rfl, rfl⟩
        ·exact .inr ⟨k, i, by simp [q1], q2, by omega, q4⟩)
    (.inl ⟨rfl, rfl⟩)
   refine .value (hrun _ _ _ _ _ _ ex hb) ?_
   by_cases hcase : l = 0 ∨ l < hh
   ·rw [if_pos hcase]
    refine .pure h rfl ?_
    have : (if cap = l then some (⟨bl, off, none⟩ : Addr) else (some (⟨bl, off, none⟩ : Addr)).map (·.add (l * e'))) = some ⟨bl, off + l * e', none⟩ := by
     by_cases hcl : cap = l
     ·have hl0 : l = 0 := by omega
      subst hl0
      rw [if_pos hcl]; simp
     ·rw [if_neg hcl]; simp [vY]
    rw [this]
    exact .ms ‹ρ[id]? = some bl› (by omega) (by omega)
   ·rw [if_neg hcase]
    have hnil : hh - l = ([] : List LVal).length := by simp; omega
    rw [hnil]
    refine .pure h rfl ?_
    by_cases hcl : cap = l
    ·rw [if_pos hcl]
     exact .vs (by simp) (by omega) (by simp) (by simp) .nil
    ·rw [if_neg hcl]
     simp only [Option.map_some, vY]
     exact .vs (by simp) (by omega) (by simp) (by simp) .nil
  ·cases h5
 | _ =>
  simp only [Option.bind_eq_some_iff] at h5
  obtain ⟨r, h6, h7⟩ := h5
  exact general r h6 h7
def rW (P : Program) (t : TypeId) (v : LVal) : Bool :=
 match (P.info? t).bind (·.zero) with
 | some z => wL z v && v.simple
 | none => false
omit h in
theorem qm {t : TypeId} {v : LVal} (hz : rW P t v = true) : ∃ i z, P.info? t = some i ∧ i.zero = some z ∧ wL z v = true ∧ v.simple = true := by
 unfold rW at hz
 cases hi : P.info? t with
 | none => simp [hi] at hz
 | some i =>
  cases hzz : i.zero with
  | none => simp [hi, hzz] at hz
  | some z =>
   simp only [hi, Option.bind_some, hzz, Bool.and_eq_true] at hz
   exact ⟨i, z, rfl, hzz, hz.1, hz.2⟩
omit h in
theorem At.pair {pk : Loc → Nat → List LVal → Value → Prop} {b : qn} {v : LVal} {cv : Value} {t : Bool} (hs : v.simple = true) (hV : V w S ρ v cv) : At P w S G ρ pk b (.tup [v, .bool t]) (.tuple #[cv, .bool t]) := by
 refine ⟨[cv, .bool t], rfl, rfl, fun c u hu => ?_⟩
 match c, hu with
 | 0, hu => simp at hu; subst hu; exact ⟨fun l e => by subst e; simp [LVal.simple] at hs, cv, rfl, (At1.simple hs).2 hV⟩
 | 1, hu => simp at hu; subst hu; exact ⟨by simp, _, rfl, (At1.simple rfl).2 (.bool _)⟩
 | c + 2, hu => simp at hu
theorem ok_tassert {t xt : TypeId} {zero : LVal} {x : Operand} {x' : Opd} {ok : Bool} {d : TypeDesc} (ho : o.op = .typeAssert x xt t ok) (ht : P.underlying t = some d) (hd : ∀ ms, d ≠ .interface ms)
 (hz : rW P t zero = true) (hx : zp vm lm x x' = true) {v : LVal} (hs : sem C im impl σ (.tR t zero x' ok) = some (v, σ')) : yn P o a w (xk P vm lm ρ S G w a σ' v) := by
 simp only [sem, Option.bind_eq_some_iff] at hs
 obtain ⟨u, h1, h2⟩ := hs
 obtain ⟨i, z, z1, z2, z3, z4⟩ := qm hz
 have hZ : V w S ρ zero z := wL.V ρ z3
 cases u with
 | yX =>
  dsimp only at h2
  split at h2
  ·rename_i hok
   injection h2 with h2; injection h2 with e1 e2; subst e1; subst e2
   have ex := (h.zM hx h1 rfl).qZ
   refine .value (yi (s := Instr.typeAssert (a.eval x) xt t ok) (by simp [execOp, ho]) (cv := .tuple #[z, .bool false]) (w' := w) ?_) (.of h (At.pair z4 hZ) (Pr.refl ..))
   rw [ex, hok]
   unfold Instr.typeAssert
   simp only [Sem.run_bind, run_underlying ht, Result.andThen_ok]
   cases d <;> first | exact absurd rfl (hd _) | simp [x9 z1 z2]
  ·cases h2
 | iface t' y =>
  dsimp only at h2
  obtain ⟨yv, hy, hyp, ex⟩ := (h.zM hx h1 rfl).pO
  have hysim : y.simple = true := by
   rcases hyp with hp | hp
   ·exact LVal.zO hp
   ·exact LVal.qk hp
  split at h2
  ·rename_i htt
   subst htt
   injection h2 with h2; injection h2 with e1 e2; subst e1; subst e2
   have hrun : (Instr.typeAssert (a.eval x) xt t' ok).run P w = .ok (if ok then .tuple #[yv, .bool true] else yv) w := by
    rw [ex]
    unfold Instr.typeAssert
    simp only [Sem.run_bind, run_underlying ht, Result.andThen_ok]
    cases d <;> first | exact absurd rfl (hd _) | simp
   refine .value (yi (s := Instr.typeAssert (a.eval x) xt t' ok) (by simp [execOp, ho]) hrun) ?_
   cases ok with
   | true => exact .of h (At.pair hysim hy) (Pr.refl ..)
   | false => exact .pure h hysim hy
  ·rename_i htt
   split at h2
   ·rename_i hok
    injection h2 with h2; injection h2 with e1 e2; subst e1; subst e2
    refine .value (yi (s := Instr.typeAssert (a.eval x) xt t ok) (by simp [execOp, ho]) (cv := .tuple #[z, .bool false]) (w' := w) ?_) (.of h (At.pair z4 hZ) (Pr.refl ..))
    rw [ex, hok]
    unfold Instr.typeAssert
    simp only [Sem.run_bind, run_underlying ht, Result.andThen_ok]
    cases d <;> first | exact absurd rfl (hd _) | simp [htt, x9 z1 z2]
   ·cases h2
 | _ => simp at h2
theorem ok_tassertI {t xt : TypeId} {x : Operand} {x' : Opd} (himpl : ∀ t t', impl t t' = true → ∃ want i, P.underlying t = some (.interface want) ∧ P.info? t' = some i ∧ Instr.missingMethod want i.methods = none)
 (ho : o.op = .typeAssert x xt t false) (hx : zp vm lm x x' = true) {v : LVal} (hs : sem C im impl σ (.u9 t x') = some (v, σ')) : yn P o a w (xk P vm lm ρ S G w a σ' v) := by
 simp only [sem, Option.bind_eq_some_iff] at hs
 obtain ⟨u, h1, h2⟩ := hs
 cases u with
 | iface t' y =>
  dsimp only at h2
  split at h2
  ·rename_i hi
   injection h2 with h2; injection h2 with e1 e2; subst e1; subst e2
   obtain ⟨want, i, q1, q2, q3⟩ := himpl _ _ hi
   have hV := h.zM hx h1 rfl
   obtain ⟨yv, hy, hyp, ex⟩ := hV.pO
   refine .value (yi (s := Instr.typeAssert (a.eval x) xt t false) (by simp [execOp, ho]) (cv := .iface t' yv) (w' := w) ?_) (.pure h rfl (.iface hy hyp))
   rw [ex]
   unfold Instr.typeAssert
   simp [run_underlying q1, run_typeInfo w q2, q3]
  ·cases h2
 | _ => simp at h2
end
end Go.L
namespace Go.L
open Go
variable {P : Program} {vm : List Nat} {lm : List (Option Nat)} {ρ ρ' : List Nat} {S S' : Nat → Nat → Prop} {G G' : Nat → Cl} {σ σ' : RS} {a : Act} {w w' : World}
variable {C : xV} {im : TypeId → String → Option FuncId} {impl : TypeId → TypeId → Bool}
def vA : tt → TypeDesc
 | .b => .bool
 | .i k => .int k
 | .s => .string
theorem qh {kd : tt} {k : LVal} {c : Value} (hk : xh kd k = true) (hV : V w S ρ k c) : MapKept.IsKey (vA kd) c := by
 cases kd <;> cases k <;> simp [xh] at hk
 ·rw [hV.vn]; trivial
 ·rw [hV.xP]; exact hk
 ·rw [hV.vK]; trivial
theorem rB {kd : tt} {k : LVal} (hk : xh kd k = true) : sl k = true := by
 cases kd <;> cases k <;> simp [xh] at hk <;> rfl
theorem rA {kd : tt} {k : LVal} (hk : xh kd k = true) : k.simple = true := by
 cases kd <;> cases k <;> simp [xh] at hk <;> rfl
theorem om {kd : tt} {k : LVal} {c : Value} (hk : xh kd k = true) (hV : V w S ρ k c) : V w S [] k c := by
 cases kd <;> cases k <;> simp [xh] at hk
 ·rw [hV.vn]; exact .bool _
 ·rw [hV.xP]; exact .int _ _
 ·rw [hV.vK]; exact .str _
theorem mN {kd : tt} {k k' : LVal} {c c' : Value} (hk : xh kd k = true) (hV : V w S ρ k c) (hV' : V w S [] k' c') {b : Bool} (h : qg k k' = some b) :
 Instr.sameNow (vA kd) c c' = some b ∧ (b = true ↔ c = c') := by
 cases kd <;> cases k <;> simp [xh] at hk <;> cases k' <;> simp [qg] at h
 ·rw [hV.vn, hV'.vn]; subst h; simp [Instr.sameNow, vA]
 ·obtain ⟨h1, h2⟩ := h
  rw [hV.xP, hV'.xP]; subst h2; subst h1; simp [Instr.sameNow, vA]
 ·rw [hV.vK, hV'.vK]
  subst h
  rename_i x y
  have e : ((⟨⟨x⟩⟩ : ByteArray) == ⟨⟨y⟩⟩) = (x == y) := by
   rw [Bool.eq_iff_iff, MapKept.bytes_beq]
   simp
  exact ⟨by simp [Instr.sameNow, vA, e], by simp⟩
def sZ (w : World) (S : Nat → Nat → Prop) (ρ : List Nat) (es : List (LVal × LVal)) (ces : List MapEntry) : Prop :=
 ces.length = es.length ∧ ∀ (i : Nat) (e : LVal × LVal), es[i]? = some e → ∃ ce : MapEntry, ces[i]? = some ce ∧ V w S [] e.1 ce.key ∧ sl e.1 = true ∧ V w S ρ e.2 ce.val ∧ (e.2.plain = true ∨ e.2.isAgg = true)
theorem sZ.cons {e : LVal × LVal} {es : List (LVal × LVal)} {ce : MapEntry} {ces : List MapEntry} (h : sZ w S ρ (e :: es) (ce :: ces)) :
 V w S [] e.1 ce.key ∧ sl e.1 = true ∧ V w S ρ e.2 ce.val ∧ (e.2.plain = true ∨ e.2.isAgg = true) ∧ sZ w S ρ es ces := by
 obtain ⟨ce', h1, h2⟩ := h.2 0 e rfl
 simp at h1; subst h1
 exact ⟨h2.1, h2.2.1, h2.2.2.1, h2.2.2.2, by simpa using h.1, fun i e' he => by simpa using h.2 (i + 1) e' (by simpa using he)⟩
theorem sZ.oJ {e : LVal × LVal} {es : List (LVal × LVal)} {ce : MapEntry} {ces : List MapEntry} (h : sZ w S ρ es ces) (h1 : V w S [] e.1 ce.key) (h2 : sl e.1 = true) (h3 : V w S ρ e.2 ce.val) (h4 : e.2.plain = true ∨ e.2.isAgg = true) :
 sZ w S ρ (e :: es) (ce :: ces) :=
 ⟨by simp [h.1], fun i e' he => by
  cases i with
  | zero => simp at he; subst he; exact ⟨ce, rfl, h1, h2, h3, h4⟩
  | succ i => simpa using h.2 i e' (by simpa using he)⟩
theorem find_ok {kd : tt} {k : LVal} {c : Value} (hk : xh kd k = true) (hV : V w S ρ k c) : ∀ {es : List (LVal × LVal)} {ces : List MapEntry} (i : Nat) {r : Option LVal}, sZ w S ρ es ces → rK k es = some r →
 (r = none ∧ Instr.findNow (vA kd) c ces i = some none) ∨ ∃ v j cv, r = some v ∧ Instr.findNow (vA kd) c ces i = some (some (j, cv)) ∧ V w S ρ v cv ∧ (v.plain = true ∨ v.isAgg = true)
 | [], [], i, r, _, h => by simp [rK] at h; exact .inl ⟨h.symm, rfl⟩
 | [], _ :: _, _, _, he, _ => by have := he.1; simp at this
 | _ :: _, [], _, _, he, _ => by have := he.1; simp at this
 | (k', v) :: es, ce :: ces, i, r, he, h => by
  obtain ⟨h1, h2, h3, h4, h5⟩ := he.cons
  simp only [rK, Option.bind_eq_some_iff] at h
  obtain ⟨b, hb, h6⟩ := h
  obtain ⟨q1, q2⟩ := mN hk hV h1 hb
  cases b with
  | true =>
   simp at h6; subst h6
   exact .inr ⟨v, i, ce.val, rfl, by simp [Instr.findNow, q1], h3, h4⟩
  | false =>
   have := find_ok hk hV (i + 1) h5 (by simpa using h6)
   simpa [Instr.findNow, q1] using this
theorem put_ok {kd : tt} {k v : LVal} {c cv : Value} (hk : xh kd k = true) (hV : V w S ρ k c) (hv : V w S ρ v cv) (hvp : v.plain = true ∨ v.isAgg = true) (clock : Nat) :
 ∀ {es es' : List (LVal × LVal)} {ces : List MapEntry} (i : Nat), sZ w S ρ es ces → lG k v es = some es' →
 ((∀ y ∈ ces, y.key ≠ c) ∧ Instr.findNow (vA kd) c ces i = some none ∧ sZ w S ρ es' (ces ++ [{ key := c, val := cv, born := clock }])) ∨
  ∃ j v0 e0, Instr.findNow (vA kd) c ces i = some (some (i + j, v0)) ∧ ces[j]? = some e0 ∧ e0.key = c ∧ sZ w S ρ es' (ces.modify j fun e : MapEntry => { e with key := c, val := cv })
 | [], es', [], i, _, h => by
  simp [lG] at h; subst h
  exact .inl ⟨by simp, rfl, sZ.oJ (e := (k, v)) ⟨rfl, fun _ _ h => by simp at h⟩ (om hk hV) (rB hk) hv hvp⟩
 | [], _, _ :: _, _, he, _ => by have := he.1; simp at this
 | _ :: _, _, [], _, he, _ => by have := he.1; simp at this
 | (k', u) :: es, es', ce :: ces, i, he, h => by
  obtain ⟨h1, h2, h3, h4, h5⟩ := he.cons
  simp only [lG, Option.bind_eq_some_iff] at h
  obtain ⟨b, hb, h6⟩ := h
  obtain ⟨q1, q2⟩ := mN hk hV h1 hb
  cases b with
  | true =>
   simp at h6; subst h6
   refine .inr ⟨0, ce.val, ce, by simp [Instr.findNow, q1], rfl, (q2.1 rfl).symm, ?_⟩
   exact sZ.oJ (e := (k, v)) h5 (om hk hV) (rB hk) hv hvp
  | false =>
   simp only [Bool.false_eq_true, if_false, Option.map_eq_some_iff] at h6
   obtain ⟨es1, h7, rfl⟩ := h6
   rcases put_ok hk hV hv hvp clock (i + 1) h5 h7 with ⟨m0, m1, m2⟩ | ⟨j, v0, e0, m1, m2, m3, m4⟩
   ·refine .inl ⟨fun y hy => ?_, by simp [Instr.findNow, q1, m1], sZ.oJ m2 h1 h2 h3 h4⟩
    rcases List.mem_cons.1 hy with rfl | hy
    ·intro e; have := q2.2 e.symm; cases this
    ·exact m0 y hy
   ·refine .inr ⟨j + 1, v0, e0, by simp [Instr.findNow, q1, m1]; omega, by simpa using m2, m3, ?_⟩
    rw [List.modify_succ_cons]
    exact sZ.oJ m4 h1 h2 h3 h4
theorem sZ.of_obj {id : Nat} {es : List (LVal × LVal)} (h : ti P w S G ρ id (.map es)) : ∃ b ces clock, ρ[id]? = some b ∧ w.heap[b]? = some (.map ces clock) ∧ G b = .box id ∧ MapKept.Stamped ces clock ∧ sZ w S ρ es ces.toList := by
 obtain ⟨b, ces, clock, h1, h2, h3, h4, h5, h6⟩ := h
 exact ⟨b, ces, clock, h1, h2, h3, h5, by simpa using h4, fun i e he => by simpa using h6 i e he⟩
section
variable (h : Rel P vm lm ρ S G σ a w) {o : Oper}
include h
theorem Rel.setMap {id b : Nat} {es es' : List (LVal × LVal)} {ces ces' : Array MapEntry} {clock clock' : Nat} (hst : σ.st[id]? = some (.map es)) (hb : ρ[id]? = some b)
 (hh : w.heap[b]? = some (.map ces clock)) (hg : G b = .box id) (hs : MapKept.Stamped ces' clock') (hn : sZ w S ρ es' ces'.toList) :
 Rel P vm lm ρ S G { σ with st := σ.st.set id (.map es') } a { w with heap := w.heap.setIfInBounds b (.map ces' clock') } ∧ Pr w S G ρ { w with heap := w.heap.setIfInBounds b (.map ces' clock') } S G ρ := by
 obtain ⟨s1, s2⟩ := MapKept.heap_set (w := w) (o' := .map ces' clock') hh
 generalize hw : ({ w with heap := w.heap.setIfInBounds b (.map ces' clock') } : World) = w1
 have hheap : w1.heap = w.heap.setIfInBounds b (.map ces' clock') := by rw [← hw]
 have hat : w1.heap[b]? = some (.map ces' clock') := by rw [hheap]; exact s1
 have hother : ∀ b', b' ≠ b → w1.heap[b']? = w.heap[b']? := fun b' hne => by rw [hheap]; exact s2 b' hne
 have hsize : w1.heap.size = w.heap.size := by rw [hheap]; simp
 have he : Ext S w S w1 := fun b' o hs => ⟨hs, World.cell?_of_block (hother b' (fun e => by subst e; exact h.swf.box _ _ _ hs hg))⟩
 have hswf : SWf w1 S G := ⟨fun b o hs => by rw [hsize]; exact h.swf.lt b o hs, fun b hb => h.swf.fresh b (by rw [hsize] at hb; exact hb), h.swf.box, h.swf.arr⟩
 have karr : ∀ bl l e x, G bl = .arr l e x → w1.heap[bl]? = w.heap[bl]? ∧ G bl = G bl := fun bl l e x hg' => ⟨hother bl (fun e => by rw [e, hg] at hg'; cases hg'), rfl⟩
 have kbox : ∀ bl i, G bl = .box i → i ≠ id → w1.heap[bl]? = w.heap[bl]? ∧ G bl = G bl := fun bl i hg' hi => ⟨hother bl (fun e => by rw [e, hg] at hg'; injection hg' with hg'; exact hi hg'.symm), rfl⟩
 refine ⟨?_, ?_⟩
 ·exact {
   defers := h.defers
   vsz := h.vsz
   lsz := h.lsz
   swf := hswf
   len := by simpa using h.len
   rho := fun i b' hb' => by rw [hsize]; exact h.rho i b' hb'
   st := fun i o ho => by
    by_cases hi : id = i
    ·subst hi
     rw [List.getElem?_set] at ho
     simp at ho
     obtain ⟨_, rfl⟩ := ho
     refine ⟨b, ces', clock', hb, hat, hg, by simpa using hn.1, hs, fun j e hj => ?_⟩
     obtain ⟨ce, m1, m2, m3, m4, m5⟩ := hn.2 j e hj
     exact ⟨ce, by simpa using m1, m2.mono he (zB.refl _), m3, m4.mono he (zB.refl _), m5⟩
    ·rw [List.getElem?_set_ne hi] at ho
     exact (h.st i o ho).yb he (zB.refl _) (fun bl hg' => kbox bl i hg' (fun e => hi e.symm)) (fun bl off c e x hg' => karr bl _ e x hg')
   vars := fun k v hv => by
    obtain ⟨t, h1, h2, h3⟩ := h.vars k v hv
    exact ⟨t, h1, h2, h3.yb he (zB.refl _) (fun bl c e x hg' => karr bl _ e x hg') (fun _ _ _ h => h)⟩
   rs := fun i v hv => by
    rcases h.rs i v hv with h0 | ⟨t, h1, h2, h3⟩
    ·exact .inl h0
    ·refine .inr ⟨t, h1, h2, h3.yb he (zB.refl _) (fun bl c e x hg' => karr bl _ e x hg') (fun p n xs hp => ?_)⟩
     cases p with
     | var k => exact hp
     | cell i' off =>
      obtain ⟨e, x, ty2, c2, b2, cc2, et2, fr, q1, q2, q3, q4, q5⟩ := hp
      have hi : id ≠ i' := fun e => by subst e; rw [hst] at q1; cases q1
      obtain ⟨b3, cc3, r1, r2, r3, _⟩ := h.st i' _ q1
      obtain rfl : b2 = b3 := by rw [q3] at r1; exact Option.some.inj r1
      exact ⟨e, x, ty2, c2, b2, cc2, et2, fr, by rw [List.getElem?_set_ne hi]; exact q1, q2, q3, (kbox b2 i' r3 (fun e => hi e.symm)).1.trans q4, q5⟩ }
 ·refine ⟨by rw [← hw], by rw [← hw], by rw [← hw], by rw [hsize]; exact Nat.le_refl _, he, zB.refl _, fun b' hb' hg' => ⟨hother b' (fun e => by rw [e, hg] at hg'; cases hg'), hg'⟩, fun _ _ hs => .inl hs⟩
theorem ok_mkMap {t : TypeId} (ho : o.op = .makeMap t none) {v : LVal} (hs : sem C im impl σ .mkMap = some (v, σ')) : yn P o a w (xk P vm lm ρ S G w a σ' v) := by
 simp only [sem, Option.some.injEq, Prod.mk.injEq] at hs
 obtain ⟨rfl, rfl⟩ := hs
 obtain ⟨G', k1, k2, k3⟩ := h.newObj (ob := .map #[] 0) (ol := .map []) (fun G' ρ' hG hr hρ he hk =>
  ⟨w.heap.size, #[], 0, hρ, xN, hG, rfl, MapKept.stamped_empty 0, fun i e he => by simp at he⟩)
 refine .value (yi (s := Instr.makeMap t none) (cv := .map (some w.heap.size)) (w' := w.alloc (.map #[] 0)) (by simp [execOp, ho]) (by simp [Instr.makeMap])) (.simple k1 rfl (.map ?_) k2)
 rw [List.getElem?_append_right (by rw [h.len]; exact Nat.le_refl _)]; simp [h.len]
theorem ok_mkMapR {t : TypeId} {x : Operand} {y : Opd} (ho : o.op = .makeMap t (some x)) (ht : ∃ k e, P.underlying t = some (.map k e)) (hx : zp vm lm x y = true) {v : LVal} (hs : sem C im impl σ (.ng y) = some (v, σ')) : yn P o a w (xk P vm lm ρ S G w a σ' v) := by
 simp only [sem, Option.bind_eq_some_iff] at hs
 obtain ⟨u, h1, h2⟩ := hs
 cases u with
 | int k n =>
  simp only [Option.some.injEq, Prod.mk.injEq] at h2
  obtain ⟨rfl, rfl⟩ := h2
  have hV := (h.zM hx h1 rfl).xP
  obtain ⟨k', e', ht⟩ := ht
  obtain ⟨G', k1, k2, k3⟩ := h.newObj (ob := .map #[] 0) (ol := .map []) (fun G' ρ' hG hr hρ he hk =>
   ⟨w.heap.size, #[], 0, hρ, xN, hG, rfl, MapKept.stamped_empty 0, fun i e he => by simp at he⟩)
  refine .value (yi (s := Instr.makeMap t (some (a.eval x))) (cv := .map (some w.heap.size)) (w' := w.alloc (.map #[] 0)) (by simp [execOp, ho]) (by simp [Instr.makeMap, run_underlying ht, hV, asInt, asIntOf])) (.simple k1 rfl (.map ?_) k2)
  rw [List.getElem?_append_right (by rw [h.len]; exact Nat.le_refl _)]; simp [h.len]
 | _ => cases h2
theorem ok_lookup {kd : tt} {t kt et : TypeId} {zero : LVal} {x i : Operand} {x' i' : Opd} {ok : Bool} (ho : o.op = .lookup t x i ok) (ht : P.underlying t = some (.map kt et)) (hkt : P.underlying kt = some (vA kd))
 (hz : rW P et zero = true) (hx : zp vm lm x x' = true) (hi : zp vm lm i i' = true) {v : LVal} (hs : sem C im impl σ (.lookup kd zero x' i' ok) = some (v, σ')) :
 yn P o a w (xk P vm lm ρ S G w a σ' v) := by
 simp only [sem, Option.bind_eq_some_iff] at hs
 obtain ⟨u, h1, k, h2, h3⟩ := hs
 split at h3
 ·rename_i hk
  have hKV := h.zM hi h2 (rA hk)
  have hIs := qh hk hKV
  obtain ⟨zi, z, z1, z2, z3, z4⟩ := qm hz
  have hZ : V w S ρ zero z := wL.V ρ z3
  simp only [Option.map_eq_some_iff] at h3
  obtain ⟨r, h4, e'⟩ := h3
  injection e' with e1 e2; subst e1; subst e2
  have fin : ∀ (xv : Value) (es : Array MapEntry), a.eval x = xv → (xv = .map none ∧ es = #[] ∨ ∃ b cl, xv = .map (some b) ∧ w.heap[b]? = some (.map es cl)) →
   ((r = none ∧ Instr.findNow (vA kd) (a.eval i) es.toList 0 = some none) ∨ ∃ v j cv, r = some v ∧ Instr.findNow (vA kd) (a.eval i) es.toList 0 = some (some (j, cv)) ∧ V w S ρ v cv ∧ (v.plain = true ∨ v.isAgg = true)) →
   yn P o a w (xk P vm lm ρ S G w a σ (if ok then .tup [r.getD zero, .bool r.isSome] else r.getD zero)) := by
   intro xv es ex hxv hf
   have hrun : ∀ (cv : Value) (f : Bool), (∃ rr, Instr.findNow (vA kd) (a.eval i) es.toList 0 = some rr ∧ ((rr = none ∧ cv = z ∧ f = false) ∨ ∃ j, rr = some (j, cv) ∧ f = true)) →
    (execOp a.eval o).run P w = .ok (.value (if ok then .tuple #[cv, .bool f] else cv)) w := by
    rintro cv f ⟨rr, hrr, hc⟩
    refine yi (s := Instr.lookup t (a.eval x) (a.eval i) ok) (by simp [execOp, ho]) ?_
    rw [ex]
    have hck := MapKept.run_checkKey (P := P) (w := w) hkt hIs es.isEmpty 9999
    have hfk := MapKept.run_findKey (P := P) (w := w) hkt hrr
    unfold Instr.lookup
    rcases hxv with ⟨rfl, rfl⟩ | ⟨b, cl, rfl, hb⟩
    ·simp only [Sem.run_bind, run_underlying ht, Result.andThen_ok, Sem.run_pure]
     rw [show (10000 : Nat) = 9999 + 1 from rfl, hck]
     simp only [Sem.run_bind, Result.andThen_ok, hfk]
     rcases hc with ⟨rfl, rfl, rfl⟩ | ⟨j, rfl, rfl⟩
     ·simp [x9 z1 z2]
     ·simp
    ·simp only [Sem.run_bind, run_underlying ht, Result.andThen_ok, Sem.run_pure, MapKept.run_getObj_map hb]
     rw [show (10000 : Nat) = 9999 + 1 from rfl, hck]
     simp only [Sem.run_bind, Result.andThen_ok, hfk]
     rcases hc with ⟨rfl, rfl, rfl⟩ | ⟨j, rfl, rfl⟩
     ·simp [x9 z1 z2]
     ·simp
   rcases hf with ⟨rfl, hf⟩ | ⟨vv, j, cv, rfl, hf, hvv, hvp⟩
   ·refine .value (hrun z false ⟨_, hf, .inl ⟨rfl, rfl, rfl⟩⟩) ?_
    cases ok with
    | true => exact .of h (At.pair z4 hZ) (Pr.refl ..)
    | false => exact .pure h z4 hZ
   ·have hsim : vv.simple = true := by
     rcases hvp with hp | hp
     ·exact LVal.zO hp
     ·exact LVal.qk hp
    refine .value (hrun cv true ⟨_, hf, .inr ⟨j, rfl, rfl⟩⟩) ?_
    cases ok with
    | true => exact .of h (At.pair hsim hvv) (Pr.refl ..)
    | false => exact .pure h hsim hvv
  unfold nb at h4
  cases u with
  | wq =>
   simp at h4; subst h4
   exact fin _ #[] (h.zM hx h1 rfl).qH (.inl ⟨rfl, rfl⟩) (.inl ⟨rfl, rfl⟩)
  | map id =>
   dsimp only at h4
   split at h4
   ·rename_i es hes
    obtain ⟨bb, hb, ex⟩ := (h.zM hx h1 rfl).oL
    obtain ⟨b', ces, cl, hb', hh, hg, hst, hE⟩ := sZ.of_obj (h.st _ _ hes)
    obtain rfl : bb = b' := by rw [hb] at hb'; exact Option.some.inj hb'
    exact fin _ ces ex (.inr ⟨bb, cl, rfl, hh⟩) (find_ok hk hKV 0 hE h4)
   ·cases h4
  | _ => simp at h4
 ·cases h3
theorem qY {kd : tt} {t kt et : TypeId} {m k x : Operand} {m' k' x' : Opd} (ho : o.op = .mapUpdate t m k x ∨ o.op = .insert t m k x) (ht : P.underlying t = some (.map kt et)) (hkt : P.underlying kt = some (vA kd))
 (hm : zp vm lm m m' = true) (hk : zp vm lm k k' = true) (hx : zp vm lm x x' = true) {v : LVal} (hs : sem C im impl σ (.mapUpdate kd m' k' x') = some (v, σ')) :
 yn P o a w (xk P vm lm ρ S G w a σ' v) := by
 simp only [sem, Option.bind_eq_some_iff] at hs
 obtain ⟨u, h1, kv, h2, r, h3, h4⟩ := hs
 cases u with
 | map id =>
  dsimp only at h4
  split at h4
  ·rename_i es hes
   split at h4
   ·rename_i hc
    obtain ⟨hc1, hc2⟩ := hc
    simp only [Option.map_eq_some_iff] at h4
    obtain ⟨es', h5, e'⟩ := h4
    injection e' with e1 e2; subst e1; subst e2
    have hKV := h.zM hk h2 (rA hc1)
    have hIs := qh hc1 hKV
    obtain ⟨bb, hb, ex⟩ := (h.zM hm h1 rfl).oL
    obtain ⟨S', G', k1, hV, k3, k4⟩ := h.take hx (u := r.1) (σ' := r.2) h3
    have hst' : r.2.st = σ.st := by
     have h3' := h3
     cases x' with
     | const c => simp [RS.take] at h3'; rw [← h3']
     | loc j =>
      simp only [RS.take, Option.bind_eq_some_iff, Option.map_eq_some_iff] at h3'
      obtain ⟨_, _, _, _, e⟩ := h3'
      rw [← e]; dsimp only; split <;> rfl
     | var j =>
      simp only [RS.take, Option.bind_eq_some_iff, Option.map_eq_some_iff] at h3'
      obtain ⟨_, _, _, _, e⟩ := h3'
      rw [← e]; dsimp only; split <;> rfl
    have hes' : r.2.st[id]? = some (.map es) := by rw [hst']; exact hes
    obtain ⟨b', ces, cl, hb', hh, hg, hstm, hE⟩ := sZ.of_obj (k1.st _ _ hes')
    obtain rfl : bb = b' := by rw [hb] at hb'; exact Option.some.inj hb'
    have hKV' : V w S' ρ kv (a.eval k) := hKV.mono k4.ext (zB.refl _)
    have hvp : r.1.plain = true ∨ r.1.isAgg = true := by
     cases hr : r.1 with
     | agg cs => exact .inr rfl
     | _ => rw [hr] at hc2; simp [LVal.cells] at hc2; exact .inl hc2
    have hck := MapKept.run_checkKey (P := P) (w := w) hkt hIs false 9999
    have hex : ∀ w1, (Instr.mapUpdate t (.map (some bb)) (a.eval k) (a.eval x)).run P w = .ok () w1 → (execOp a.eval o).run P w = .ok .skip w1 := by
     intro w1 hr
     refine exec_u (s := Instr.mapUpdate t (a.eval m) (a.eval k) (a.eval x)) ?_ (by rw [ex]; exact hr)
     rcases ho with ho | ho <;> simp [execOp, ho]
    have hun : (Instr.mapUpdate t (.map (some bb)) (a.eval k) (a.eval x)).run P w = ((Instr.findKey kt (a.eval k) ces.toList).run P w).andThen fun r w => (match r with
     | some (i, _) => (do
      let key ← Instr.keyThatStays (((ces[i]?).map MapEntry.key).getD (a.eval k)) (a.eval k)
      setObj bb (.map (ces.modify i fun e : MapEntry => { e with key, val := a.eval x }) cl) : Sem Unit)
     | none => setObj bb (.map (ces.push { key := a.eval k, val := a.eval x, born := cl }) (cl + 1))).run P w := by
     unfold Instr.mapUpdate
     simp only [Sem.run_bind, run_underlying ht, Result.andThen_ok, MapKept.run_getObj_map hh]
     rw [show (10000 : Nat) = 9999 + 1 from rfl, hck]
     simp only [Result.andThen_ok]
     cases (Instr.findKey kt (a.eval k) ces.toList).run P w with
     | ok r w2 => simp only [Result.andThen_ok]; cases r <;> rfl
     | halt => rfl
    rcases put_ok hc1 hKV' hV hvp cl 0 hE h5 with ⟨hkeys, m1, m2⟩ | ⟨j, v0, e0, m1, m2, m3, m4⟩
    ·obtain ⟨n1, n2⟩ := k1.setMap hes' hb hh hg (ces' := ces.push { key := a.eval k, val := a.eval x, born := cl }) (clock' := cl + 1) (MapKept.stamped_push hstm hkeys) (by simpa using m2)
     refine .skip (hex _ ?_) (.simple n1 rfl .undef (k4.trans n2))
     rw [hun, MapKept.run_findKey hkt m1]
     simp only [Result.andThen_ok]
     exact MapKept.run_setObj_map _ hh
    ·obtain ⟨n1, n2⟩ := k1.setMap hes' hb hh hg (ces' := ces.modify j fun e : MapEntry => { e with key := a.eval k, val := a.eval x }) (clock' := cl)
      (MapKept.stamped_modify hstm j _ (fun _ _ => rfl) (fun e he hj => by
       have : e = e0 := by rw [show ces[j]? = ces.toList[j]? by simp] at hj; rw [hj] at m2; exact Option.some.inj m2
       rw [this]; exact m3.symm)) (by simpa using m4)
     refine .skip (hex _ ?_) (.simple n1 rfl .undef (k4.trans n2))
     rw [hun, MapKept.run_findKey hkt m1]
     simp only [Result.andThen_ok, Nat.zero_add]
     have hj : ces[j]? = some e0 := by rw [show ces[j]? = ces.toList[j]? by simp]; exact m2
     simp only [hj, Option.map_some, Option.getD_some, m3, Sem.run_bind, MapKept.run_keyThatStays hIs, Result.andThen_ok]
     exact MapKept.run_setObj_map _ hh
   ·cases h4
  ·cases h4
 | _ => simp at h4
end
end Go.L
namespace Go.L
open Go
variable {P : Program} {vm : List Nat} {lm : List (Option Nat)} {ρ ρ' : List Nat} {S S' : Nat → Nat → Prop} {G G' : Nat → Cl} {σ σ' : RS} {a : Act} {w w' : World}
variable {C : xV} {im : TypeId → String → Option FuncId} {impl : TypeId → TypeId → Bool}
theorem vV {b : Nat} {cc : Array Value} {et : TypeId} {fr : Nat × Nat} (hh : w.heap[b]? = some (.cells cc et fr)) (o : Nat) : w.cell? ⟨b, o, none⟩ = cc[o]? := by
 simp [World.cell?, hh]
section
variable {t u ty e : TypeId} {i : TypeInfo} {y : Value} {m sLen sCap : Nat} {news olds : List Value}
theorem app_room (ht : P.underlying t = some (.slice e)) (hu : (∃ e', P.underlying u = some (.slice e')) ∨ P.underlying u = some .string) (hi : P.info? e = some i) {b off : Nat} {w1 : World}
 (hlen : (Builtin.lenOf y).run P w = .ok m w) (hroom : sLen + m ≤ sCap) (hfc : (Builtin.firstCells i.size m y).run P w = .ok news.toArray w)
 (hst : (storeCells ⟨b, off + sLen * i.size, none⟩ news).run P w = .ok () w1) :
 (Builtin.append_ #[t, u] ty #[.slice (some ⟨b, off, none⟩) sLen sCap, y]).run P w = .ok (.slice (some ⟨b, off, none⟩) (sLen + m) sCap) w1 := by
 rcases hu with ⟨e', hu⟩ | hu <;>
  simp [Builtin.append_, run_underlying ht, run_underlying hu, sizeOf, typeInfo, hi, hlen, hroom, hfc, vY, hst]
theorem nY (ht : P.underlying t = some (.slice e)) (hu : (∃ e', P.underlying u = some (.slice e')) ∨ P.underlying u = some .string) (hi : P.info? e = some i) {ao : Option Addr}
 (hlen : (Builtin.lenOf y).run P w = .ok 0 w) (hroom : sLen ≤ sCap) (hfc : (Builtin.firstCells i.size 0 y).run P w = .ok #[] w) :
 (Builtin.append_ #[t, u] ty #[.slice ao sLen sCap, y]).run P w = .ok (.slice ao sLen sCap) w := by
 rcases hu with ⟨e', hu⟩ | hu <;> cases ao <;>
  simp [Builtin.append_, run_underlying ht, run_underlying hu, sizeOf, typeInfo, hi, hlen, hroom, hfc, storeCells]
theorem app_grow (ht : P.underlying t = some (.slice e)) (hu : (∃ e', P.underlying u = some (.slice e')) ∨ P.underlying u = some .string) (hi : P.info? e = some i) {z : Value} (hz : i.zero = some z) {ao : Option Addr}
 (hlen : (Builtin.lenOf y).run P w = .ok m w) (hg : sCap < sLen + m) (h63 : sLen + m ≤ maxLen) (hfit : (sLen + m) * i.bytes ≤ 140737488355328)
 (hfo : (Builtin.firstCells i.size sLen (.slice ao sLen sCap)).run P w.drew = .ok olds.toArray w.drew)
 (hfc : (Builtin.firstCells i.size m y).run P w.drew = .ok news.toArray w.drew) :
 (Builtin.append_ #[t, u] ty #[.slice ao sLen sCap, y]).run P w =
  .ok (.slice (some ⟨w.heap.size, 0, none⟩) (sLen + m) (grownCap w (sLen + m) sCap e))
   (w.drew.alloc (.cells (olds.toArray ++ news.toArray ++ Builtin.zeroCells z.cells (grownCap w (sLen + m) sCap e - (sLen + m))) e)) := by
 have hn : ¬ (sLen + m ≤ sCap) := by omega
 have h63' : ¬ (9223372036854775807 < ((sLen : Int) + (m : Int))) := by unfold maxLen at h63; omega
 have h48 := growslice_fits (bytes := i.bytes) hg hfit
 have h48' : ¬ (281474976710656 < Builtin.nextslicecap (sLen + m) sCap * i.bytes) := by omega
 rcases hu with ⟨e', hu⟩ | hu <;>
 ·simp [Builtin.append_, run_underlying ht, run_underlying hu, sizeOf, typeInfo, zeroValue, hi, hz, hn, h63', h48', Question.forced, hfc, hfo, hlen, newRow, grownCap]
  congr 2
  apply Array.ext'
  simp [List.append_assoc]
end
section
variable (h : Rel P vm lm ρ S G σ a w) {o : Oper}
include h
theorem Rel.newOwn (ob : Obj) (e : Nat) (x : Bool) : Rel P vm lm ρ (fun b o => S b o ∨ (x = false ∧ b = w.heap.size ∧ o < e)) (wO G w.heap.size (.yd, 0) e x) σ a (w.alloc ob) ∧
 Pr w S G ρ (w.alloc ob) (fun b o => S b o ∨ (x = false ∧ b = w.heap.size ∧ o < e)) (wO G w.heap.size (.yd, 0) e x) ρ := by
 have he : Ext S w (fun b o => S b o ∨ (x = false ∧ b = w.heap.size ∧ o < e)) (w.alloc ob) := fun b o hs => ⟨.inl hs, World.cell?_alloc_lt _ _ _ (h.swf.lt _ _ hs)⟩
 have hsz : (w.alloc ob).heap.size = w.heap.size + 1 := tp
 have hkeep : ∀ b, G b ≠ .ro → (w.alloc ob).heap[b]? = w.heap[b]? ∧ wO G w.heap.size (.yd, 0) e x b = G b := fun b hb => by
  have hlt := h.swf.uu hb
  exact ⟨wC hlt, by unfold wO; rw [if_neg (by omega)]⟩
 refine ⟨h.yb he (by omega) {
  lt := fun b o hs => by
   rcases hs with hs | ⟨_, rfl, _⟩
   ·have := h.swf.lt b o hs; omega
   ·omega
  fresh := fun b hb => by unfold wO; rw [if_neg (by omega)]; exact h.swf.fresh b (by omega)
  box := fun b o id hs hg => by
   unfold wO at hg
   split at hg
   ·cases hg
   ·rename_i hn
    rcases hs with hs | ⟨_, rfl, _⟩
    ·exact h.swf.box b o id hs hg
    ·exact hn rfl
  arr := fun b o l e' x' hs hg => by
   unfold wO at hg
   split at hg
   ·rename_i hb; subst hb
    injection hg with g1 g2 g3; subst g2; subst g3
    rcases hs with hs | ⟨hx, _, ho⟩
    ·have := h.swf.lt _ o hs; omega
    ·exact ⟨hx, ho⟩
   ·rename_i hn
    rcases hs with hs | ⟨_, rfl, _⟩
    ·exact h.swf.arr b o l e' x' hs hg
    ·exact absurd rfl hn }
  (fun b id hg => hkeep b (by rw [hg]; simp)) (fun b l e x hg _ => hkeep b (by rw [hg]; simp)), ?_⟩
 exact ⟨rfl, rfl, rfl, by omega, he, zB.refl _, fun b hb hg => ⟨wC hb, by unfold wO; rw [if_neg (by omega)]; exact hg⟩, fun b o hs => by
  rcases hs with hs | ⟨_, rfl, _⟩
  ·exact .inl hs
  ·exact .inr (.inl (Nat.le_refl _))⟩
omit h in
theorem At.own_new {e : TypeId} {n cap : Nat} {xs : List LVal} {cells : List Value} {zs : Array Value} (hV : VL w S [] (xs.flatMap LVal.cells) cells) (hp : (xs.flatMap LVal.cells).all LVal.plain = true)
 (hun : ∀ y ∈ xs, y.cells.length = n) (hn : 0 < n) (hce : P.cellsOf e = n) (hle : xs.length ≤ cap) (hcm : cap ≤ maxLen) (hsz : zs.size = (cap - xs.length) * n) {x : Bool}
 (he : Ext S w (fun b o => S b o ∨ (x = false ∧ b = w.heap.size ∧ o < xs.length * n)) (w.alloc (.cells (cells.toArray ++ zs) e))) {pk : Loc → Nat → List LVal → Value → Prop} :
 At P (w.alloc (.cells (cells.toArray ++ zs) e)) (fun b o => S b o ∨ (x = false ∧ b = w.heap.size ∧ o < xs.length * n)) (wO G w.heap.size (.yd, 0) (xs.length * n) x) ρ pk .yd (.vs false (.own e x) n xs) (.slice (some ⟨w.heap.size, 0, none⟩) xs.length cap) := by
 have hlen : cells.length = xs.length * n := by rw [← hV.length, yY hun]
 refine (At.nt (by simp)).2 ⟨rfl, w.heap.size, cap, cells.toArray ++ zs, rfl, xN, hle, hcm, ?_, hce, hn, by simp [wO], hun, fun j v hj => ?_⟩
 ·simp only [Array.size_append, List.size_toArray, hlen, hsz, ← Nat.add_mul]
  congr 1; omega
 ·obtain ⟨c, hc, hv⟩ := hV.get j v hj
  have hjl := (List.getElem?_eq_some_iff.1 hc).1
  refine ⟨fun hx => .inr ⟨hx, rfl, by omega⟩, c, ?_, hv.mono he (zB.refl _), List.all_eq_true.1 hp v (List.mem_of_getElem? hj)⟩
  rw [Nat.zero_add, vV xN, Array.getElem?_append_left (by simpa using hjl)]
  simpa using hc
theorem Rel.growOwn {b e k et : Nat} {x : Bool} {cc cc' : Array Value} (hg : G b = .arr (.yd, 0) e x) (hh : w.heap[b]? = some (.cells cc et (0, 0))) (hk : e ≤ k) (hsame : ∀ o, o < e → cc'[o]? = cc[o]?) :
 Rel P vm lm ρ (fun b' o => S b' o ∨ (x = false ∧ b' = b ∧ o < k)) (wO G b (.yd, 0) k x) σ a (w.setRow b cc') ∧
  Pr w S G ρ (w.setRow b cc') (fun b' o => S b' o ∨ (x = false ∧ b' = b ∧ o < k)) (wO G b (.yd, 0) k x) ρ ∧ (w.setRow b cc').heap[b]? = some (.cells cc' et (0, 0)) := by
 have hat := setRow_heap w b cc cc' et (0, 0) hh
 have hother : ∀ b', b' ≠ b → (w.setRow b cc').heap[b']? = w.heap[b']? := fun b' hn => setRow_other w b b' cc' hn
 have hsize : (w.setRow b cc').heap.size = w.heap.size := size_setRow w b cc'
 have hlt : b < w.heap.size := h.swf.uu (by rw [hg]; simp)
 have he : Ext S w (fun b' o => S b' o ∨ (x = false ∧ b' = b ∧ o < k)) (w.setRow b cc') := fun b' o hs => by
  refine ⟨.inl hs, ?_⟩
  by_cases hb : b' = b
  ·subst hb
   rw [vV hat, vV hh]
   exact hsame o (h.swf.arr _ _ _ _ _ hs hg).2
  ·exact World.cell?_of_block (hother b' hb)
 have hne : ∀ bl, G bl ≠ .arr (.yd, 0) e x → (w.setRow b cc').heap[bl]? = w.heap[bl]? ∧ wO G b (.yd, 0) k x bl = G bl := fun bl hn => by
  have hbl : bl ≠ b := fun e' => hn (e' ▸ hg)
  exact ⟨hother bl hbl, by unfold wO; rw [if_neg hbl]⟩
 refine ⟨h.yb he (by omega) {
  lt := fun b' o hs => by
   rw [hsize]
   rcases hs with hs | ⟨_, rfl, _⟩
   ·exact h.swf.lt b' o hs
   ·exact hlt
  fresh := fun b' hb => by
   rw [hsize] at hb
   unfold wO; rw [if_neg (by omega)]; exact h.swf.fresh b' hb
  box := fun b' o id hs hg' => by
   unfold wO at hg'
   split at hg'
   ·cases hg'
   ·rename_i hn
    rcases hs with hs | ⟨_, rfl, _⟩
    ·exact h.swf.box b' o id hs hg'
    ·exact hn rfl
  arr := fun b' o l e' x' hs hg' => by
   unfold wO at hg'
   split at hg'
   ·rename_i hb; subst hb
    injection hg' with g1 g2 g3; subst g2; subst g3
    rcases hs with hs | ⟨hx, _, ho⟩
    ·have := h.swf.arr _ _ _ _ _ hs hg
     exact ⟨this.1, by omega⟩
    ·exact ⟨hx, ho⟩
   ·rename_i hn
    rcases hs with hs | ⟨_, rfl, _⟩
    ·exact h.swf.arr b' o l e' x' hs hg'
    ·exact absurd rfl hn }
  (fun b' id hg' => hne b' (by rw [hg']; simp)) (fun b' l e' x' hg' hl => hne b' (by rw [hg']; rintro ⟨⟩; exact hl rfl)), ?_, hat⟩
 refine ⟨setRow_os .., rfl, setRow_output .., by omega, he, zB.refl _, fun b' hb' hg' => hne b' (by rw [hg']; simp) |> fun p => ⟨p.1, p.2.trans hg'⟩, fun b' o hs => ?_⟩
 rcases hs with hs | ⟨_, rfl, _⟩
 ·exact .inl hs
 ·exact .inr (.inr (by rw [hg]; simp))
omit h in
theorem elems_ok (h : Rel P vm lm ρ S G σ a w) {y : Operand} {y' : Opd} (hy : zp vm lm y y' = true) {v : LVal} (hv : σ.zu y' = some v) {m : Nat} {ys : List LVal} (he : x5 v = some (m, ys)) :
 (∀ w2, (Builtin.lenOf (a.eval y)).run P w2 = .ok ys.length w2) ∧ (∀ x ∈ ys, x.cells.length = m) ∧ ∃ news, VL w S [] (ys.flatMap LVal.cells) news ∧ (ys.flatMap LVal.cells).all LVal.plain = true ∧
  ∀ w2, (∀ x, w2.cell? x = w.cell? x) → (Builtin.firstCells m ys.length (a.eval y)).run P w2 = .ok news.toArray w2 := by
 cases v with
 | vs b o n xs =>
  simp only [x5, Option.some.injEq, Prod.mk.injEq] at he
  obtain ⟨rfl, rfl⟩ := he
  rcases h.rZ hy hv with ⟨rfl, rfl, ex⟩ | ⟨rfl, bl, off, cap, ex, hcap, hmax, hun, hcells⟩ | ⟨rfl, rfl, ad, ex⟩
  ·rw [ex]
   exact ⟨fun w2 => rfl, by simp, [], .nil, rfl, fun w2 _ => by simp [Builtin.firstCells]⟩
  ·rw [ex]
   refine ⟨fun w2 => rfl, hun, ?_⟩
   obtain ⟨cs, k1, k2⟩ := hcells.kG
   refine ⟨cs, k1, ?_, fun w2 hw2 => ?_⟩
   ·rw [List.all_eq_true]; intro x hx
    obtain ⟨j, hj, hjx⟩ := List.getElem_of_mem hx
    exact (hcells j x (by rw [List.getElem?_eq_getElem hj, hjx])).2.choose_spec.2.2
   ·exact run_firstCells_some w2 n xs.length _ _ _ cs (by rw [← k1.length, yY hun]) (fun j v hj => by rw [vY, hw2]; exact k2 j v hj)
  ·rw [ex]
   exact ⟨fun w2 => rfl, by simp, [], .nil, rfl, fun w2 _ => run_firstCells_some w2 n 0 _ _ _ [] (by simp) (fun j v hj => by simp at hj)⟩
 | str s =>
  simp only [x5, Option.some.injEq, Prod.mk.injEq] at he
  obtain ⟨rfl, rfl⟩ := he
  have ex := (h.zM hy hv rfl).vK
  rw [ex]
  have hl : (zy s).length = s.length := by simp [zy]
  have hV : VL w S [] (zy s) (s.map fun b => Value.int .u8 (b.toNat : Int)) := lu s
  refine ⟨fun w2 => by rw [hl]; rfl, nV s, _, by rw [rQ]; exact hV, by rw [rQ]; exact pn s, fun w2 _ => ?_⟩
  rw [hl]
  simp only [Builtin.firstCells, pZ]
  simp
 | _ => simp [x5] at he
theorem ok_append {t u e : TypeId} {x y : Operand} {x' y' : Opd} {esz bytes : Nat} {inf : TypeInfo} {z : Value} (ho : o.op = .call ⟨.builtin .append, #[x, y], #[t, u]⟩) (ht : P.underlying t = some (.slice e))
 (hu : (∃ e', P.underlying u = some (.slice e')) ∨ P.underlying u = some .string) (hi : P.info? e = some inf) (hz : inf.zero = some z) (hzs : z.cells.size = esz) (hsz : inf.size = esz) (hby : inf.bytes = bytes) (hpos : 0 < esz) (hce : P.cellsOf e = esz)
 (hx : zp vm lm x x' = true) (hy : zp vm lm y y' = true) {v : LVal} (hs : sem C im impl σ (.append e esz bytes x' y') = some (v, σ')) : yn P o a w (xk P vm lm ρ S G w a σ' v) := by
 simp only [sem, Option.bind_eq_some_iff] at hs
 obtain ⟨yv, h1, ⟨m, ys⟩, h2, h3⟩ := hs
 obtain ⟨hlen, hyun, news, hN, hNp, hfc⟩ := elems_ok h hy h1 h2
 dsimp only at h3
 unfold xu at h3
 simp only [Option.bind_eq_some_iff] at h3
 obtain ⟨r, h4, h5⟩ := h3
 obtain ⟨S1, G1, k1, k2, k3⟩ := h.acquire hx (v := r.1) (σ' := r.2) h4
 obtain ⟨cs, hex⟩ := uD (a := a) ho
 have hN1 : VL w S1 [] (ys.flatMap LVal.cells) news := hN.mono k3.ext (zB.refl _)
 have hmap : (#[x, y] : Array Operand).map a.eval = #[a.eval x, a.eval y] := by simp
 have giv : ∀ {cv : Value} {w1 : World}, (Builtin.append_ #[t, u] o.type #[a.eval x, a.eval y]).run P w = .ok cv w1 → (execOp a.eval o).run P w = .ok (.value cv) w1 := by
  intro cv w1 hr
  refine yi (s := Builtin.append_ #[t, u] o.type #[a.eval x, a.eval y]) ?_ hr
  rw [hex, hmap]; rfl
 subst hsz
 subst hby
 cases hr1 : r.1 with
 | vs b ow n xs =>
  rw [hr1] at h5 k2
  have k2 : At P w S1 G1 ρ yr .yd (.vs b ow n xs) (a.eval x) := by
   rcases k2 with k2 | ⟨l, hl⟩
   ·exact k2
   ·cases hl
  dsimp only at h5
  have hview := k1.at_view (sX k2 _)
  split at h5
  ·
   rename_i hys
   injection h5 with h5; injection h5 with e1 e2; subst e1; subst e2
   have hys' : ys = [] := List.eq_nil_of_length_eq_zero hys
   have hnews : news = [] := by
    have := hN.length
    rw [hys'] at this
    exact List.eq_nil_of_length_eq_zero (by simpa using this.symm)
   have hfc0 : ∀ n, (Builtin.firstCells n 0 (a.eval y)).run P w = .ok #[] w := by
    intro n
    have := hfc w (fun _ => rfl)
    rw [hys, hnews] at this
    revert this
    cases a.eval y <;> simp [Builtin.firstCells]
   rcases hview with ⟨rfl, rfl, ex⟩ | ⟨rfl, bl, off, cap, ex, hcap, hmax, hun, hcells⟩ | ⟨rfl, rfl, ad, ex⟩
   ·exact .value (giv (by rw [ex]; exact nY ht hu hi (by rw [hlen w, hys]) (Nat.le_refl _) (hfc0 _))) (.of k1 (by rw [← ex]; exact k2) k3)
   ·exact .value (giv (by rw [ex]; exact nY ht hu hi (by rw [hlen w, hys]) hcap (hfc0 _))) (.of k1 (by rw [← ex]; exact k2) k3)
   ·exact .value (giv (by rw [ex]; exact nY ht hu hi (by rw [hlen w, hys]) (Nat.le_refl _) (hfc0 _))) (.of k1 (by rw [← ex]; exact k2) k3)
  ·rename_i hys
   split at h5
   ·rename_i hc
    obtain ⟨hc1, hc2, hc3⟩ := hc
    subst hc3
    have hmaxl : xs.length + ys.length ≤ maxLen := by unfold xl at hc2; unfold maxLen; omega
    have hfit : (xs.length + ys.length) * inf.bytes ≤ 140737488355328 := hc1
    have grow : ∀ (x1 : Bool) (ao : Option Addr) (cap : Nat) (olds : List Value), a.eval x = .slice ao xs.length cap → cap < xs.length + ys.length → VL w S1 [] (xs.flatMap LVal.cells) olds → (xs.flatMap LVal.cells).all LVal.plain = true →
     (∀ y ∈ xs, y.cells.length = inf.size) → (∀ w2, (∀ x, w2.cell? x = w.cell? x) → (Builtin.firstCells inf.size xs.length (.slice ao xs.length cap)).run P w2 = .ok olds.toArray w2) →
     yn P o a w (xk P vm lm ρ S G w a r.2 (.vs false (.own e x1) inf.size (xs ++ ys))) := by
     intro x1 ao cap olds ex hcap hO hOp hxun hfo
     have hrun := app_grow (ty := o.type) ht hu hi hz (w := w) (ao := ao) (y := a.eval y) (m := ys.length) (news := news) (olds := olds) (sLen := xs.length) (sCap := cap) (hlen w) hcap hmaxl hfit (hfo w.drew (fun _ => rfl)) (hfc w.drew (fun _ => rfl))
     rw [← ex] at hrun
     obtain ⟨d1, d2⟩ := k1.drew
     have hge := grownCap_ge w (xs.length + ys.length) cap e
     have hcm := grownCap_le_maxLen w (xs.length + ys.length) cap e hmaxl
     have hcat : olds.toArray ++ news.toArray ++ Builtin.zeroCells z.cells (grownCap w (xs.length + ys.length) cap e - (xs.length + ys.length)) = (olds ++ news).toArray ++ Builtin.zeroCells z.cells (grownCap w (xs.length + ys.length) cap e - (xs.length + ys.length)) := by
      apply Array.ext'; simp
     rw [hcat] at hrun
     obtain ⟨n1, n2⟩ := d1.newOwn (.cells ((olds ++ news).toArray ++ Builtin.zeroCells z.cells (grownCap w (xs.length + ys.length) cap e - (xs.length + ys.length))) e) ((xs ++ ys).length * inf.size) x1
     refine .value (giv hrun) (.of n1 ?_ (k3.trans (d2.trans n2)))
     have hVc : VL w.drew S1 [] ((xs ++ ys).flatMap LVal.cells) (olds ++ news) := by
      rw [List.flatMap_append]
      exact (hO.append hN1).mono (fun _ _ hs => ⟨hs, rfl⟩) (zB.refl _)
     have := At.own_new (P := P) (w := w.drew) (ρ := ρ) (G := G1) (e := e) (n := inf.size) (cap := grownCap w (xs.length + ys.length) cap e) (xs := xs ++ ys) (zs := Builtin.zeroCells z.cells (grownCap w (xs.length + ys.length) cap e - (xs.length + ys.length))) (pk := yr) (x := x1)
      hVc (by rw [List.flatMap_append, List.all_append, hOp, hNp]; rfl) (fun q hq => by rcases List.mem_append.1 hq with hq | hq; exact hxun q hq; exact hyun q hq) hpos hce
      (by simpa using hge) hcm (by simp [size_zeroCells, hzs]) n2.ext
     simpa using this
    cases ow with
    | full =>
     dsimp only at h5
     split at h5
     ·rename_i hn
      obtain ⟨rfl, rfl⟩ := hn
      injection h5 with h5; injection h5 with e1 e2; subst e1; subst e2
      have hV : V w S1 ρ (.vs false .full inf.size xs) (a.eval x) := k2
      generalize hcx : a.eval x = cx at hV
      cases hV with
      | vz =>
       have := grow true _ 0 [] hcx (by simp; omega) .nil rfl (by simp) (fun w2 _ => run_firstCells_some w2 _ 0 _ _ _ [] (by simp) (fun j v hj => by simp at hj))
       simpa using this
      | vs q1 q2 q3 q4 q5 =>
       rename_i bl off cap
       obtain ⟨os, o1, o2⟩ := q5.cells.kG
       have hcap := q3 rfl
       refine grow true _ cap os hcx (by omega) o1 ?_ q4 (fun w2 hw2 => run_firstCells_some w2 _ _ _ _ _ os (by rw [← o1.length, yY q4]) (fun j v hj => by rw [vY, hw2]; exact o2 j v hj))
       rw [List.all_eq_true]; intro x hx
       obtain ⟨j, hj, hjx⟩ := List.getElem_of_mem hx
       exact (q5.cells j x (by rw [List.getElem?_eq_getElem hj, hjx])).2.choose_spec.2.2
     ·cases h5
    | sh =>
     dsimp only at h5
     split at h5
     ·rename_i hb
      subst hb
      injection h5 with h5; injection h5 with e1 e2; subst e1; subst e2
      have hV : V w S1 ρ (.vs true .sh n xs) (a.eval x) := k2
      generalize hcx : a.eval x = cx at hV
      cases hV with
      | oF =>
       have := grow true none 0 [] hcx (by simp; omega) .nil rfl (by simp) (fun w2 _ => run_firstCells_none ..)
       simpa using this
     ·cases h5
    | pk p => simp at h5
    | own e' ex =>
     dsimp only at h5
     split at h5
     ·rename_i hn
      obtain ⟨rfl, rfl, rfl⟩ := hn
      injection h5 with h5; injection h5 with e1 e2; subst e1; subst e2
      obtain ⟨_, bl, cap, cur, z1, z2, z3, z4, z5, z6, z7, z8, z9, z10⟩ := (At.nt (by simp)).1 k2
      obtain ⟨os, o1, o2⟩ := z10.kG
      have hop : (xs.flatMap LVal.cells).all LVal.plain = true := by
       rw [List.all_eq_true]; intro x hx
       obtain ⟨j, hj, hjx⟩ := List.getElem_of_mem hx
       exact (z10 j x (by rw [List.getElem?_eq_getElem hj, hjx])).2.choose_spec.2.2
      have hol : os.length = xs.length * inf.size := by rw [← o1.length, yY z9]
      have hnl : news.length = ys.length * inf.size := by rw [← hN.length, yY hyun]
      by_cases hroom : xs.length + ys.length ≤ cap
      ·have hone : ∀ u ∈ news, u.oneCell' = true := by
        intro u hu
        obtain ⟨j, hj, hju⟩ := List.getElem_of_mem hu
        have hj' : j < (ys.flatMap LVal.cells).length := by rw [hN.length]; exact hj
        obtain ⟨c, hc, hcv⟩ := hN.get j _ (List.getElem?_eq_getElem hj')
        rw [List.getElem?_eq_getElem hj, hju] at hc
        injection hc with hc; subst hc
        exact (hcv.one (List.all_eq_true.1 hNp _ (List.getElem_mem hj'))).1
       have hle : xs.length * inf.size + news.length ≤ cur.size := by
        rw [hnl, z5, ← Nat.add_mul]; exact Nat.mul_le_mul_right _ hroom
       have hst := run_storeCells_at P bl (xs.length * inf.size) e' news 0 cur w z2 (by simpa using hle) hone
       simp only [Nat.add_zero] at hst
       have hrun := app_room (ty := o.type) ht hu hi (w := w) (b := bl) (off := 0) (y := a.eval y) (m := ys.length) (sLen := xs.length) (sCap := cap) (hlen w) hroom (hfc w (fun _ => rfl)) (by rw [Nat.zero_add]; exact hst)
       rw [← z1] at hrun
       have hsame : ∀ (o : Nat), o < xs.length * inf.size → (cur.toList.take (xs.length * inf.size) ++ news ++ cur.toList.drop (xs.length * inf.size + news.length)).toArray[o]? = cur[o]? := by
        intro o ho
        have := wm cur.toList news (xs.length * inf.size) (by simpa using hle) o
        simp only [List.getElem?_toArray]
        rw [this, if_neg (by omega)]
        simp
       obtain ⟨n1, n2, n3⟩ := k1.growOwn (k := (xs ++ ys).length * inf.size) (cc' := (cur.toList.take (xs.length * inf.size) ++ news ++ cur.toList.drop (xs.length * inf.size + news.length)).toArray) z8 z2
        (Nat.mul_le_mul_right _ (by simp)) hsame
       refine .value (giv hrun) (.of n1 ?_ (k3.trans n2))
       refine (At.nt (by simp)).2 ⟨rfl, bl, cap, _, by simp, n3, by simpa using hroom, z4, ?_, z6, z7, by simp [wO], fun q hq => by rcases List.mem_append.1 hq with hq | hq; exact z9 q hq; exact hyun q hq, fun j v hj => ?_⟩
       ·rw [← z5]; simp; omega
       ·rw [List.flatMap_append] at hj
        have hcell : (w.setRow bl (cur.toList.take (xs.length * inf.size) ++ news ++ cur.toList.drop (xs.length * inf.size + news.length)).toArray).cell? ⟨bl, 0 + j, none⟩ =
         (cur.toList.take (xs.length * inf.size) ++ news ++ cur.toList.drop (xs.length * inf.size + news.length))[j]? := by
         rw [vV n3, Nat.zero_add]; simp
        have hjl := (List.getElem?_eq_some_iff.1 hj).1
        rw [List.length_append, yY z9, yY hyun, ← Nat.add_mul] at hjl
        refine ⟨fun hxf => .inr ⟨hxf, rfl, by simpa using hjl⟩, ?_⟩
        rw [List.getElem?_append] at hj
        split at hj
        ·rename_i hji
         obtain ⟨_, c, c1, c2, c3⟩ := z10 j v hj
         refine ⟨c, ?_, c2.mono n2.ext (zB.refl _), c3⟩
         rw [yY z9] at hji
         rw [hcell, wm cur.toList news _ (by simpa using hle) j, if_neg (by omega)]
         rw [vV z2, Nat.zero_add] at c1
         simpa using c1
        ·rename_i hji
         rw [yY z9] at hji hj
         obtain ⟨c, c1, c2⟩ := hN1.get _ v hj
         refine ⟨c, ?_, c2.mono n2.ext (zB.refl _), List.all_eq_true.1 hNp v (List.mem_of_getElem? hj)⟩
         have hnj := (List.getElem?_eq_some_iff.1 c1).1
         rw [hcell, wm cur.toList news _ (by simpa using hle) j, if_pos (by omega)]
         exact c1
      ·exact grow ex _ cap os z1 (by omega) o1 hop z9 (fun w2 hw2 => run_firstCells_some w2 _ _ _ _ _ os hol (fun j v hj => by rw [vY, hw2]; exact o2 j v hj))
     ·cases h5
   ·cases h5
 | _ => rw [hr1] at h5; simp at h5
end
end Go.L
namespace Go.L
open Go
variable {P : Program} {vm : List Nat} {lm : List (Option Nat)} {ρ ρ' : List Nat} {S S' : Nat → Nat → Prop} {G G' : Nat → Cl} {σ σ' : RS} {a : Act} {w w' : World}
variable {C : xV} {im : TypeId → String → Option FuncId} {impl : TypeId → TypeId → Bool}
def nR (P : Program) (p : TypeId → Option (List tt)) : List Field → Nat → Option (List tt)
 | [], _ => some []
 | f :: r, off =>
  if f.name ≠ "_" ∧ f.offset = off then (p f.type).bind fun ks => if (P.info? f.type).map (·.size) = some ks.length then (nR P p r (off + ks.length)).map fun l => ks ++ l else none else none
def wQ (P : Program) : Nat → TypeId → Option (List tt)
 | 0, _ => none
 | d + 1, t => match P.underlying t with
  | some .bool => some [.b]
  | some (.int k) => some [.i k]
  | some .string => some [.s]
  | some (.struct fs) => if P.stoodInHeld t then none else nR P (wQ P d) fs.toList 0
  | some (.array n e) => (wQ P d e).bind fun ks => if (P.info? e).map (·.size) = some ks.length then some (List.replicate n ks).flatten else none
  | _ => none
def mkV (agg : Bool) (cs : List Value) : Value := if agg then .agg ⟨cs⟩ else cs.headD undef
def vw (P : Program) (t : TypeId) : Bool := match P.underlying t with
 | some d => ru d
 | none => false
theorem yN : ∀ {ks : List tt} {xs : List LVal}, ym ks xs = true → xs.length = ks.length
 | [], [], _ => rfl
 | k :: ks, x :: xs, h => by simp only [ym, Bool.and_eq_true] at h; simp [yN h.2]
 | [], _ :: _, h => by simp [ym] at h
 | _ :: _, [], h => by simp [ym] at h
theorem su : ∀ {k1 k2 : List tt} {xs : List LVal}, ym (k1 ++ k2) xs = true → ym k1 (xs.take k1.length) = true ∧ ym k2 (xs.drop k1.length) = true
 | [], k2, xs, h => by simpa [ym] using h
 | k :: k1, k2, [], h => by simp [ym] at h
 | k :: k1, k2, x :: xs, h => by
  simp only [List.cons_append, ym, Bool.and_eq_true] at h
  have := su h.2
  simp only [List.length_cons, List.take_succ_cons, List.drop_succ_cons, ym, h.1, Bool.true_and]
  exact this
theorem qd : ∀ {n : Nat} {xs ys : List LVal} {r : Bool}, yQ xs ys = some r → ∃ r1 r2, yQ (xs.take n) (ys.take n) = some r1 ∧ yQ (xs.drop n) (ys.drop n) = some r2 ∧ r = (r1 && r2)
 | 0, xs, ys, r, h => ⟨true, r, by simp [yQ], by simpa using h, by simp⟩
 | n + 1, [], [], r, h => by simp [yQ] at h; subst h; exact ⟨true, true, by simp [yQ], by simp [yQ], rfl⟩
 | n + 1, [], _ :: _, r, h => by simp [yQ] at h
 | n + 1, _ :: _, [], r, h => by simp [yQ] at h
 | n + 1, x :: xs, y :: ys, r, h => by
  simp only [yQ, Option.bind_eq_some_iff, Option.map_eq_some_iff] at h
  obtain ⟨b, hb, c, hc, rfl⟩ := h
  obtain ⟨r1, r2, h1, h2, rfl⟩ := qd (n := n) hc
  exact ⟨b && r1, r2, by simp [yQ, hb, h1], by simpa using h2, by simp [Bool.and_assoc]⟩
theorem VL.split {l : List LVal} {cs : List Value} (h : VL w S ρ l cs) (n : Nat) : VL w S ρ (l.take n) (cs.take n) ∧ VL w S ρ (l.drop n) (cs.drop n) := by
 induction n generalizing l cs with
 | zero => exact ⟨by simpa using VL.nil, by simpa using h⟩
 | succ n ih =>
  cases l with
  | nil => cases h; exact ⟨by simpa using VL.nil, by simpa using VL.nil⟩
  | cons v l =>
   cases h with
   | cons h1 h2 => exact ⟨by simpa using VL.cons h1 (ih h2).1, by simpa using (ih h2).2⟩
theorem rj {t : TypeId} {d : TypeDesc} {i : TypeInfo} {cs : List Value} {off n : Nat} (hd : P.underlying t = some d) (hi : P.info? t = some i) (hn : i.size = n) (hle : off + n ≤ cs.length) (h1 : ru d = false → n = 1) (w : World) :
 (part t ⟨cs⟩ off).run P w = .ok (mkV (vw P t) ((cs.drop off).take n)) w := by
 unfold part
 have hag : vw P t = ru d := by simp [vw, hd]
 simp only [Sem.run_bind, sE hd, Result.andThen_ok, hag]
 cases hA : ru d with
 | true =>
  simp only [if_true, Sem.run_bind, xS hi, Result.andThen_ok, Sem.run_pure, mkV, hn]
  congr 2
  apply Array.ext'
  simp [List.take_drop, Nat.add_sub_cancel_left]
 | false =>
  have hn1 := h1 hA
  subst hn1
  simp only [Bool.false_eq_true, if_false, mkV]
  have hlt : off < cs.length := by omega
  have hc : (⟨cs⟩ : Array Value)[off]? = some cs[off] := by simp [hlt]
  rw [hc]
  have : (cs.drop off).take 1 = [cs[off]] := by rw [List.drop_eq_getElem_cons hlt]; rfl
  rw [this]
  rfl
theorem mh {d : Nat} {t : TypeId} {ks : List tt} (h : wQ P d t = some ks) : ∃ dd, P.underlying t = some dd ∧ (ru dd = false → ks.length = 1) := by
 cases d with
 | zero => simp [wQ] at h
 | succ d =>
  unfold wQ at h
  cases hu : P.underlying t with
  | none => simp [hu] at h
  | some dd =>
   refine ⟨dd, rfl, fun ha => ?_⟩
   cases dd <;> simp [hu] at h <;> first | (subst h; rfl) | simp [ru] at ha
theorem mV : ∀ (d : Nat) {t : TypeId} {ks : List tt} (_ : wQ P d t = some ks) (k : Nat) {xs ys : List LVal} {cs ds : List Value} {r : Bool},
 VL w S ρ xs cs → VL w S ρ ys ds → ym ks xs = true → ym ks ys = true → yQ xs ys = some r → (Op.equalIn (k + d) t (mkV (vw P t) cs) (mkV (vw P t) ds)).run P w = .ok r w
 | 0, t, ks, h, _, _, _, _, _, _, _, _, _, _, _ => by simp [wQ] at h
 | d + 1, t, ks, h, k, xs, ys, cs, ds, r, hx, hy, kx, ky, he => by
  unfold wQ at h
  cases hu : P.underlying t with
  | none => simp [hu] at h
  | some dd =>
   have hag : vw P t = ru dd := by simp [vw, hu]
   rw [← Nat.add_assoc, hag]
   have step : ∀ {f : TypeId} {fk rest : List tt} {off : Nat} (_ : wQ P d f = some fk) (_ : (P.info? f).map (·.size) = some fk.length) {xs' ys' : List LVal}, xs' = xs.drop off → ys' = ys.drop off → off ≤ xs.length → off ≤ ys.length →
    ym (fk ++ rest) xs' = true → ym (fk ++ rest) ys' = true → ∀ {r'}, yQ xs' ys' = some r' → ∃ va vb r1 r2, (part f ⟨cs⟩ off).run P w = .ok va w ∧ (part f ⟨ds⟩ off).run P w = .ok vb w ∧
     (Op.equalIn (k + d) f va vb).run P w = .ok r1 w ∧ off + fk.length ≤ xs.length ∧ off + fk.length ≤ ys.length ∧ ym rest (xs.drop (off + fk.length)) = true ∧ ym rest (ys.drop (off + fk.length)) = true ∧
     yQ (xs.drop (off + fk.length)) (ys.drop (off + fk.length)) = some r2 ∧ r' = (r1 && r2) := by
    intro f fk rest off hf hfi xs' ys' ex ey ox oy qx qy r' hr
    subst ex; subst ey
    obtain ⟨fd, hfd, hone⟩ := mh hf
    simp only [Option.map_eq_some_iff] at hfi
    obtain ⟨i, hi, hsz⟩ := hfi
    obtain ⟨a1, a2⟩ := su qx
    obtain ⟨b1, b2⟩ := su qy
    have lx' : off + fk.length ≤ xs.length := by
     have := yN qx
     simp at this; omega
    have ly' : off + fk.length ≤ ys.length := by
     have := yN qy
     simp at this; omega
    have lx : off + fk.length ≤ cs.length := by rw [← hx.length]; exact lx'
    have ly : off + fk.length ≤ ds.length := by rw [← hy.length]; exact ly'
    obtain ⟨r1, r2, e1, e2, e3⟩ := qd (n := fk.length) hr
    simp only [List.drop_drop] at a2 b2 e2
    exact ⟨_, _, r1, r2, rj hfd hi hsz lx hone w, rj hfd hi hsz ly hone w,
     mV d hf k ((hx.split off).2.split fk.length).1 ((hy.split off).2.split fk.length).1 a1 b1 e1, lx', ly', a2, b2, e2, e3⟩
   cases dd with
   | bool =>
    simp [hu] at h; subst h
    obtain ⟨x, rfl⟩ := List.length_eq_one_iff.1 (yN kx)
    obtain ⟨y, rfl⟩ := List.length_eq_one_iff.1 (yN ky)
    cases hx with
    | cons vx hx =>
    cases hx with
    | nil =>
    cases hy with
    | cons vy hy =>
    cases hy with
    | nil =>
     cases x <;> simp [ym, xh] at kx
     cases y <;> simp [ym, xh] at ky
     rw [vx.vn, vy.vn]
     simp [yQ, eqS] at he
     subst he
     exact Go.run_equalIn_bool w _ _ _ _ hu
   | int kk =>
    simp [hu] at h; subst h
    obtain ⟨x, rfl⟩ := List.length_eq_one_iff.1 (yN kx)
    obtain ⟨y, rfl⟩ := List.length_eq_one_iff.1 (yN ky)
    cases hx with
    | cons vx hx =>
    cases hx with
    | nil =>
    cases hy with
    | cons vy hy =>
    cases hy with
    | nil =>
     cases x <;> simp [ym, xh] at kx
     cases y <;> simp [ym, xh] at ky
     subst kx; subst ky
     rw [vx.xP, vy.xP]
     simp [yQ, eqS] at he
     subst he
     exact run_equalIn_int w _ _ _ _ _ _ hu
   | string =>
    simp [hu] at h; subst h
    obtain ⟨x, rfl⟩ := List.length_eq_one_iff.1 (yN kx)
    obtain ⟨y, rfl⟩ := List.length_eq_one_iff.1 (yN ky)
    cases hx with
    | cons vx hx =>
    cases hx with
    | nil =>
    cases hy with
    | cons vy hy =>
    cases hy with
    | nil =>
     cases x <;> simp [ym, xh] at kx
     cases y <;> simp [ym, xh] at ky
     rw [vx.vK, vy.vK]
     simp [yQ, eqS] at he
     subst he
     rw [mkV, mkV]
     simp only [ru, Bool.false_eq_true, if_false, List.headD_cons]
     rw [run_equalIn_string w _ _ _ _ hu, ← beq_toListBytes]
     congr 1
     rename_i s1 s2
     rw [Bool.eq_iff_iff, MapKept.bytes_beq]
     simp
   | struct fs =>
    simp only [hu] at h
    split at h
    ·cases h
    ·rename_i hst
     have hst' : P.stoodInHeld t = false := by simpa using hst
     have hfo : P.fieldsOf t = fs := by simp [Program.fieldsOf, hu]
     simp only [mkV, ru, if_true]
     rw [run_equalIn_struct w _ _ _ _ (by rw [hfo]; exact hu) hst', hfo]
     have main : ∀ (l : List Field) (off : Nat) (ks : List tt), nR P (wQ P d) l off = some ks → off ≤ xs.length → off ≤ ys.length → ym ks (xs.drop off) = true → ym ks (ys.drop off) = true → ∀ r, yQ (xs.drop off) (ys.drop off) = some r →
      (Op.eqFields (k + d) ⟨cs⟩ ⟨ds⟩ l).run P w = .ok r w := by
      intro l
      induction l with
      | nil =>
       intro off ks h1 ox oy h2 h3 r h4
       simp [nR] at h1; subst h1
       have e1 := List.eq_nil_of_length_eq_zero (yN h2)
       have e2 := List.eq_nil_of_length_eq_zero (yN h3)
       rw [e1, e2] at h4
       simp [yQ] at h4; subst h4
       simp [Op.eqFields]
      | cons f l ih =>
       intro off ks h1 ox oy h2 h3 r h4
       simp only [nR] at h1
       split at h1
       ·rename_i hf
        obtain ⟨hf1, hf2⟩ := hf
        simp only [Option.bind_eq_some_iff] at h1
        obtain ⟨fk, g1, g2⟩ := h1
        split at g2
        ·rename_i g3
         simp only [Option.map_eq_some_iff] at g2
         obtain ⟨rest, g4, rfl⟩ := g2
         obtain ⟨va, vb, r1, r2, p1, p2, p3, ox', oy', p4, p5, p6, p7⟩ := step g1 g3 rfl rfl ox oy h2 h3 h4
         subst p7
         subst hf2
         simp only [Op.eqFields, hf1, ne_eq, not_false_eq_true, if_true, Sem.run_bind, p1, p2, p3, Result.andThen_ok]
         cases r1 with
         | true => simpa using ih _ _ g4 ox' oy' p4 p5 _ p6
         | false => simp
        ·cases g2
       ·cases h1
     exact main fs.toList 0 ks h (Nat.zero_le _) (Nat.zero_le _) (by simpa using kx) (by simpa using ky) r (by simpa using he)
   | array n e =>
    simp only [hu, Option.bind_eq_some_iff] at h
    obtain ⟨fk, h1, h2⟩ := h
    split at h2
    ·rename_i h3
     injection h2 with h2; subst h2
     have h3' := h3
     simp only [Option.map_eq_some_iff] at h3'
     obtain ⟨i, hi, hsz⟩ := h3'
     have hce : P.cellsOf e = fk.length := by
      rw [← hsz]
      simp [Program.cellsOf, hi]
     simp only [mkV, ru, if_true]
     rw [run_equalIn_array _ _ _ _ hu hi, hce]
     have main : ∀ (m j : Nat), j * fk.length ≤ xs.length → j * fk.length ≤ ys.length → ym (List.replicate m fk).flatten (xs.drop (j * fk.length)) = true → ym (List.replicate m fk).flatten (ys.drop (j * fk.length)) = true →
      ∀ r, yQ (xs.drop (j * fk.length)) (ys.drop (j * fk.length)) = some r → (Op.eqItems (k + d) e fk.length ⟨cs⟩ ⟨ds⟩ (List.range' j m)).run P w = .ok r w := by
      intro m
      induction m with
      | zero =>
       intro j ox oy q2 q3 r q4
       simp at q2 q3
       have e1 := List.eq_nil_of_length_eq_zero (yN q2)
       have e2 := List.eq_nil_of_length_eq_zero (yN q3)
       rw [e1, e2] at q4
       simp [yQ] at q4; subst q4
       simp [Op.eqItems]
      | succ m ih =>
       intro j ox oy q2 q3 r q4
       rw [List.replicate_succ, List.flatten_cons] at q2 q3
       obtain ⟨va, vb, r1, r2, p1, p2, p3, ox', oy', p4, p5, p6, p7⟩ := step h1 h3 rfl rfl ox oy q2 q3 q4
       subst p7
       have ej : j * fk.length + fk.length = (j + 1) * fk.length := by rw [Nat.add_mul]; omega
       rw [ej] at p4 p5 p6 ox' oy'
       rw [List.range'_succ]
       simp only [Op.eqItems, Sem.run_bind, p1, p2, p3, Result.andThen_ok]
       cases r1 with
       | true => simpa using ih (j + 1) ox' oy' p4 p5 _ p6
       | false => simp
     rw [List.range_eq_range']
     exact main n 0 (by simp) (by simp) (by simpa using kx) (by simpa using ky) r (by simpa using he)
    ·cases h2
   | _ => simp [hu] at h
section
variable (h : Rel P vm lm ρ S G σ a w) {o : Oper}
include h
theorem ok_eqAgg {neq : Bool} {t t' : TypeId} {x y : Operand} {x' y' : Opd} {ks : List tt} {d : Nat} (ho : o.op = .binOp (if neq then .neq else .eql) t x y t') (hk : wQ P d t = some ks) (hd : d ≤ 100) (ha : vw P t = true)
 (hg : P.eqGuardType P.depth t = false) (hx : zp vm lm x x' = true) (hy : zp vm lm y y' = true) {v : LVal} (hs : sem C im impl σ (.wU neq ks x' y') = some (v, σ')) : yn P o a w (xk P vm lm ρ S G w a σ' v) := by
 simp only [sem, Option.bind_eq_some_iff] at hs
 obtain ⟨u, h1, u', h2, h3⟩ := hs
 split at h3
 ·rename_i xs ys
  split at h3
  ·rename_i hkk
   simp only [Bool.and_eq_true] at hkk
   simp only [Option.map_eq_some_iff] at h3
   obtain ⟨b, hb, e⟩ := h3
   injection e with e1 e2; subst e1; subst e2
   obtain ⟨cs, q1, q2, ex⟩ := (h.zM hx h1 rfl).pg
   obtain ⟨ds, q3, q4, ey⟩ := (h.zM hy h2 rfl).pg
   have heq := mV d hk (10000 - d) q1 q3 hkk.1 hkk.2 hb
   rw [show 10000 - d + d = 10000 by omega, ha] at heq
   simp only [mkV, if_true] at heq
   refine .value (cv := .bool (b != neq)) (yi (s := do eqGuard (if neq then .neq else .eql) t x y (a.eval x) (a.eval y); binOp (if neq then .neq else .eql) t (a.eval x) (a.eval y)) (by simp [execOp, ho]) ?_) (.pure h rfl (.bool _))
   rw [ex, ey, Sem.run_bind, run_eqGuard_agg w _ _ _ _ _ _ hg]
   cases neq with
   | false => simp only [Bool.false_eq_true, if_false, Result.andThen_ok, run_eql_struct, heq]; simp
   | true => simp only [if_true, Result.andThen_ok, run_neq_struct, heq]; simp
  ·cases h3
 ·cases h3
theorem lI {t e : TypeId} {l c : Operand} {l' c' : Opd} {zero : LVal} {esz bytes : Nat} {mutb : Bool} {i : TypeInfo} (ho : o.op = .makeSlice t l c) (ht : P.underlying t = some (.slice e)) (hi : P.info? e = some i) (hsz : i.size = esz) (hby : i.bytes = bytes)
 (hz : uO P e zero.cells = true) (hpos : 0 < esz) (hce : P.cellsOf e = esz) (hl : zp vm lm l l' = true) (hc : zp vm lm c c' = true) {v : LVal} (hs : sem C im impl σ (.makeSlice zero e esz bytes l' c' mutb) = some (v, σ')) :
 yn P o a w (xk P vm lm ρ S G w a σ' v) := by
 simp only [sem, Option.bind_eq_some_iff] at hs
 obtain ⟨lv, h1, cv, h2, h3⟩ := hs
 split at h3
 ·rename_i kl l0 kc c0
  split at h3
  ·rename_i hcond
   obtain ⟨c1, c2, c3, c4, c5⟩ := hcond
   obtain ⟨i', z, z1, z2, z3, z4⟩ := th hz
   rw [hi] at z1; injection z1 with z1; subst z1
   have el := (h.zM hl h1 rfl).xP
   have ec := (h.zM hc h2 rfl).xP
   unfold xl at c3 c4
   have hrun : (execOp a.eval o).run P w = .ok (.value (.slice (some ⟨w.heap.size, 0, none⟩) l0.toNat c0.toNat)) (w.alloc (.cells (madeCells z.cells (c0.toNat * esz)) e)) := by
    refine yi (s := Instr.makeSlice t (a.eval l) (a.eval c)) (by simp [execOp, ho]) ?_
    rw [el, ec, ← hsz]
    exact run_make w t e i z ht hi z2 kl kc l0 c0 c1 c2 (by rw [hby, Int.mul_comm]; omega) (by omega)
   have hzV : VL w S [] zero.cells z.cells.toList := wW.VL [] z3
   have hrow : VL w S [] ((List.replicate c0.toNat zero).flatMap LVal.cells) (madeCells z.cells (c0.toNat * esz)).toList := lh hzV c5
   have hun : ∀ (m : Nat), ∀ x ∈ List.replicate m zero, x.cells.length = esz := fun m x hx => by rw [List.eq_of_mem_replicate hx]; exact c5
   have hpl : ∀ (m : Nat), ((List.replicate m zero).flatMap LVal.cells).all LVal.plain = true := fun m => by
    rw [List.all_eq_true]
    intro x hx
    obtain ⟨y, hy, hxy⟩ := List.mem_flatMap.1 hx
    rw [List.eq_of_mem_replicate hy] at hxy
    exact List.all_eq_true.1 z4 x hxy
   have hlc : l0.toNat ≤ c0.toNat := by omega
   have hcm : c0.toNat ≤ maxLen := by unfold maxLen; omega
   split at h3
   ·split at h3
    ·rename_i hmut hlc'
     subst hlc'
     injection h3 with h3; injection h3 with e1 e2; subst e1; subst e2
     have hfl : (List.replicate l0.toNat zero.cells).flatten = (List.replicate l0.toNat zero).flatMap LVal.cells := by
      rw [List.flatMap_def, List.map_replicate]
     obtain ⟨G', k1, k2, k3⟩ := h.newObj (ob := .cells (madeCells z.cells (l0.toNat * esz)) e) (ol := .cells e (List.replicate l0.toNat zero.cells).flatten) (fun G' ρ' hG hr hρ he hk => by
      refine ⟨w.heap.size, _, hρ, xN, hG, ?_, fun o v hv => ?_⟩
      ·rw [hfl]; have := hrow.length; simp at this; simp; omega
      ·rw [hfl] at hv
       obtain ⟨c, hc, hvc⟩ := hrow.get o v hv
       have hp : v.plain = true := List.all_eq_true.1 (hpl _) v (List.mem_of_getElem? hv)
       exact ⟨.inl hp, c, by simpa using hc, (At1.simple (LVal.zO hp)).2 (hvc.mono he (zB.nil _))⟩)
     refine .value hrun (.simple k1 rfl (.ms ?_ (Nat.le_refl _) hcm) k2)
     rw [List.getElem?_append_right (by rw [h.len]; exact Nat.le_refl _)]; simp [h.len]
    ·cases h3
   ·injection h3 with h3; injection h3 with e1 e2; subst e1; subst e2
    by_cases hlc' : l0 = c0
    ·subst hlc'
     rw [if_pos rfl]
     obtain ⟨m1, m2, m3⟩ := h.newRo (.cells (madeCells z.cells (l0.toNat * esz)) e) (l0.toNat * esz)
     have hlen : ((List.replicate l0.toNat zero).flatMap LVal.cells).length = l0.toNat * esz := by rw [yY (hun _), List.length_replicate]
     have hr := Row.new (e := e) hrow (hpl _) m3 (fun o ho => .inr ⟨rfl, by omega⟩)
     refine .value hrun (.simple m1 rfl ?_ m2)
     have := V.vs (w := w.alloc (.cells (madeCells z.cells (l0.toNat * esz)) e)) (S := tC S w (l0.toNat * esz)) (ρ := ρ) (o := .full) (n := esz) (xs := List.replicate l0.toNat zero) (b := w.heap.size) (off := 0) (cap := l0.toNat)
      (by simp) hcm (fun _ => by simp) (hun _) hr
     simpa using this
    ·rw [if_neg hlc']
     have hsplit := hrow.split (l0.toNat * esz)
     have hxs : ((List.replicate c0.toNat zero).flatMap LVal.cells).take (l0.toNat * esz) = (List.replicate l0.toNat zero).flatMap LVal.cells := by
      have e1 : List.replicate c0.toNat zero = List.replicate l0.toNat zero ++ List.replicate (c0.toNat - l0.toNat) zero := by rw [List.replicate_append_replicate]; congr 1; omega
      rw [e1, List.flatMap_append, List.take_left']
      rw [yY (hun _), List.length_replicate]
     rw [hxs] at hsplit
     have harr : madeCells z.cells (c0.toNat * esz) = ((madeCells z.cells (c0.toNat * esz)).toList.take (l0.toNat * esz)).toArray ++ ((madeCells z.cells (c0.toNat * esz)).toList.drop (l0.toNat * esz)).toArray := by
      apply Array.ext'; simp
     obtain ⟨n1, n2⟩ := h.newOwn (.cells (madeCells z.cells (c0.toNat * esz)) e) ((List.replicate l0.toNat zero).length * esz) true
     refine .value hrun (.of n1 ?_ n2)
     have := At.own_new (P := P) (w := w) (ρ := ρ) (G := G) (S := S) (e := e) (n := esz) (cap := c0.toNat) (xs := List.replicate l0.toNat zero) (cells := (madeCells z.cells (c0.toNat * esz)).toList.take (l0.toNat * esz))
      (zs := ((madeCells z.cells (c0.toNat * esz)).toList.drop (l0.toNat * esz)).toArray) (pk := yr) (x := true) hsplit.1 (hpl _) (hun _) hpos hce (by simpa using hlc) hcm
      (by simp [size_madeCells, Nat.sub_mul]) (by rw [← harr]; exact n2.ext)
     rw [← harr] at this
     simpa using this
  ·cases h3
 ·cases h3
end
end Go.L
