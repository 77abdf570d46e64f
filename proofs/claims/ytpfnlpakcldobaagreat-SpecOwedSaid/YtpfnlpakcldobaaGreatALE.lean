/- Texts of the proof: L24 L25 L26 L27 L28. -/
import Derived.Test.YtpfnlpakcldobaaGreatALC
import Derived.Orders
import Derived.Test.YtpfnlpakcldobaaGreatALD
set_option linter.unusedVariables false
set_option linter.unusedSimpArgs false
set_option linter.unusedSectionVars false
namespace Go.L
open Go
variable {P : Program} {vm : List Nat} {lm : List (Option Nat)} {ρ ρ' : List Nat} {S S' : Nat → Nat → Prop} {G G' : Nat → Cl} {σ σ' : RS} {a : Act} {w w' : World}
variable {C : xV} {im : TypeId → String → Option FuncId} {impl : TypeId → TypeId → Bool}
structure vJ (P : Program) (w : World) (S : Nat → Nat → Prop) (G : Nat → Cl) (ρ : List Nat) (st : List zt) : Prop where
 swf : SWf w S G
 len : ρ.length = st.length
 rho : ∀ (id b : Nat), ρ[id]? = some b → b < w.heap.size
 st : ∀ (id : Nat) (o : zt), st[id]? = some o → ti P w S G ρ id o
def sA.uG (l : sA) : Prop := ∃ id off, l.1 = .cell id off
def sw (G : Nat → Cl) : Prop := ∀ b l e x, G b = .arr l e x → sA.uG l
def vZ (P : Program) (w : World) (S : Nat → Nat → Prop) (G : Nat → Cl) (ρ : List Nat) (st : List zt) (v : LVal) (ost : Option (List zt)) : Value → World → Prop := fun cv w' =>
 ∃ ρ' S' G', vJ P w' S' G' ρ' (ost.getD st) ∧ At P w' S' G' ρ' yr .yd v cv ∧ Pr w S G ρ w' S' G' ρ' ∧
  (ost = none → ∀ b, b < w.heap.size → w'.heap[b]? = w.heap[b]? ∧ G' b = G b) ∧ ∀ b l e x, G' b = .arr l e x → sA.uG l ∨ l.1 = .yd
def vF (P : Program) (f : FuncId) : Bool :=
 match P.funcs[f]? with
 | some fn => fn.body.isSome && !(fn.name == "runtime.NumGoroutine")
 | none => false
def vI (P : Program) (C : xV) : Prop :=
 ∀ f args st v ost, C f args st = some (v, ost) → vF P f = true ∧ ∀ cargs w S G ρ, vJ P w S G ρ st → sw G → VL w S ρ args cargs → (∀ u ∈ args, u.simple = true) →
  Calls P f ⟨cargs⟩ w fun e w' => ∃ cv, e = .returned cv ∧ vZ P w S G ρ st v ost cv w'
def uN (G : Nat → Cl) : Nat → Cl := fun b => match G b with
 | .arr (.cell id off, c) e x => .arr (.cell id off, c) e x
 | .arr _ _ _ => .ro
 | c => c
open Classical in
noncomputable def rH (n : Nat) (G G' : Nat → Cl) : Nat → Cl := fun b => if b < n ∧ uN G b ≠ G b then G b else G' b
theorem pR {b id} : uN G b = .box id ↔ G b = .box id := by
 unfold uN
 cases h : G b with
 | ro => simp
 | box i => simp
 | arr l e x => obtain ⟨l, c⟩ := l; cases l <;> simp
theorem mT {b l e x} (h : uN G b = .arr l e x) : G b = .arr l e x ∧ sA.uG l := by
 unfold uN at h
 cases hg : G b with
 | ro => simp [hg] at h
 | box i => simp [hg] at h
 | arr l' e' x' =>
  obtain ⟨l', c⟩ := l'
  cases l' <;> simp [hg] at h
  obtain ⟨rfl, rfl, rfl⟩ := h
  exact ⟨rfl, _, _, rfl⟩
theorem nF {b id off c e x} (h : G b = .arr (.cell id off, c) e x) : uN G b = G b := by unfold uN; rw [h]
theorem rG {b l e x} (h : G b = .arr l e x) (hn : ¬ sA.uG l) : uN G b = .ro := by
 unfold uN
 rw [h]
 obtain ⟨l, c⟩ := l
 cases l with
 | cell id off => exact absurd ⟨_, _, rfl⟩ hn
 | _ => rfl
theorem rF {b} (h : G b = .ro) : uN G b = .ro := by unfold uN; rw [h]
theorem sw.hide : sw (uN G) := fun b l e x h => (mT h).2
theorem SWf.hide (h : SWf w S G) : SWf w S (uN G) where
 lt := h.lt
 fresh b hb := rF (h.fresh b hb)
 box b o id hs hg := h.box b o id hs (pR.1 hg)
 arr b o l e x hs hg := h.arr b o l e x hs (mT hg).1
theorem Rel.hide (h : Rel P vm lm ρ S G σ a w) : vJ P w S (uN G) ρ σ.st where
 swf := h.swf.hide
 len := h.len
 rho := h.rho
 st id o ho := (h.st id o ho).yb (Ext.refl _ _) (zB.refl _) (fun b hb => ⟨rfl, (pR.2 hb).trans hb.symm⟩) (fun bl off c e x hb => ⟨rfl, nF hb⟩)
theorem Rel.back (h : Rel P vm lm ρ S G σ a w) {st' : List zt} {v : LVal} {cv : Value} (hc : vJ P w' S' G' ρ' st') (hv : At P w' S' G' ρ' yr .yd v cv) (hp : Pr w S (uN G) ρ w' S' G' ρ')
 (hcase : (st' = σ.st ∧ ∀ b, b < w.heap.size → w'.heap[b]? = w.heap[b]?) ∨ σ.uy) :
 Rel P vm lm ρ' S' (rH w.heap.size G G') { σ with st := st' } a w' ∧ At P w' S' (rH w.heap.size G G') ρ' yr .yd v cv ∧ Pr w S G ρ w' S' (rH w.heap.size G G') ρ' := by
 have hid : ∀ b, b < w.heap.size → uN G b ≠ G b → G' b = .ro ∧ w'.heap[b]? = w.heap[b]? ∧ ∃ l e x, G b = .arr l e x ∧ ¬ sA.uG l := by
  intro b hb hn
  have hro : uN G b = .ro ∧ ∃ l e x, G b = .arr l e x ∧ ¬ sA.uG l := by
   cases hg : G b with
   | ro => exact absurd ((rF hg).trans hg.symm) hn
   | box i => exact absurd ((pR.2 hg).trans hg.symm) hn
   | arr l e x =>
    by_cases hl : sA.uG l
    ·obtain ⟨id, off, hl⟩ := hl
     obtain ⟨l, c⟩ := l
     dsimp only at hl
     subst hl
     exact absurd (nF hg) hn
    ·exact ⟨rG hg hl, l, e, x, rfl, hl⟩
  obtain ⟨f1, f2⟩ := hp.frame b hb hro.1
  exact ⟨f2, f1, hro.2⟩
 have hsame : ∀ b, G' b ≠ .ro → rH w.heap.size G G' b = G' b := by
  intro b hb
  unfold rH
  split
  ·rename_i hc; exact absurd (hid b hc.1 hc.2).1 hb
  ·rfl
 have hown : ∀ bl l e x, G bl = .arr l e x → ¬ sA.uG l → w'.heap[bl]? = w.heap[bl]? ∧ rH w.heap.size G G' bl = G bl := by
  intro bl l e x hg hl
  have hlt := h.swf.uu (b := bl) (by rw [hg]; simp)
  have hro := rG hg hl
  obtain ⟨f1, f2⟩ := hp.frame bl hlt hro
  refine ⟨f1, ?_⟩
  unfold rH
  rw [if_pos ⟨hlt, by rw [hro, hg]; simp⟩]
 have hnc : ∀ (b : qn) (c : Nat), (∀ id off, b ≠ .cell id off) → ¬ sA.uG (b, c) := by
  rintro b c hb ⟨id, off, h⟩; exact hb id off h
 refine ⟨?_, hv.yb (Ext.refl _ _) (zB.refl _) (fun bl c e x hb => ⟨rfl, hsame bl (by rw [hb]; simp)⟩) (fun _ _ _ h => h), ?_⟩
 ·exact {
   defers := h.defers
   vsz := h.vsz
   lsz := h.lsz
   swf := {
    lt := hc.swf.lt
    fresh := fun b hb => by
     have := hp.size
     unfold rH
     rw [if_neg (by omega)]
     exact hc.swf.fresh b hb
    box := fun b o id hs hg => by
     unfold rH at hg
     split at hg
     ·rename_i hcc
      obtain ⟨_, _, l, e, x, h1, _⟩ := hid b hcc.1 hcc.2
      rw [h1] at hg; cases hg
     ·exact hc.swf.box b o id hs hg
    arr := fun b o l e x hs hg => by
     unfold rH at hg
     split at hg
     ·rename_i hcc
      obtain ⟨q1, _, l', e', x', h1, h2⟩ := hid b hcc.1 hcc.2
      rcases hp.tC b o hs with hs | hs | hs
      ·exact h.swf.arr b o l e x hs hg
      ·omega
      ·exact absurd (rG h1 h2) hs
     ·exact hc.swf.arr b o l e x hs hg }
   len := hc.len
   rho := hc.rho
   st := fun id o ho => (hc.st id o ho).yb (Ext.refl _ _) (zB.refl _) (fun b hb => ⟨rfl, hsame b (by rw [hb]; simp)⟩) (fun bl off c e x hb => ⟨rfl, hsame bl (by rw [hb]; simp)⟩)
   vars := fun k u hu => by
    obtain ⟨t, h1, h2, h3⟩ := h.vars k u hu
    exact ⟨t, h1, h2, h3.yb hp.ext hp.rho (fun bl c e x hb => hown bl _ e x hb (hnc _ _ (by simp))) (fun _ _ _ h => h)⟩
   rs := fun i u hu => by
    rcases h.rs i u hu with h0 | ⟨t, h1, h2, h3⟩
    ·exact .inl h0
    ·refine .inr ⟨t, h1, h2, ?_⟩
     rcases hcase with ⟨e, hb⟩ | hn
     ·subst e
      exact h3.yb hp.ext hp.rho (fun bl c e x hb => hown bl _ e x hb (hnc _ _ (by simp))) (fun p n xs hpk => tm.heap hpk hp.rho (fun id b hid _ => hb b (h.rho id b hid)))
     ·exact (h3.uy (fun bb p n xs e => hn i bb p n xs (e ▸ hu))).yb hp.ext hp.rho (fun bl c e x hb => hown bl _ e x hb (hnc _ _ (by simp))) (fun _ _ _ h => h) }
 ·refine ⟨hp.os, hp.tape, hp.output, hp.size, hp.ext, hp.rho, fun b hb hg => ?_, fun b o hs => ?_⟩
  ·obtain ⟨f1, f2⟩ := hp.frame b hb (rF hg)
   refine ⟨f1, ?_⟩
   unfold rH
   rw [if_neg (by rw [rF hg, hg]; simp)]
   exact f2
  ·rcases hp.tC b o hs with hs | hs | hs
   ·exact .inl hs
   ·exact .inr (.inl hs)
   ·exact .inr (.inr fun e => hs (rF e))
def vM (n : Nat) (G G' : Nat → Cl) : Nat → Cl := fun b => if b < n then G b else match G' b with
 | .arr (.yd, c) e x => .arr (.yd, c) e x
 | _ => .ro
theorem Rel.ph (h : Rel P vm lm ρ S G σ a w) {v : LVal} {cv : Value} (hc : SWf w' S' G') (hv : At P w' S' G' [] yr .yd v cv) (hp : Pr w S (fun _ => .ro) [] w' S' G' []) (h4 : ∀ b, b < w.heap.size → w'.heap[b]? = w.heap[b]? ∧ G' b = .ro) :
 Rel P vm lm ρ S' (vM w.heap.size G G') σ a w' ∧ At P w' S' (vM w.heap.size G G') ρ yr .yd v cv ∧ Pr w S G ρ w' S' (vM w.heap.size G G') ρ := by
 have hlt : ∀ b, b < w.heap.size → vM w.heap.size G G' b = G b := fun b hb => by unfold vM; rw [if_pos hb]
 have hsz := hp.size
 have hS : ∀ b o, S' b o → b < w.heap.size → S b o := fun b o hs hb => by
  rcases hp.tC b o hs with h1 | h1 | h1
  ·exact h1
  ·omega
  ·exact absurd rfl h1
 refine ⟨h.yb hp.ext hsz {
  lt := hc.lt
  fresh := fun b hb => by unfold vM; rw [if_neg (by omega), hc.fresh b hb]
  box := fun b o id hs hg => by
   by_cases hb : b < w.heap.size
   ·rw [hlt b hb] at hg; exact h.swf.box b o id (hS b o hs hb) hg
   ·unfold vM at hg
    rw [if_neg hb] at hg
    split at hg <;> cases hg
  arr := fun b o l e x hs hg => by
   by_cases hb : b < w.heap.size
   ·rw [hlt b hb] at hg; exact h.swf.arr b o l e x (hS b o hs hb) hg
   ·unfold vM at hg
    rw [if_neg hb] at hg
    split at hg
    ·rename_i hg'
     injection hg with g1 g2 g3; subst g2; subst g3
     exact hc.arr b o _ _ _ hs hg'
    ·cases hg }
  (fun b id hg => ⟨(h4 b (h.swf.uu (by rw [hg]; simp))).1, hlt b (h.swf.uu (by rw [hg]; simp))⟩) (fun b l e x hg _ => ⟨(h4 b (h.swf.uu (by rw [hg]; simp))).1, hlt b (h.swf.uu (by rw [hg]; simp))⟩), ?_, ?_⟩
 ·refine hv.yb (Ext.refl _ _) (zB.nil _) (fun bl c e x hg => ⟨rfl, ?_⟩) (fun _ _ _ h => h)
  have hb : ¬ bl < w.heap.size := fun hb => by have := (h4 bl hb).2; rw [hg] at this; cases this
  unfold vM
  rw [if_neg hb, hg]
 ·exact ⟨hp.os, hp.tape, hp.output, hsz, hp.ext, zB.refl _, fun b hb hg => ⟨(h4 b hb).1, (hlt b hb).trans hg⟩, fun b o hs => by
   by_cases hb : b < w.heap.size
   ·exact .inl (hS b o hs hb)
   ·exact .inr (.inl (by omega))⟩
theorem yn.call {o : Oper} {f : FuncId} {args : Array Value} {R : Value → World → Prop} (hr : (execOp a.eval o).run P w = .ok (.enter f args) w) (hC : Calls P f args w fun e w' => ∃ cv, e = .returned cv ∧ R cv w') : yn P o a w R := by
 intro K Q hk
 unfold Oper.wp
 rw [hr]
 refine Calls.mono hC ?_
 rintro e w' ⟨cv, rfl, hR⟩
 exact hk cv w' hR
theorem LVal.nX {v : LVal} (h : v.simple = true) : v.arg.simple = true := by
 cases v with
 | vs b o n xs => cases o <;> simp_all [LVal.arg, LVal.simple]
 | _ => exact h
theorem VL.args {l : List LVal} {cs : List Value} (h : VL w S ρ l cs) : VL w S ρ (l.map LVal.arg) cs := by
 induction l generalizing cs with
 | nil => cases h; exact .nil
 | cons v l ih => cases h with | cons h1 h2 => exact .cons (LVal.arg_V h1) (ih h2)
def mK (P : Program) (name : String) (p : Nat × Nat) : Bool := match P.info? p.1 with
 | some i => match i.methods.find? (·.name == name) with
  | some m => m.path.isEmpty && (match m.func, P.underlying p.1 with
   | some (f, pr), some (.pointer _) => f == p.2 && pr
   | some (f, pr), some _ => f == p.2 && !pr
   | _, _ => false)
  | none => false
 | none => false
theorem methB_ok {P : Program} {name : String} {t f : Nat} (h : mK P name (t, f) = true) (v : Value) (w : World) : (method (P.types.size + Made.depth) t v name).run P w = .ok (f, v) w := by
 unfold mK at h
 dsimp only at h
 cases hi : P.info? t with
 | none => rw [hi] at h; cases h
 | some i =>
  rw [hi] at h
  dsimp only at h
  cases hm : i.methods.find? (·.name == name) with
  | none => rw [hm] at h; cases h
  | some m =>
   rw [hm] at h
   simp only [Bool.and_eq_true] at h
   obtain ⟨h1, h2⟩ := h
   obtain ⟨n, hn⟩ : ∃ n, P.types.size + Made.depth = n + 1 := ⟨P.types.size + (Made.depth - 1), by unfold Made.depth; rfl⟩
   rw [hn]
   have hp : m.path.toList = [] := by simpa using h1
   cases hf : m.func with
   | none => rw [hf] at h2; simp at h2
   | some fp =>
    obtain ⟨f', pr⟩ := fp
    rw [hf] at h2
    cases hu : P.underlying t with
    | none => rw [hu] at h2; simp at h2
    | some d =>
     rw [hu] at h2
     have ht : (typeInfo t).run P w = .ok i w := by simp [typeInfo, hi]
     cases d
     all_goals
      simp only [Bool.and_eq_true, beq_iff_eq, Bool.not_eq_true'] at h2
      obtain ⟨rfl, rfl⟩ := h2
      simp [method, ht, hm, hp, hf, follow, receiverAt, run_underlying hu, Place.get]
section
variable (h : Rel P vm lm ρ S G σ a w) {o : Oper}
include h
omit h in
theorem mD {f : FuncId} (hf : vF P f = true) (args : Array Value) : (callFunc f args).run P w = .ok (.enter f args) w := by
 unfold vF at hf
 cases hfn : P.funcs[f]? with
 | none => simp [hfn] at hf
 | some fn =>
  simp only [hfn, Bool.and_eq_true, Bool.not_eq_true'] at hf
  obtain ⟨hb, hn⟩ := hf
  have hb' : fn.body.isNone = false := by cases hbb : fn.body with
   | none => rw [hbb] at hb; simp at hb
   | some _ => rfl
  have hn' : ¬ fn.name = "runtime.NumGoroutine" := by simpa using hn
  have hb2 : ¬ fn.body = none := by intro e; rw [e] at hb; simp at hb
  simp [callFunc, hfn, hn', hb2]
theorem qG (hC : vI P C) {f : FuncId} {us : List LVal} {cargs : List Value} {v : LVal} (hV : VL w S ρ us cargs) (hs : us.all LVal.simple = true) (hc : ye σ (C f us σ.st) = some (v, σ'))
 (hr : vF P f = true → (execOp a.eval o).run P w = .ok (.enter f ⟨cargs⟩) w) : yn P o a w (xk P vm lm ρ S G w a σ' v) := by
 cases hcf : C f us σ.st with
 | none => rw [hcf] at hc; simp [ye] at hc
 | some r =>
  obtain ⟨u, ost⟩ := r
  rw [hcf] at hc
  have hcalls := (hC f us σ.st u ost hcf).2 cargs w S (uN G) ρ h.hide sw.hide hV (fun x hx => List.all_eq_true.1 hs x hx)
  refine .call (hr (hC f us σ.st u ost hcf).1) (Calls.mono hcalls ?_)
  rintro e w' ⟨cv, rfl, ρ', S', G', c1, c2, c3, c4, c5⟩
  refine ⟨cv, rfl, ?_⟩
  cases ost with
  | none =>
   simp only [ye, Option.some.injEq, Prod.mk.injEq] at hc
   obtain ⟨rfl, rfl⟩ := hc
   obtain ⟨k1, k2, k3⟩ := h.back c1 c2 c3 (.inl ⟨rfl, fun b hb => (c4 rfl b hb).1⟩)
   exact .of k1 k2 k3
  | some st =>
   simp only [ye, Option.some.injEq, Prod.mk.injEq] at hc
   obtain ⟨rfl, rfl⟩ := hc
   obtain ⟨k1, k2, k3⟩ := h.yJ.back c1 c2 c3 (.inr σ.vq)
   exact .of k1 k2 k3
omit h in
theorem sx {us : List LVal} (hs : us.all LVal.simple = true) : (us.map LVal.arg).all LVal.simple = true := by
 rw [List.all_eq_true] at hs ⊢
 intro x hx
 obtain ⟨y, hy, rfl⟩ := List.mem_map.1 hx
 exact LVal.nX (hs y hy)
omit h in
theorem rh {f : FuncId} {args : Array Operand} {at_ : Array TypeId} {x : Operand} {caps : List Value} (ho : o.op = .call ⟨.value x, args, at_⟩) (hx : a.eval x = .func (.func f) #[] ⟨caps⟩) (hf : vF P f = true) :
 (execOp a.eval o).run P w = .ok (.enter f ⟨args.toList.map a.eval ++ caps⟩) w := by
 have : (⟨args.toList.map a.eval ++ caps⟩ : Array Value) = args.map a.eval ++ ⟨caps⟩ := by apply Array.ext'; simp
 rw [this]
 simp [execOp, ho, resolve, Deferred.ofValue, invoke, hx, mD hf]
theorem ok_call (hC : vI P C) {f : FuncId} {args : Array Operand} {ys : List Opd} {at_ : Array TypeId} (ho : o.op = .call ⟨.value (.func f), args, at_⟩) (hx : xR vm lm args.toList ys = true) {v : LVal}
 (hs : sem C im impl σ (.call f ys) = some (v, σ')) : yn P o a w (xk P vm lm ρ S G w a σ' v) := by
 simp only [sem, Option.bind_eq_some_iff] at hs
 obtain ⟨r, h1, h2⟩ := hs
 obtain ⟨S', G', k1, k2, k3, k4⟩ := h.takes hx (us := r.1) (σ' := r.2) h1
 have hr : vF P f = true → (execOp a.eval o).run P w = .ok (.enter f ⟨args.toList.map a.eval⟩) w := fun hf => by
  have := rh (P := P) (a := a) (w := w) (o := o) (caps := []) ho rfl hf
  rwa [List.append_nil] at this
 have := qG k1 hC (us := r.1.map LVal.arg) k2.args (sx k3) h2 hr
 intro K Q hk
 exact this K Q fun cv w' ⟨ρ', S2, G2, m1, m2, m3⟩ => hk cv w' ⟨ρ', S2, G2, m1, m2, k4.trans m3⟩
theorem ok_callv (hC : vI P C) {x : Operand} {x' : Opd} {args : Array Operand} {ys : List Opd} {at_ : Array TypeId} (ho : o.op = .call ⟨.value x, args, at_⟩) (hxx : zp vm lm x x' = true) (hx : xR vm lm args.toList ys = true) {v : LVal}
 (hs : sem C im impl σ (.tM x' ys) = some (v, σ')) : yn P o a w (xk P vm lm ρ S G w a σ' v) := by
 simp only [sem, Option.bind_eq_some_iff] at hs
 obtain ⟨u, h0, hs⟩ := hs
 cases u with
 | func f caps =>
  simp only [Option.bind_eq_some_iff] at hs
  obtain ⟨r, h1, h2⟩ := hs
  have hVf := h.zM hxx h0 rfl
  obtain ⟨S', G', k1, k2, k3, k4⟩ := h.takes hx (us := r.1) (σ' := r.2) h1
  generalize hcx : a.eval x = cx at hVf
  cases hVf with
  | func hcs hpl =>
   rename_i cs
   have hr := fun hf => rh (P := P) (a := a) (w := w) (o := o) (f := f) (caps := cs) ho hcx hf
   have hcaps : VL w S' ρ caps cs := hcs.mono k4.ext (zB.refl _)
   have hall : (r.1.map LVal.arg ++ caps).all LVal.simple = true := by
    rw [List.all_append, sx k3, Bool.true_and, List.all_eq_true]
    intro y hy
    exact LVal.zO (List.all_eq_true.1 hpl y hy)
   have := qG k1 hC (us := r.1.map LVal.arg ++ caps) (k2.args.append hcaps) hall h2 hr
   intro K Q hk
   exact this K Q fun cv w' ⟨ρ', S2, G2, m1, m2, m3⟩ => hk cv w' ⟨ρ', S2, G2, m1, m2, k4.trans m3⟩
 | _ => simp at hs
omit h in
theorem nd {name : String} : ∀ {tbl : List (Nat × Nat)} {t f : Nat}, tbl.all (mK P name) = true → tbl.lookup t = some f → mK P name (t, f) = true
 | [], t, f, _, h => by cases h
 | (k, e) :: r, t, f, ha, h => by
  simp only [List.all_cons, Bool.and_eq_true] at ha
  simp only [List.lookup] at h
  split at h
  ·rename_i hk
   injection h with h; subst h
   have := eq_of_beq hk
   subst this
   exact ha.1
  ·exact nd ha.2 h
theorem ok_invoke (hC : vI P C) {x : Operand} {x' : Opd} {name : String} {tbl : List (Nat × Nat)} {args : Array Operand} {ys : List Opd} {at_ : Array TypeId} (ho : o.op = .call ⟨.invoke x name, args, at_⟩) (hxx : zp vm lm x x' = true) (htbl : tbl.all (mK P name) = true) (hx : xR vm lm args.toList ys = true) {v : LVal}
 (hs : sem C im impl σ (.invoke x' name tbl ys) = some (v, σ')) : yn P o a w (xk P vm lm ρ S G w a σ' v) := by
 simp only [sem, Option.bind_eq_some_iff] at hs
 obtain ⟨u, h0, hs⟩ := hs
 cases u with
 | iface t u =>
  simp only [Option.bind_eq_some_iff] at hs
  obtain ⟨f, hf, r, h1, h2⟩ := hs
  have hVf := h.zM hxx h0 rfl
  obtain ⟨S', G', k1, k2, k3, k4⟩ := h.takes hx (us := r.1) (σ' := r.2) h1
  generalize hcx : a.eval x = cx at hVf
  cases hVf with
  | iface hu hpl =>
   rename_i cu
   have hm := fun w => methB_ok (nd htbl hf) cu w
   have hr : vF P f = true → (execOp a.eval o).run P w = .ok (.enter f ⟨cu :: args.toList.map a.eval⟩) w := fun hc => by
    have e : (⟨cu :: args.toList.map a.eval⟩ : Array Value) = #[cu] ++ args.map a.eval := by apply Array.ext'; simp
    rw [e]
    have e2 : (#[Value.iface t cu] ++ Array.map a.eval args)[0]? = some (Value.iface t cu) := by rw [Array.getElem?_append_left (by simp)]; rfl
    simp [execOp, ho, resolve, invoke, hcx, callMethod]
    rw [e2]
    simp [hm, mD hc]
    have : (Array.map a.eval args).extract 0 args.size = Array.map a.eval args := by
     conv => lhs; rw [show args.size = (Array.map a.eval args).size by simp]
     exact Array.extract_size
    rw [this]
   have hu' : V w S' ρ u cu := hu.mono k4.ext (zB.refl _)
   have hsu : u.simple = true := by
    rcases hpl with hp | hp
    ·exact LVal.zO hp
    ·cases u <;> simp_all [LVal.isAgg, LVal.simple]
   have := qG k1 hC (us := u :: r.1.map LVal.arg) (.cons hu' k2.args) (by rw [List.all_cons, hsu, Bool.true_and]; exact sx k3) h2 hr
   intro K Q hk
   exact this K Q fun cv w' ⟨ρ', S2, G2, m1, m2, m3⟩ => hk cv w' ⟨ρ', S2, G2, m1, m2, k4.trans m3⟩
 | _ => simp at hs
theorem ok_callp (hC : vI P C) {f : FuncId} {args : Array Operand} {ys : List Opd} {at_ : Array TypeId} (ho : o.op = .call ⟨.value (.func f), args, at_⟩) (hx : xR vm lm args.toList ys = true) {v : LVal}
 (hs : sem C im impl σ (.yR f ys) = some (v, σ')) : yn P o a w (xk P vm lm ρ S G w a σ' v) := by
 simp only [sem, Option.bind_eq_some_iff] at hs
 obtain ⟨r, h1, h2⟩ := hs
 split at h2
 ·rename_i hpf
  simp only [Option.bind_eq_some_iff] at h2
  obtain ⟨⟨u, ost⟩, hcf, h3⟩ := h2
  cases ost with
  | some _ => simp at h3
  | none =>
   simp at h3
   obtain ⟨rfl, rfl⟩ := h3
   obtain ⟨S1, G1, k1, k2, k3, k4⟩ := h.takes hx (us := r.1) (σ' := r.2) h1
   have hr := rh (P := P) (a := a) (w := w) (o := o) (caps := []) ho rfl (hC f (r.1.map LVal.arg) [] u none hcf).1
   rw [List.append_nil] at hr
   have hV0 : VL w S1 [] (r.1.map LVal.arg) (args.toList.map a.eval) := (k2.lL hpf).args
   have hcr : vJ P w S1 (fun _ => .ro) [] [] := ⟨⟨k1.swf.lt, fun _ _ => rfl, fun _ _ _ _ h => (by cases h), fun _ _ _ _ _ _ h => (by cases h)⟩, rfl, fun _ _ h => (by simp at h), fun _ _ h => (by simp at h)⟩
   have hcalls := (hC f (r.1.map LVal.arg) [] u none hcf).2 _ w S1 (fun _ => .ro) [] hcr (fun _ _ _ _ h => (by cases h)) hV0 (fun x hx => List.all_eq_true.1 (sx k3) x hx)
   refine .call hr (Calls.mono hcalls ?_)
   rintro e w' ⟨cv, rfl, ρ', S', G', c1, c2, c3, c4, c5⟩
   refine ⟨cv, rfl, ?_⟩
   have hρ : ρ' = [] := List.eq_nil_of_length_eq_zero (by simpa using c1.len)
   subst hρ
   obtain ⟨m1, m2, m3⟩ := k1.ph c1.swf c2 c3 (c4 rfl)
   exact .of m1 m2 (k4.trans m3)
 ·cases h2
end
def vN (G : Nat → Cl) (id : Nat) : Nat → Cl := fun b => match G b with
 | .box id' => if id' = id then .ro else .box id'
 | .arr (.cell id' off, c) e x => if id' = id then .ro else .arr (.cell id' off, c) e x
 | c => c
theorem rE {id b} (h : G b = .ro) : vN G id b = .ro := by unfold vN; rw [h]
theorem mR {id b i} (h : vN G id b = .box i) : G b = .box i := by
 unfold vN at h
 cases hg : G b with
 | ro => simp [hg] at h
 | box j => simp only [hg] at h; split at h; · cases h
            ·exact h
 | arr l e x =>
  obtain ⟨l, c⟩ := l
  cases l <;> simp [hg] at h
  split at h <;> cases h
theorem pQ {id b l e x} (h : vN G id b = .arr l e x) : G b = .arr l e x := by
 unfold vN at h
 cases hg : G b with
 | ro => simp [hg] at h
 | box j => simp only [hg] at h; split at h <;> cases h
 | arr l' e' x' =>
  obtain ⟨l', c⟩ := l'
  cases l' <;> simp only [hg] at h
  ·exact h
  ·split at h
   ·cases h
   ·exact h
  ·exact h
  ·exact h
theorem nE {id b i} (h : G b = .box i) (hn : i ≠ id) : vN G id b = G b := by unfold vN; rw [h]; simp [hn]
theorem oh {id b i off c e x} (h : G b = .arr (.cell i off, c) e x) (hn : i ≠ id) : vN G id b = G b := by unfold vN; rw [h]; simp [hn]
theorem gkill_var {id bl k c e x} (h : G bl = .arr (.var k, c) e x) : vN G id bl = G bl := by unfold vN; rw [h]
theorem gkill_rs {id bl k c e x} (h : G bl = .arr (.rs k, c) e x) : vN G id bl = G bl := by unfold vN; rw [h]
theorem pfs_mem {v : LVal} : ∀ {l : List LVal}, LVal.pfs l = true → v ∈ l → v.pf = true
 | [], _, h => by simp at h
 | x :: l, hp, h => by
  simp only [LVal.pfs, Bool.and_eq_true] at hp
  rcases List.mem_cons.1 h with rfl | h
  ·exact hp.1
  ·exact pfs_mem hp.2 h
theorem Rel.freeze (h : Rel P vm lm ρ S G σ a w) {id b : Nat} {et : TypeId} {c : List LVal} (hst : σ.st[id]? = some (.cells et c)) (hb : ρ[id]? = some b) (hp : c.all LVal.plain = true) (hpf : LVal.pfs c = true) :
 ∃ S', Rel P vm lm ρ S' (vN G id) { σ.yJ with st := σ.st.set id .dead } a w ∧ Pr w S G ρ w S' (vN G id) ρ ∧ Row w S' b 0 c := by
 have hn := h.yJ
 obtain ⟨b', cc, q1, q2, q3, q4, q5⟩ := h.st id _ hst
 obtain rfl : b = b' := by rw [hb] at q1; exact Option.some.inj q1
 have hg : vN G id b = .ro := by unfold vN; rw [q3]; simp
 have he : Ext S w (fun b' o => S b' o ∨ (b' = b ∧ o < c.length)) w := fun b o hs => ⟨.inl hs, rfl⟩
 refine ⟨fun b' o => S b' o ∨ (b' = b ∧ o < c.length), ?_, ⟨rfl, rfl, rfl, Nat.le_refl _, he, zB.refl _, fun b hlt hg => ⟨rfl, rE hg⟩, fun b' o hs => ?_⟩, ?_⟩
 ·exact {
   defers := h.defers
   vsz := h.vsz
   lsz := h.lsz
   swf := {
    lt := fun b o hs => by
     rcases hs with hs | ⟨rfl, _⟩
     ·exact h.swf.lt b o hs
     ·exact h.rho id _ hb
    fresh := fun b hb => rE (h.swf.fresh b hb)
    box := fun b o i hs hg' => by
     rcases hs with hs | ⟨rfl, _⟩
     ·exact h.swf.box b o i hs (mR hg')
     ·rw [hg] at hg'; cases hg'
    arr := fun b o l e x hs hg' => by
     rcases hs with hs | ⟨rfl, _⟩
     ·exact h.swf.arr b o l e x hs (pQ hg')
     ·rw [hg] at hg'; cases hg' }
   len := by simpa using h.len
   rho := h.rho
   st := fun i o ho => by
    by_cases hi : id = i
    ·subst hi
     dsimp only at ho
     rw [List.getElem?_set] at ho
     simp at ho
     obtain ⟨_, rfl⟩ := ho
     trivial
    ·dsimp only at ho
     rw [List.getElem?_set_ne hi] at ho
     exact (h.st i o ho).yb he (zB.refl _) (fun b hg' => ⟨rfl, nE hg' (fun e => hi e.symm)⟩) (fun bl off c e x hg' => ⟨rfl, oh hg' (fun e => hi e.symm)⟩)
   vars := fun k v hv => by
    obtain ⟨t, h1, h2, h3⟩ := hn.vars k v hv
    exact ⟨t, h1, h2, h3.yb he (zB.refl _) (fun bl c e x hg' => ⟨rfl, gkill_var hg'⟩) (fun _ _ _ h => h)⟩
   rs := fun i v hv => by
    rcases hn.rs i v hv with h0 | ⟨t, h1, h2, h3⟩
    ·exact .inl h0
    ·exact .inr ⟨t, h1, h2, (h3.uy (fun bb p n xs e => σ.vq i bb p n xs (e ▸ hv))).yb he (zB.refl _) (fun bl c e x hg' => ⟨rfl, gkill_rs hg'⟩) (fun _ _ _ h => h)⟩ }
 ·rcases hs with hs | ⟨rfl, _⟩
  ·exact .inl hs
  ·exact .inr (.inr (by rw [q3]; simp))
 ·refine Cells.row fun j v hj => ?_
  obtain ⟨_, cv, m1, m2⟩ := q5 j v hj
  have hlt := (List.getElem?_eq_some_iff.1 hj).1
  have hvp := List.all_eq_true.1 hp v (List.mem_of_getElem? hj)
  have hV : V w S ρ v cv := (At1.simple (LVal.zO hvp)).1 m2
  refine ⟨.inr ⟨rfl, by omega⟩, cv, ?_, (hV.re (pfs_mem hpf (List.mem_of_getElem? hj))).mono he (zB.refl _), hvp⟩
  rw [Nat.zero_add]
  simp [World.cell?, q2, m1]
theorem qK {agg : Bool} {esz : Nat} : ∀ (n : Nat) (cs : List LVal), (chunks agg esz n cs).length = n
 | 0, _ => rfl
 | n + 1, cs => by simp [chunks, qK n]
theorem sT {agg : Bool} {esz : Nat} (ha : agg = false → esz = 1) : ∀ (n : Nat) (cs : List LVal), cs.length = n * esz → cs.all LVal.plain = true → (∀ x ∈ chunks agg esz n cs, x.cells.length = esz) ∧ (chunks agg esz n cs).flatMap LVal.cells = cs
 | 0, cs, hl, _ => by
  have : cs = [] := List.eq_nil_of_length_eq_zero (by simpa using hl)
  subst this
  exact ⟨by simp [chunks], rfl⟩
 | n + 1, cs, hl, hp => by
  have hl' : (cs.drop esz).length = n * esz := by rw [List.length_drop, hl, Nat.succ_mul]; omega
  have hp' : (cs.drop esz).all LVal.plain = true := by
   rw [List.all_eq_true] at hp ⊢
   exact fun x hx => hp x (List.mem_of_mem_drop hx)
  obtain ⟨i1, i2⟩ := sT ha n (cs.drop esz) hl' hp'
  have hle : esz ≤ cs.length := by rw [hl, Nat.succ_mul]; omega
  have hx : (if agg then LVal.agg (cs.take esz) else cs.headD .undef).cells = cs.take esz := by
   cases agg with
   | true => rfl
   | false =>
    have := ha rfl
    subst this
    cases cs with
    | nil => simp at hle
    | cons v r =>
     have hv : v.plain = true := List.all_eq_true.1 hp v (List.mem_cons_self ..)
     cases v <;> first | rfl | (simp [LVal.plain] at hv)
  constructor
  ·intro y hy
   simp only [chunks, List.mem_cons] at hy
   rcases hy with rfl | hy
   ·rw [hx, List.length_take]; omega
   ·exact i1 y hy
  ·simp only [chunks, List.flatMap_cons, hx, i2, List.take_append_drop]
section
variable (h : Rel P vm lm ρ S G σ a w) {o : Oper}
include h
theorem ok_sliceArr {t e : TypeId} {n esz : Nat} {agg : Bool} {x : Operand} {x' : Opd} (ho : o.op = .slice t x none none none) (ht : P.underlying t = some (.array n e)) (he : ry P e agg esz = true) (hnl : n ≤ maxLen)
 (hx : zp vm lm x x' = true) {v : LVal} (hs : sem C im impl σ (.sq n esz agg x' none none) = some (v, σ')) : yn P o a w (xk P vm lm ρ S G w a σ' v) := by
 simp only [sem, RS.xe, Option.bind_some, Option.bind_eq_some_iff] at hs
 obtain ⟨u, h1, hs⟩ := hs
 split at hs
 ·rename_i id
  split at hs
  ·rename_i et c hst
   split at hs
   ·rename_i hc
    obtain ⟨hc1, hc2, hc3⟩ := hc
    simp only [bound, Option.bind_some, Option.map_some, Option.some.injEq, Prod.mk.injEq, if_true] at hs
    obtain ⟨rfl, rfl⟩ := hs
    have hVp := h.zM hx h1 rfl
    generalize hcx : a.eval x = cx at hVp
    cases hVp with
    | ptr hb =>
     rename_i b
     obtain ⟨S', k1, k2, k3⟩ := h.freeze hst hb hc2 hc3
     obtain ⟨d, i, d1, d2, d3, d4, d5⟩ := uQ he
     obtain ⟨c1, c2⟩ := sT (agg := agg) (esz := esz) d5 n c hc1 hc2
     have hlen := qK (agg := agg) (esz := esz) n c
     refine .value (yi (s := Instr.sliceAt t (a.eval x) none none none) (by simp [execOp, ho]) (cv := .slice (some ⟨b, 0, none⟩) n n) ?_) (.simple k1 rfl ?_ k2)
     ·rw [hcx]
      have e1 : P.arrayLen t = n := by simp [Program.arrayLen, ht]
      have e2 : P.elem t = e := by simp [Program.elem, ht]
      rw [run_sliceAt_array_all w t _ (by rw [e1, e2]; exact ht), e1, e2, xS d3, Result.andThen_ok]
      simp [slicedAt]
      intro _
      rfl
     ·rw [List.drop_zero, List.take_of_length_le (by omega)]
      have := V.vs (w := w) (S := S') (ρ := ρ) (o := .full) (n := esz) (xs := chunks agg esz n c) (b := b) (off := 0) (cap := n) (by omega) hnl (fun _ => hlen.symm) c1 (by rw [c2]; exact k3)
      rw [hlen] at this
      exact this
   ·cases hs
  ·cases hs
 ·cases hs
end
theorem Rel.kJ (h : Rel P vm lm ρ S G σ a w) {k n : Nat} {e : TypeId} {xs : List LVal} {agg : Bool} (hk : σ.vars[k]? = some (.vs false (.own e true) n xs)) :
 ∃ b t cap, vm[k]? = some t ∧ a.tmps.getD t undef = .slice (some ⟨b, 0, none⟩) xs.length cap ∧ xs.length ≤ cap ∧ cap ≤ maxLen ∧
  ∃ G', Rel P vm lm (ρ ++ [b]) S G' { σ.yJ with vars := σ.vars.set k (.ms σ.st.length 0 xs.length n agg), st := σ.st ++ [.cells e (xs.flatMap LVal.cells)] } a w ∧ Pr w S G ρ w S G' (ρ ++ [b]) := by
 have hn := h.yJ
 obtain ⟨t, h1, h2, h3⟩ := h.vars k _ hk
 obtain ⟨_, b, cap, cur, q1, q2, q3, q4, q5, q6, q7, q8, q9, q10⟩ := (At.nt (by simp)).1 h3
 have hbs : b < w.heap.size := (Array.getElem?_eq_some_iff.1 q2).1
 have hnb : ∀ o, ¬ S b o := fun o hs => by
  have := (h.swf.arr b o _ _ _ hs q8).1
  cases this
 have hlen := h.len
 have hG : ∀ b', b' ≠ b → (if b' = b then Cl.box σ.st.length else G b') = G b' := fun b' hb => if_neg hb
 have harr : ∀ bl l e x, G bl = .arr l e x → l ≠ (.var k, 0) → bl ≠ b := fun bl l e x hg hl he => by
  rw [he, q8] at hg
  injection hg with hg
  exact hl hg.symm
 have hbox : ∀ bl i, G bl = .box i → bl ≠ b := fun bl i hg he => by rw [he, q8] at hg; cases hg
 refine ⟨b, t, cap, h1, q1, q3, q4, fun b' => if b' = b then .box σ.st.length else G b', ?_, ⟨rfl, rfl, rfl, Nat.le_refl _, Ext.refl _ _, zB.app _ _, fun b' hb hg => ⟨rfl, ?_⟩, fun b o hs => .inl hs⟩⟩
 ·exact {
   defers := h.defers
   vsz := h.vsz
   lsz := h.lsz
   swf := {
    lt := h.swf.lt
    fresh := fun b' hb => by
     rw [hG b' (by omega)]
     exact h.swf.fresh b' hb
    box := fun b' o i hs => by
     by_cases he : b' = b
     ·subst he; exact absurd hs (hnb o)
     ·rw [hG b' he]; exact h.swf.box b' o i hs
    arr := fun b' o l e x hs => by
     by_cases he : b' = b
     ·subst he; exact absurd hs (hnb o)
     ·rw [hG b' he]; exact h.swf.arr b' o l e x hs }
   len := by simp [hlen]
   rho := fun i b' hi => by
    by_cases hlt : i < ρ.length
    ·rw [List.getElem?_append_left hlt] at hi
     exact h.rho i b' hi
    ·rw [List.getElem?_append_right (by omega)] at hi
     have := (List.getElem?_eq_some_iff.1 hi).1
     simp at this
     have hi0 : i - ρ.length = 0 := by omega
     rw [hi0] at hi
     simp at hi
     omega
   st := fun i o ho => by
    dsimp only at ho
    by_cases hlt : i < σ.st.length
    ·rw [List.getElem?_append_left hlt] at ho
     exact (h.st i o ho).yb (Ext.refl _ _) (zB.app _ _) (fun bl hg => ⟨rfl, hG bl (hbox bl _ hg)⟩) (fun bl off c e x hg => ⟨rfl, hG bl (harr bl _ _ _ hg (by simp))⟩)
    ·rw [List.getElem?_append_right (by omega)] at ho
     have hi1 := (List.getElem?_eq_some_iff.1 ho).1
     simp at hi1
     have hi0 : i = σ.st.length := by omega
     subst hi0
     simp at ho
     subst ho
     refine ⟨b, cur, by rw [← hlen]; simp, q2, if_pos rfl, ?_, fun o v hv => ?_⟩
     ·rw [yY q9, q5]; exact Nat.mul_le_mul_right n q3
     ·obtain ⟨_, c, m1, m2, m3⟩ := q10 o v hv
      refine ⟨.inl m3, c, ?_, (At1.simple (LVal.zO m3)).2 (m2.mono (Ext.refl _ _) (zB.nil _))⟩
      simpa [World.cell?, q2] using m1
   vars := fun j v hv => by
    dsimp only at hv
    by_cases hj : k = j
    ·subst hj
     have hlt := (List.getElem?_eq_some_iff.1 hk).1
     rw [List.getElem?_set] at hv
     simp [hlt] at hv
     subst hv
     refine ⟨t, h1, h2, ?_⟩
     rw [q1]
     exact V.ms (by rw [← hlen]; simp) q3 q4
    ·rw [List.getElem?_set_ne hj] at hv
     obtain ⟨t', m1, m2, m3⟩ := hn.vars j v hv
     exact ⟨t', m1, m2, m3.yb (Ext.refl _ _) (zB.app _ _) (fun bl c e x hg => ⟨rfl, hG bl (harr bl _ _ _ hg (fun e => hj (by injection e with e; injection e with e; exact e.symm)))⟩) (fun _ _ _ h => h)⟩
   rs := fun i v hv => by
    rcases hn.rs i v hv with h0 | ⟨t', m1, m2, m3⟩
    ·exact .inl h0
    ·exact .inr ⟨t', m1, m2, (m3.uy (fun bb p n xs e => σ.vq i bb p n xs (e ▸ hv))).yb (Ext.refl _ _) (zB.app _ _) (fun bl c e x hg => ⟨rfl, hG bl (harr bl _ _ _ hg (by simp))⟩) (fun _ _ _ h => h)⟩ }
 ·rw [hG b' (fun he => by rw [he, q8] at hg; cases hg)]
  exact hg
theorem Rel.thawP (h : Rel P vm lm ρ S G σ a w) {n : Nat} {e : TypeId} {xs : List LVal} {cv : Value} (hv : At1 P w S G ρ yr (.yd, 0) (.vs false (.own e true) n xs) cv) :
 ∃ b cap, cv = .slice (some ⟨b, 0, none⟩) xs.length cap ∧ xs.length ≤ cap ∧ cap ≤ maxLen ∧
  ∃ G', Rel P vm lm (ρ ++ [b]) S G' { σ.yJ with st := σ.st ++ [.cells e (xs.flatMap LVal.cells)] } a w ∧ Pr w S G ρ w S G' (ρ ++ [b]) := by
 have hn := h.yJ
 obtain ⟨_, b, cap, cur, q1, q2, q3, q4, q5, q6, q7, q8, q9, q10⟩ := hv
 have hbs : b < w.heap.size := (Array.getElem?_eq_some_iff.1 q2).1
 have hnb : ∀ o, ¬ S b o := fun o hs => by
  have := (h.swf.arr b o _ _ _ hs q8).1
  cases this
 have hlen := h.len
 have hG : ∀ b', b' ≠ b → (if b' = b then Cl.box σ.st.length else G b') = G b' := fun b' hb => if_neg hb
 have harr : ∀ bl l e x, G bl = .arr l e x → l ≠ (.yd, 0) → bl ≠ b := fun bl l e x hg hl he => by
  rw [he, q8] at hg
  injection hg with hg
  exact hl hg.symm
 have hbox : ∀ bl i, G bl = .box i → bl ≠ b := fun bl i hg he => by rw [he, q8] at hg; cases hg
 refine ⟨b, cap, q1, q3, q4, fun b' => if b' = b then .box σ.st.length else G b', ?_, ⟨rfl, rfl, rfl, Nat.le_refl _, Ext.refl _ _, zB.app _ _, fun b' hb hg => ⟨rfl, ?_⟩, fun b o hs => .inl hs⟩⟩
 ·exact {
   defers := h.defers
   vsz := h.vsz
   lsz := h.lsz
   swf := {
    lt := h.swf.lt
    fresh := fun b' hb => by
     rw [hG b' (by omega)]
     exact h.swf.fresh b' hb
    box := fun b' o i hs => by
     by_cases he : b' = b
     ·subst he; exact absurd hs (hnb o)
     ·rw [hG b' he]; exact h.swf.box b' o i hs
    arr := fun b' o l e x hs => by
     by_cases he : b' = b
     ·subst he; exact absurd hs (hnb o)
     ·rw [hG b' he]; exact h.swf.arr b' o l e x hs }
   len := by simp [hlen]
   rho := fun i b' hi => by
    by_cases hlt : i < ρ.length
    ·rw [List.getElem?_append_left hlt] at hi
     exact h.rho i b' hi
    ·rw [List.getElem?_append_right (by omega)] at hi
     have := (List.getElem?_eq_some_iff.1 hi).1
     simp at this
     have hi0 : i - ρ.length = 0 := by omega
     rw [hi0] at hi
     simp at hi
     omega
   st := fun i o ho => by
    dsimp only at ho
    by_cases hlt : i < σ.st.length
    ·rw [List.getElem?_append_left hlt] at ho
     exact (h.st i o ho).yb (Ext.refl _ _) (zB.app _ _) (fun bl hg => ⟨rfl, hG bl (hbox bl _ hg)⟩) (fun bl off c e x hg => ⟨rfl, hG bl (harr bl _ _ _ hg (by simp))⟩)
    ·rw [List.getElem?_append_right (by omega)] at ho
     have hi1 := (List.getElem?_eq_some_iff.1 ho).1
     simp at hi1
     have hi0 : i = σ.st.length := by omega
     subst hi0
     simp at ho
     subst ho
     refine ⟨b, cur, by rw [← hlen]; simp, q2, if_pos rfl, ?_, fun o v hv => ?_⟩
     ·rw [yY q9, q5]; exact Nat.mul_le_mul_right n q3
     ·obtain ⟨_, c, m1, m2, m3⟩ := q10 o v hv
      refine ⟨.inl m3, c, ?_, (At1.simple (LVal.zO m3)).2 (m2.mono (Ext.refl _ _) (zB.nil _))⟩
      simpa [World.cell?, q2] using m1
   vars := fun j v hv => by
    obtain ⟨t', m1, m2, m3⟩ := hn.vars j v hv
    exact ⟨t', m1, m2, m3.yb (Ext.refl _ _) (zB.app _ _) (fun bl c e x hg => ⟨rfl, hG bl (harr bl _ _ _ hg (by simp))⟩) (fun _ _ _ h => h)⟩
   rs := fun i v hv => by
    rcases hn.rs i v hv with h0 | ⟨t', m1, m2, m3⟩
    ·exact .inl h0
    ·exact .inr ⟨t', m1, m2, (m3.uy (fun bb p n xs e => σ.vq i bb p n xs (e ▸ hv))).yb (Ext.refl _ _) (zB.app _ _) (fun bl c e x hg => ⟨rfl, hG bl (harr bl _ _ _ hg (by simp))⟩) (fun _ _ _ h => h)⟩ }
 ·rw [hG b' (fun he => by rw [he, q8] at hg; cases hg)]
  exact hg
theorem set_same0 {α : Type} {l : List α} {i : Nat} {v : α} (h : l[i]? = some v) : l.set i v = l := by
 apply List.ext_getElem?
 intro j
 rw [List.getElem?_set]
 split
 ·rename_i e
  subst e
  split
  ·exact h.symm
  ·rename_i hn
   exact absurd (List.getElem?_eq_some_iff.1 h).1 hn
 ·rfl
theorem flat_agg {zero : List LVal} : ∀ (len : Nat), (List.replicate len zero).flatten = (List.replicate len (LVal.agg zero)).flatMap LVal.cells
 | 0 => rfl
 | n + 1 => by simp only [List.replicate_succ, List.flatten_cons, List.flatMap_cons, flat_agg n]; rfl
section
variable (h : Rel P vm lm ρ S G σ a w) {o : Oper}
include h
theorem ok_thaw {x : Operand} {k esz : Nat} {agg : Bool} (ho : o.op = .move x) (hx : zp vm lm x (.var k) = true) {v : LVal} (hs : sem C im impl σ (.kJ k esz agg) = some (v, σ')) : yn P o a w (xk P vm lm ρ S G w a σ' v) := by
 simp only [sem, Option.bind_eq_some_iff] at hs
 obtain ⟨u, h1, hs⟩ := hs
 split at hs
 ·rename_i e n xs
  split at hs
  ·injection hs with hs; injection hs with e1 e2; subst e1; subst e2
   obtain ⟨b, t, cap, k1, k2, k3, k4, G', k5, k6⟩ := h.kJ (agg := agg) h1
   rename_i hn
   obtain ⟨rfl, _⟩ := hn
   have hex : a.eval x = .slice (some ⟨b, 0, none⟩) xs.length cap := by
    cases x <;> simp [zp] at hx
    rename_i t'
    rw [k1] at hx
    injection hx with hx
    subst hx
    exact k2
   refine .value (yi (s := Pure.pure (a.eval x)) (by simp [execOp, ho]) (cv := a.eval x) (w' := w) (by simp)) (.simple k5 rfl ?_ k6)
   rw [hex]
   exact .ms (by rw [← h.len]; simp) k3 k4
  ·cases hs
 ·cases hs
theorem ok_out {x : Operand} {k : Nat} (ho : o.op = .assign x ∨ o.op = .move x) (hc : zp vm lm x (.var k) = true) {v : LVal} (hs : sem C im impl σ (.out k) = some (v, σ')) : yn P o a w (xk P vm lm ρ S G w a σ' v) := by
 simp only [sem, Option.bind_eq_some_iff] at hs
 obtain ⟨u, h1, hs⟩ := hs
 split at hs
 ·rename_i b e y n xs
  injection hs with hs; injection hs with e1 e2; subst e1; subst e2
  obtain ⟨t, q1, q2, q3⟩ := h.vars k _ h1
  have hex : a.eval x = a.tmps.getD t undef := by
   cases x <;> simp [zp] at hc
   rename_i t'
   rw [q1] at hc
   injection hc with hc
   subst hc
   rfl
  rw [← hex] at q3
  have hu := h.yJ.oT σ.vq k
  have hf : RS.frees { σ.yJ with vars := σ.vars.set k .undef } (.var k) := by
   intro z hz
   rw [List.getElem?_set] at hz
   simp at hz
   rw [← hz.2]; rfl
  exact .value (cv := a.eval x) (w' := w) (by rcases ho with ho | ho <;> simp [execOp, ho]) (.of (hu.xT hf) ((At.nt (by simp)).2 (At1.xT ((At.nt (by simp)).1 q3))) (Pr.xT ..))
 ·exact ok_take h ho hc hs
theorem ok_asgT {x : Operand} {y : Opd} {esz : Nat} {agg : Bool} (ho : o.op = .assign x ∨ o.op = .move x) (hc : zp vm lm x y = true) {v : LVal} (hs : sem C im impl σ (.asgT y esz agg) = some (v, σ')) : yn P o a w (xk P vm lm ρ S G w a σ' v) := by
 simp only [sem, Option.bind_eq_some_iff] at hs
 obtain ⟨r, h1, hs⟩ := hs
 obtain ⟨S', G', k1, k2, k3⟩ := h.yW hc (v := r.1) (σ' := r.2) h1
 have hrun : (execOp a.eval o).run P w = .ok (.value (a.eval x)) w := by rcases ho with ho | ho <;> simp [execOp, ho]
 split at hs
 ·rename_i e n xs hr
  split at hs
  ·rename_i hn
   injection hs with hs; injection hs with e1 e2; subst e1; subst e2
   rw [hr] at k2
   obtain ⟨b, cap, m1, m2, m3, G2, m4, m5⟩ := k1.thawP ((At.nt (by simp)).1 k2)
   refine .value hrun (.simple m4 rfl ?_ (k3.trans m5))
   rw [m1, hn.1.symm]
   exact .ms (by rw [← k1.len]; simp) m2 m3
  ·cases hs
 ·cases hs
 ·injection hs with hs; injection hs with e1 e2; subst e1; subst e2
  exact .value hrun (.of k1 k2 k3)
theorem ok_sft {x : Operand} {y : Opd} (ho : o.op = .assign x ∨ o.op = .move x) (hc : zp vm lm x y = true) {v : LVal} (hs : sem C im impl σ (.sft y) = some (v, σ')) : yn P o a w (xk P vm lm ρ S G w a σ' v) := by
 simp only [sem, Option.map_eq_some_iff] at hs
 obtain ⟨r, h1, hs⟩ := hs
 injection hs with e1 e2; subst e1; subst e2
 obtain ⟨S', G', k1, k2, k3, k4⟩ := h.take hc (u := r.1) (σ' := r.2) h1
 refine .value (cv := a.eval x) (w' := w) ?_ (.simple k1 (LVal.nX k3) (LVal.arg_V k2) k4)
 rcases ho with ho | ho <;> simp [execOp, ho]
theorem ok_clear {x : Operand} {x' : Opd} {zero : List LVal} {t e : TypeId} {at_ : Array TypeId} (ho : o.op = .call ⟨.builtin .clear, #[x], at_⟩) (hat : at_[0]? = some t) (ht : P.underlying t = some (.slice e)) (hz : uO P e zero = true) (hx : zp vm lm x x' = true) {v : LVal}
 (hs : sem C im impl σ (.clear zero x') = some (v, σ')) : yn P o a w (xk P vm lm ρ S G w a σ' v) := by
 simp only [sem, Option.bind_eq_some_iff] at hs
 obtain ⟨u, h1, hs⟩ := hs
 split at hs
 ·rename_i id off len esz agg
  split at hs
  ·rename_i ty c hst
   split at hs
   ·rename_i hcond
    obtain ⟨hzl, hle, hzp⟩ := hcond
    injection hs with hs; injection hs with e1 e2; subst e1; subst e2
    obtain ⟨b, cap, hb, hcap, hmaxl, ex⟩ := (h.zM hx h1 rfl).pK
    obtain ⟨i, z, z1, z2, z3, z4⟩ := th hz
    have hn := h.yJ
    by_cases hl0 : len = 0
    ·subst hl0
     have hsame : σ.st.set id (.cells ty (c.take off ++ (List.replicate 0 zero).flatten ++ c.drop (off + 0 * esz))) = σ.st := by
      simp only [List.replicate_zero, List.flatten_nil, List.append_nil, Nat.zero_mul, Nat.add_zero, List.take_append_drop]
      exact set_same0 hst
     rw [hsame]
     have hrun : (Builtin.clear_ at_ o.type #[.slice (some ⟨b, off, none⟩) 0 cap]).run P w = .ok (.tuple #[]) w := by
      simp [Builtin.clear_, hat, run_underlying ht]
     obtain ⟨cs, hcs⟩ := uD (a := a) ho
     exact .value (yi (s := Builtin.clear_ at_ o.type #[a.eval x]) (by rw [hcs]; simp [builtin]) (by rw [ex]; exact hrun)) (.simple hn rfl .undef (Pr.refl ..))
    obtain ⟨m, rfl⟩ : ∃ m, len = m + 1 := ⟨len - 1, by omega⟩
    obtain ⟨b', cc, q1, q2, q3, q4, q5⟩ := hn.st id _ hst
    obtain rfl : b = b' := by rw [hb] at q1; exact Option.some.inj q1
    have hzV : VL w S [] zero z.cells.toList := wW.VL [] z3
    have hzs : z.cells.size = esz := by have := hzV.length; simp at this; omega
    have hrow := lh (w := w) (S := S) (zero := .agg zero) (z := z) (len := m + 1) (n := esz) hzV hzl
    rw [← flat_agg] at hrow
    have hpl : ((List.replicate (m + 1) zero).flatten).all LVal.plain = true := by
     rw [List.all_eq_true]
     intro y hy
     obtain ⟨l, hl, hyl⟩ := List.mem_flatten.1 hy
     rw [List.eq_of_mem_replicate hl] at hyl
     exact List.all_eq_true.1 hzp y hyl
    obtain ⟨_, hone⟩ := (V.agg (ρ := []) hrow hpl).cells hpl
    have hzc : Builtin.zeroCells z.cells (m + 1) = Array.map (fun i => z.cells[i % z.cells.size]!) (Array.range ((m + 1) * esz)) := by
     unfold Builtin.zeroCells
     rw [hzs]
    generalize hus : (Array.map (fun i => z.cells[i % z.cells.size]!) (Array.range ((m + 1) * esz))) = us at hrow hone hzc
    generalize hls : (List.replicate (m + 1) zero).flatten = ls at hrow hpl
    have hll : ls.length = (m + 1) * esz := by
     rw [← hls, List.length_flatten]
     simp [hzl]
    have hul : us.toList.length = (m + 1) * esz := by have := hrow.length; omega
    have hcs : cc.toList.length = cc.size := by simp
    have hus2 : us.size = us.toList.length := by simp
    have hspl := wm c ls off (by omega)
    have hspc := wm cc.toList us.toList off (by simp only [Array.length_toList]; omega)
    rw [hll] at hspl
    rw [hul] at hspc
    obtain ⟨k1, k2⟩ := hn.setRow (c' := c.take off ++ ls ++ c.drop (off + (m + 1) * esz)) (cc' := (cc.toList.take off ++ us.toList ++ cc.toList.drop (off + (m + 1) * esz)).toArray)
     hst hb q2 q3 (by
      rw [List.size_toArray, List.length_append, List.length_append, List.length_append, List.length_append, List.length_take, List.length_take, List.length_drop, List.length_drop]
      omega) (fun o u hu => by
      rw [hspl o] at hu
      have hce : ((cc.toList.take off ++ us.toList ++ cc.toList.drop (off + (m + 1) * esz)).toArray)[o]? = if off ≤ o ∧ o < off + (m + 1) * esz then us.toList[o - off]? else cc.toList[o]? := by
       rw [← hspc o]; simp
      rw [hce]
      split at hu
      ·rename_i hin
       rw [if_pos hin]
       obtain ⟨x, hx, hxV⟩ := hrow.get _ u hu
       have hup := List.all_eq_true.1 hpl u (List.mem_of_getElem? hu)
       exact ⟨.inl hup, x, hx, (At1.simple (LVal.zO hup)).2 (hxV.mono (Ext.refl _ _) (zB.nil _))⟩
      ·rename_i hin
       rw [if_neg hin]
       obtain ⟨m0, x, m1, m2⟩ := q5 o u hu
       exact ⟨m0, x, by simpa using m1, m2⟩) (fun o e x k xs x' hco hcc hnn => absurd σ.vq hnn)
    have hrun : (Builtin.clear_ at_ o.type #[.slice (some ⟨b, off, none⟩) (m + 1) cap]).run P w = .ok (.tuple #[]) (w.setRow b (cc.toList.take off ++ us.toList ++ cc.toList.drop (off + (m + 1) * esz)).toArray) := by
     have hst2 := run_storeCells_at P b off ty us.toList 0 cc w q2 (by omega) hone
     simp only [Builtin.clear_, hat]
     simp [run_underlying ht, x9 z1 z2, hzc]
     simp only [Nat.add_zero, hul] at hst2
     rw [hst2, ← List.append_assoc]
     rfl
    obtain ⟨cs, hcs⟩ := uD (a := a) ho
    exact .value (yi (s := Builtin.clear_ at_ o.type #[a.eval x]) (by rw [hcs]; simp [builtin]) (by rw [ex]; exact hrun)) (.simple k1 rfl .undef k2)
   ·cases hs
  ·cases hs
 ·cases hs
end
end Go.L
namespace Go.L
open Go
variable {P : Program} {vm : List Nat} {lm : List (Option Nat)} {ρ ρ' : List Nat} {S S' : Nat → Nat → Prop} {G G' : Nat → Cl} {σ σ' : RS} {a : Act} {w w' : World}
variable {C : xV} {im : TypeId → String → Option FuncId} {impl : TypeId → TypeId → Bool}
def szOk (P : Program) (t : TypeId) (n : Nat) : Bool := (P.info? t).map (·.size) == some n
def chkNil : Nat → TypeDesc → Value → Bool
 | 0, .pointer _, .pointer none => true
 | 1, .slice _, .slice none 0 0 => true
 | 2, .map _ _, .map none => true
 | 3, .func _ _ _, .nilFunc => true
 | 4, .interface _, .nilIface => true
 | _, _, _ => false
def isStr (P : Program) (t : TypeId) : Bool := match P.underlying t with | some .string => true | _ => false
def isBool (P : Program) (t : TypeId) : Bool := match P.underlying t with | some .bool => true | _ => false
def isByte (P : Program) (t : TypeId) : Bool := match P.underlying t with | some (.int .u8) => true | _ => false
def isKind (P : Program) (t : TypeId) (k : IntKind) : Bool := match P.underlying t with | some (.int k') => decide (k' = k) | _ => false
def uh (P : Program) (t : TypeId) : Option TypeId := match P.underlying t with | some (.slice e) => some e | _ => none
def lU (P : Program) (t : TypeId) : tt → Bool
 | .b => isBool P t
 | .i k => isKind P t k
 | .s => isStr P t
def eqOp (neq : Bool) : BinOp := if neq then .neq else .eql
def kz (P : Program) (e : TypeId) (esz bytes : Nat) : Bool :=
 match P.info? e with
 | some i => match i.zero with
  | some z => z.cells.size == esz && i.size == esz && i.bytes == bytes && decide (0 < esz)
  | none => false
 | none => false
theorem tv {t} (h : isStr P t = true) : P.underlying t = some .string := by unfold isStr at h; split at h <;> first | assumption | cases h
theorem mQ {t} (h : isBool P t = true) : P.underlying t = some .bool := by unfold isBool at h; split at h <;> first | assumption | cases h
theorem mP {t} (h : isByte P t = true) : P.underlying t = some (.int .u8) := by unfold isByte at h; split at h <;> first | assumption | cases h
theorem mO {t k} (h : isKind P t k = true) : P.underlying t = some (.int k) := by
 unfold isKind at h
 split at h
 ·rename_i hk; rw [hk, of_decide_eq_true h]
 ·cases h
theorem vj {t e} (h : uh P t = some e) : P.underlying t = some (.slice e) := by
 unfold uh at h
 split at h
 ·rename_i hk; injection h with h; subst h; exact hk
 ·cases h
theorem pL {t k} (h : lU P t k = true) : P.underlying t = some (vA k) := by
 cases k with
 | b => exact mQ h
 | i k => exact mO h
 | s => exact tv h
theorem qQ {t n} (h : szOk P t n = true) : (P.info? t).map (·.size) = some n := by simpa [szOk] using h
theorem mX {e esz bytes} (h : kz P e esz bytes = true) : ∃ i z, P.info? e = some i ∧ i.zero = some z ∧ z.cells.size = esz ∧ i.size = esz ∧ i.bytes = bytes ∧ 0 < esz ∧ P.cellsOf e = esz := by
 unfold kz at h
 cases hi : P.info? e with
 | none => simp [hi] at h
 | some i =>
  cases hz : i.zero with
  | none => simp [hi, hz] at h
  | some z =>
   simp only [hi, hz, Bool.and_eq_true, beq_iff_eq, decide_eq_true_eq] at h
   obtain ⟨⟨⟨h1, h2⟩, h3⟩, h4⟩ := h
   exact ⟨i, z, rfl, hz, h1, h2, h3, h4, by simp [Program.cellsOf, hi, h2]⟩
def kj (P : Program) (s : TypeId) (f off n : Nat) (agg : Bool) : Bool :=
 match P.underlying s with
 | some (.struct fs) => match fs[f]? with
  | some fl => fl.offset == off && ry P fl.type agg n && decide (0 < n)
  | none => false
 | _ => false
theorem m9 {s f off n agg} (h : kj P s f off n agg = true) : ∃ fs fl, P.underlying s = some (.struct fs) ∧ fs[f]? = some fl ∧ fl.offset = off ∧ ry P fl.type agg n = true ∧ 0 < n := by
 unfold kj at h
 split at h
 ·rename_i fs hs
  cases hf : fs[f]? with
  | none => simp [hf] at h
  | some fl =>
   simp only [hf, Bool.and_eq_true, beq_iff_eq, decide_eq_true_eq] at h
   exact ⟨fs, fl, hs, hf, h.1.1, h.1.2, h.2⟩
 ·cases h
def arrayOf (P : Program) (t : TypeId) : Option (Nat × TypeId) := match P.underlying t with | some (.array n e) => some (n, e) | _ => none
theorem sV {t n e} (h : arrayOf P t = some (n, e)) : P.underlying t = some (.array n e) := by
 unfold arrayOf at h
 split at h
 ·rename_i hk; injection h with h; injection h with h1 h2; subst h1; subst h2; exact hk
 ·cases h
def mapOf (P : Program) (t : TypeId) : Option (TypeId × TypeId) := match P.underlying t with | some (.map k e) => some (k, e) | _ => none
theorem px {t k e} (h : mapOf P t = some (k, e)) : P.underlying t = some (.map k e) := by
 unfold mapOf at h
 split at h
 ·rename_i hk; injection h with h; injection h with h1 h2; subst h1; subst h2; exact hk
 ·cases h
def nh (P : Program) (t : TypeId) : Bool := match P.underlying t with | some (.interface _) => false | some _ => true | none => false
theorem notIface_ok {t} (h : nh P t = true) : ∃ d, P.underlying t = some d ∧ ∀ ms, d ≠ .interface ms := by
 unfold nh at h
 cases hu : P.underlying t with
 | none => simp [hu] at h
 | some d =>
  refine ⟨d, rfl, fun ms e => ?_⟩
  subst e
  simp [hu] at h
def yV (P : Program) (vm : List Nat) (lm : List (Option Nat)) (op : Op) : LOp → Bool
 | .mv y p => match op with | .move x => zp vm lm x y | _ => false
 | .asg y => match op with | .assign x => zp vm lm x y | _ => false
 | .pick c' x' y' => match op with | .pick c x y => zp vm lm c c' && zp vm lm x x' && zp vm lm y y' | _ => false
 | .alloc t' cells => match op with | .alloc t => t == t' && uO P t cells | _ => false
 | .box t' y => match op with | .box t x => t == t' && zp vm lm x y | _ => false
 | .build zero qs => match op with | .build t ps => uO P t zero && buildable P t && rN P vm lm (placesOf P t) ps.toList qs | _ => false
 | .zI zero esz len' qs => match op with
  | .buildSlice t len ps => match uh P t with
   | some e => len == len' && uO P e zero.cells && szOk P e esz && decide (len * esz ≤ 2 ^ 24) && decide (len ≤ 2 ^ 24) && rP vm lm ps.toList qs
   | none => false
  | _ => false
 | .load agg n y p => match op with | .load t x => ry P t agg n && zp vm lm x y | _ => false
 | .store n x' y' => match op with | .store t x y => szOk P t n && zp vm lm x x' && zp vm lm y y' | _ => false
 | .nilCheck y => match op with | .nilCheck x => zp vm lm x y | _ => false
 | .bin bo x' y' => match op with | .binOp bo' _ x y _ => decide (bo' = bo) && zp vm lm x x' && zp vm lm y y' | _ => false
 | .un uo x' => match op with | .unOp uo' _ x => decide (uo' = uo) && zp vm lm x x' | _ => false
 | .wU neq ks x' y' => match op with
  | .binOp bo t x y _ => decide (bo = eqOp neq) && decide (wQ P 9 t = some ks) && vw P t && !P.eqGuardType P.depth t && zp vm lm x x' && zp vm lm y y'
  | _ => false
 | .isNil kind neq x' => match op with
  | .binOp bo t x (.const c) _ => match P.underlying t with
   | some d => decide (bo = eqOp neq) && chkNil kind d c && zp vm lm x x'
   | none => false
  | _ => false
 | .uV neq x' y' => match op with | .binOp bo t x y _ => decide (bo = eqOp neq) && isBool P t && zp vm lm x x' && zp vm lm y y' | _ => false
 | .xd k x' => match op with | .convert s d x => (P.underlying s).isSome && isKind P d k && zp vm lm x x' | _ => false
 | .cvId x' => match op with | .convert s d x => isStr P s && isStr P d && zp vm lm x x' | _ => false
 | .vW x' => match op with
  | .convert s d x => match uh P s with
   | some e => isByte P e && isStr P d && zp vm lm x x'
   | none => false
  | _ => false
 | .vO x' => match op with
  | .convert s d x => match uh P d with
   | some e => isByte P e && isStr P s && zp vm lm x x'
   | none => false
  | _ => false
 | .vu t' x' => match op with | .makeInterface t x => t == t' && P.concrete t && zp vm lm x x' | _ => false
 | .tF f' ys => match op with | .makeFunc (.func f) first caps => first.isEmpty && f == f' && xR vm lm caps.toList ys | _ => false
 | .mkMap => match op with | .makeMap _ none => true | _ => false
 | .ng y => match op with | .makeMap t (some x) => (mapOf P t).isSome && zp vm lm x y | _ => false
 | .makeSlice zero e' esz bytes l' c' m => match op with
  | .makeSlice t l c => match uh P t with
   | some e => e == e' && kz P e esz bytes && uO P e zero.cells && zp vm lm l l' && zp vm lm c c'
   | none => false
  | _ => false
 | .tD x' lo' hi' => match op with | .slice t x lo hi none => isStr P t && zp vm lm x x' && vC vm lm lo lo' && vC vm lm hi hi' | _ => false
 | .xf esz x' lo' hi' mx' => match op with
  | .slice t x lo hi mx => match uh P t with
   | some e => szOk P e esz && (mx'.isNone || hi'.isSome) && zp vm lm x x' && vC vm lm lo lo' && vC vm lm hi hi' && vC vm lm mx mx'
   | none => false
  | _ => false
 | .sq n esz agg x' lo' hi' => match op with
  | .slice t x none none none => match arrayOf P t with
   | some (m, e) => m == n && lo'.isNone && hi'.isNone && ry P e agg esz && decide (n ≤ maxLen) && zp vm lm x x'
   | none => false
  | _ => false
 | .fieldAddr off n agg x' => match op with | .fieldAddr s x f => kj P s f off n agg && zp vm lm x x' | _ => false
 | .field off n agg x' => match op with | .field s x f => kj P s f off n agg && zp vm lm x x' | _ => false
 | .zF len esz agg x' i' => match op with
  | .indexAddr t x i => match arrayOf P t with
   | some (n, e) => n == len && ry P e agg esz && zp vm lm x x' && zp vm lm i i'
   | none => false
  | _ => false
 | .zh esz x' i' => match op with
  | .indexAddr t x i => match uh P t with
   | some e => szOk P e esz && zp vm lm x x' && zp vm lm i i'
   | none => false
  | _ => false
 | .tI len esz agg x' i' => match op with
  | .index t x i => match arrayOf P t with
   | some (n, e) => n == len && ry P e agg esz && zp vm lm x x' && zp vm lm i i'
   | none => false
  | _ => false
 | .qJ x' i' => match op with | .index t x i => isStr P t && zp vm lm x x' && zp vm lm i i' | _ => false
 | .lookup kd zero x' i' ok' => match op with
  | .lookup t x i ok => match mapOf P t with
   | some (k, e) => ok == ok' && lU P k kd && rW P e zero && zp vm lm x x' && zp vm lm i i'
   | none => false
  | _ => false
 | .mapUpdate kd m' k' v' => match op with
  | .mapUpdate t m k v => match mapOf P t with
   | some (kt, _) => lU P kt kd && zp vm lm m m' && zp vm lm k k' && zp vm lm v v'
   | none => false
  | .insert t m k v => match mapOf P t with
   | some (kt, _) => lU P kt kd && zp vm lm m m' && zp vm lm k k' && zp vm lm v v'
   | none => false
  | _ => false
 | .tR t' zero x' ok' => match op with | .typeAssert x _ t ok => t == t' && ok == ok' && nh P t && rW P t zero && zp vm lm x x' | _ => false
 | .u9 t' x' => match op with | .typeAssert x _ t ok => t == t' && !ok && zp vm lm x x' | _ => false
 | .extract x' i' => match op with | .extract x i => i == i' && zp vm lm x x' | _ => false
 | .call f' ys => match op with | .call ⟨.value (.func f), args, _⟩ => f == f' && xR vm lm args.toList ys | _ => false
 | .yR f' ys => match op with | .call ⟨.value (.func f), args, _⟩ => f == f' && xR vm lm args.toList ys | _ => false
 | .tM x' ys => match op with | .call ⟨.value x, args, _⟩ => zp vm lm x x' && xR vm lm args.toList ys | _ => false
 | .out k => match op with | .move x => zp vm lm x (.var k) | .assign x => zp vm lm x (.var k) | _ => false
 | .asgT y esz agg => match op with | .move x => zp vm lm x y | .assign x => zp vm lm x y | _ => false
 | .sft y => match op with | .move x => zp vm lm x y | .assign x => zp vm lm x y | _ => false
 | .kJ k esz agg => match op with | .move x => zp vm lm x (.var k) | _ => false
 | .clear zero x' => match op with
  | .call ⟨.builtin .clear, ⟨[x]⟩, at_⟩ => match at_[0]? with
   | some t => match uh P t with
    | some e => uO P e zero && zp vm lm x x'
    | none => false
   | none => false
  | _ => false
 | .invoke x' name tbl ys => match op with | .call ⟨.invoke x n, args, _⟩ => n == name && tbl.all (mK P name) && zp vm lm x x' && xR vm lm args.toList ys | _ => false
 | .len k x' => match op with
  | .call ⟨.builtin .len, ⟨[x]⟩, at_⟩ => match at_[0]? with
   | some t => match P.underlying t with
    | some d => r8 k d && zp vm lm x x'
    | none => false
   | none => false
  | _ => false
 | .append e' esz bytes x' y' => match op with
  | .call ⟨.builtin .append, ⟨[x, y]⟩, ⟨[t, u]⟩⟩ => match uh P t with
   | some e => e == e' && ((uh P u).isSome || isStr P u) && kz P e esz bytes && zp vm lm x x' && zp vm lm y y'
   | none => false
  | _ => false
 | .vg mx x' ys => match op with
  | .call ⟨.builtin b, ⟨x :: xs⟩, _⟩ => decide (b = (if mx then .max else .min)) && zp vm lm x x' && xR vm lm xs ys
  | _ => false
 | .kS n x' => match op with
  | .sliceToArrayPointer t x => match arrayOf P t with
   | some (m, e) => m == n && szOk P e 1 && zp vm lm x x'
   | none => false
  | _ => false
 | .fail => true
section
variable (h : Rel P vm lm ρ S G σ a w) {o : Oper}
include h
theorem op_ok (hC : vI P C) (himpl : ∀ t t', impl t t' = true → ∃ want i, P.underlying t = some (.interface want) ∧ P.info? t' = some i ∧ Instr.missingMethod want i.methods = none)
 {l : LOp} (hc : yV P vm lm o.op l = true) {v : LVal} (hs : sem C im impl σ l = some (v, σ')) : yn P o a w (xk P vm lm ρ S G w a σ' v) := by
 cases l with
 | mv y p =>
  simp only [yV] at hc
  split at hc
  ·rename_i x ho
   cases y with
   | const c =>
    have hs' : σ.yW (.const c) = some (v, σ') := by cases p <;> exact hs
    exact ok_asg h (.inr ho) hc hs'
   | loc i =>
    have hs' : σ.yW (.loc i) = some (v, σ') := by cases p <;> exact hs
    exact ok_asg h (.inr ho) hc hs'
   | var k =>
    cases p with
    | true => exact ok_look h (.inr ho) hc hs
    | false => exact ok_take h (.inr ho) hc hs
  ·cases hc
 | asg y =>
  simp only [yV] at hc
  split at hc
  ·rename_i x ho; exact ok_asg h (.inl ho) hc hs
  ·cases hc
 | pick c' x' y' =>
  simp only [yV] at hc
  split at hc
  ·rename_i c x y ho
   simp only [Bool.and_eq_true] at hc
   exact ok_pick h ho hc.1.1 hc.1.2 hc.2 hs
  ·cases hc
 | alloc t' cells =>
  simp only [yV] at hc
  split at hc
  ·rename_i t ho
   simp only [Bool.and_eq_true, beq_iff_eq] at hc
   obtain ⟨rfl, hc⟩ := hc
   simp only [sem, Option.some.injEq, Prod.mk.injEq] at hs
   obtain ⟨rfl, rfl⟩ := hs
   exact ok_alloc h ho hc
  ·cases hc
 | box t' y =>
  simp only [yV] at hc
  split at hc
  ·rename_i t x ho
   simp only [Bool.and_eq_true, beq_iff_eq] at hc
   obtain ⟨rfl, hc⟩ := hc
   exact ok_box h ho hc hs
  ·cases hc
 | build zero qs =>
  simp only [yV] at hc
  split at hc
  ·rename_i t ps ho
   simp only [Bool.and_eq_true] at hc
   exact ok_build h ho hc.1.1 hc.1.2 hc.2 hs
  ·cases hc
 | zI zero esz len' qs =>
  simp only [yV] at hc
  split at hc
  ·rename_i t len ps ho
   split at hc
   ·rename_i e he
    simp only [Bool.and_eq_true, beq_iff_eq, decide_eq_true_eq] at hc
    obtain ⟨⟨⟨⟨⟨rfl, c1⟩, c2⟩, c3⟩, c4⟩, c5⟩ := hc
    exact ok_mkslice h ho (vj he) c1 (qQ c2) c3 c4 c5 hs
   ·cases hc
  ·cases hc
 | load agg n y p =>
  simp only [yV] at hc
  split at hc
  ·rename_i t x ho
   simp only [Bool.and_eq_true] at hc
   exact ok_load h ho hc.1 hc.2 hs
  ·cases hc
 | store n x' y' =>
  simp only [yV] at hc
  split at hc
  ·rename_i t x y ho
   simp only [Bool.and_eq_true] at hc
   exact (ok_store h ho (qQ hc.1.1) hc.1.2 hc.2 hs).1
  ·cases hc
 | nilCheck y =>
  simp only [yV] at hc
  split at hc
  ·rename_i x ho; exact ok_nilCheck h ho hc hs
  ·cases hc
 | bin bo x' y' =>
  simp only [yV] at hc
  split at hc
  ·rename_i bo' t x y t2 ho
   simp only [Bool.and_eq_true, decide_eq_true_eq] at hc
   obtain ⟨⟨rfl, c1⟩, c2⟩ := hc
   exact ok_bin h ho c1 c2 hs
  ·cases hc
 | un uo x' =>
  simp only [yV] at hc
  split at hc
  ·rename_i uo' t x ho
   simp only [Bool.and_eq_true, decide_eq_true_eq] at hc
   obtain ⟨rfl, c1⟩ := hc
   exact ok_un h ho c1 hs
  ·cases hc
 | wU neq ks x' y' =>
  simp only [yV] at hc
  split at hc
  ·rename_i bo t x y t2 ho
   simp only [Bool.and_eq_true, decide_eq_true_eq, Bool.not_eq_true'] at hc
   obtain ⟨⟨⟨⟨⟨rfl, c1⟩, c2⟩, c3⟩, c4⟩, c5⟩ := hc
   exact ok_eqAgg h ho c1 (by omega) c2 c3 c4 c5 hs
  ·cases hc
 | isNil kind neq x' =>
  simp only [yV] at hc
  split at hc
  ·rename_i bo t x c t2 ho
   split at hc
   ·rename_i d hd
    simp only [Bool.and_eq_true, decide_eq_true_eq] at hc
    obtain ⟨⟨rfl, c1⟩, c2⟩ := hc
    unfold chkNil at c1
    split at c1
    ·exact rf h ho hd (.inl ⟨rfl, _, rfl⟩) rfl rfl c2 hs
    ·exact rf h ho hd (.inr (.inl ⟨rfl, _, rfl⟩)) rfl rfl c2 hs
    ·exact rf h ho hd (.inr (.inr (.inl ⟨rfl, _, _, rfl⟩))) rfl rfl c2 hs
    ·exact rf h ho hd (.inr (.inr (.inr (.inl ⟨rfl, _, _, _, rfl⟩)))) rfl rfl c2 hs
    ·exact rf h ho hd (.inr (.inr (.inr (.inr ⟨rfl, _, rfl⟩)))) rfl rfl c2 hs
    ·cases c1
   ·cases hc
  ·cases hc
 | uV neq x' y' =>
  simp only [yV] at hc
  split at hc
  ·rename_i bo t x y t2 ho
   simp only [Bool.and_eq_true, decide_eq_true_eq] at hc
   obtain ⟨⟨⟨rfl, c1⟩, c2⟩, c3⟩ := hc
   exact ok_eqBool h ho (mQ c1) c2 c3 hs
  ·cases hc
 | xd k x' =>
  simp only [yV] at hc
  split at hc
  ·rename_i s d x ho
   simp only [Bool.and_eq_true] at hc
   exact ok_cvInt h ho hc.1.1 (mO hc.1.2) hc.2 hs
  ·cases hc
 | cvId x' =>
  simp only [yV] at hc
  split at hc
  ·rename_i s d x ho
   simp only [Bool.and_eq_true] at hc
   exact ok_cvId h ho (tv hc.1.1) (tv hc.1.2) hc.2 hs
  ·cases hc
 | vW x' =>
  simp only [yV] at hc
  split at hc
  ·rename_i s d x ho
   split at hc
   ·rename_i e he
    simp only [Bool.and_eq_true] at hc
    exact ok_cvStr h ho (vj he) (mP hc.1.1) (tv hc.1.2) hc.2 hs
   ·cases hc
  ·cases hc
 | vO x' =>
  simp only [yV] at hc
  split at hc
  ·rename_i s d x ho
   split at hc
   ·rename_i e he
    simp only [Bool.and_eq_true] at hc
    exact ok_cvBytes h ho (tv hc.1.2) (vj he) (mP hc.1.1) hc.2 hs
   ·cases hc
  ·cases hc
 | vu t' x' =>
  simp only [yV] at hc
  split at hc
  ·rename_i t x ho
   simp only [Bool.and_eq_true, beq_iff_eq] at hc
   obtain ⟨⟨rfl, c1⟩, c2⟩ := hc
   exact ok_mkIface h ho c1 c2 hs
  ·cases hc
 | tF f' ys =>
  simp only [yV] at hc
  split at hc
  ·rename_i f first caps ho
   simp only [Bool.and_eq_true, beq_iff_eq] at hc
   obtain ⟨⟨c1, rfl⟩, c2⟩ := hc
   have : first = #[] := by simpa using c1
   subst this
   exact ok_mkFunc h ho c2 hs
  ·cases hc
 | mkMap =>
  simp only [yV] at hc
  split at hc
  ·rename_i t ho; exact ok_mkMap h ho hs
  ·cases hc
 | ng y =>
  simp only [yV] at hc
  split at hc
  ·rename_i t x ho
   simp only [Bool.and_eq_true] at hc
   obtain ⟨p, hp⟩ := Option.isSome_iff_exists.1 hc.1
   exact ok_mkMapR h ho ⟨p.1, p.2, px hp⟩ hc.2 hs
  ·cases hc
 | makeSlice zero e' esz bytes l' c' m =>
  simp only [yV] at hc
  split at hc
  ·rename_i t l c ho
   split at hc
   ·rename_i e he
    simp only [Bool.and_eq_true, beq_iff_eq] at hc
    obtain ⟨⟨⟨⟨rfl, c1⟩, c2⟩, c3⟩, c4⟩ := hc
    obtain ⟨i, z, q1, q2, q3, q4, q5, q6, q7⟩ := mX c1
    exact lI h ho (vj he) q1 q4 q5 c2 q6 q7 c3 c4 hs
   ·cases hc
  ·cases hc
 | tD x' lo' hi' =>
  simp only [yV] at hc
  split at hc
  ·rename_i t x lo hi ho
   simp only [Bool.and_eq_true] at hc
   exact ok_sliceStr h ho (tv hc.1.1.1) hc.1.1.2 hc.1.2 hc.2 hs
  ·cases hc
 | xf esz x' lo' hi' mx' =>
  simp only [yV] at hc
  split at hc
  ·rename_i t x lo hi mx ho
   split at hc
   ·rename_i e he
    simp only [Bool.and_eq_true] at hc
    obtain ⟨⟨⟨⟨⟨c1, c2⟩, c3⟩, c4⟩, c5⟩, c6⟩ := hc
    exact ok_sliceVs h ho (vj he) (qQ c1) c3 (fun hm => by cases mx' <;> simp_all) c4 c5 c6 hs
   ·cases hc
  ·cases hc
 | sq n esz agg x' lo' hi' =>
  simp only [yV] at hc
  split at hc
  ·rename_i t x ho
   split at hc
   ·rename_i m e he
    simp only [Bool.and_eq_true, beq_iff_eq, decide_eq_true_eq] at hc
    obtain ⟨⟨⟨⟨⟨rfl, c1⟩, c2⟩, c3⟩, c4⟩, c5⟩ := hc
    obtain rfl : lo' = none := by simpa using c1
    obtain rfl : hi' = none := by simpa using c2
    exact ok_sliceArr h ho (sV he) c3 c4 c5 hs
   ·cases hc
  ·cases hc
 | fieldAddr off n agg x' =>
  simp only [yV] at hc
  split at hc
  ·rename_i s x f ho
   simp only [Bool.and_eq_true] at hc
   obtain ⟨fs, fl, q1, q2, q3, q4, q5⟩ := m9 hc.1
   exact lK h ho q1 q2 q3 q4 q5 hc.2 hs
  ·cases hc
 | field off n agg x' =>
  simp only [yV] at hc
  split at hc
  ·rename_i s x f ho
   simp only [Bool.and_eq_true] at hc
   obtain ⟨fs, fl, q1, q2, q3, q4, q5⟩ := m9 hc.1
   exact ok_field h ho q1 q2 q3 q4 hc.2 hs
  ·cases hc
 | zF len esz agg x' i' =>
  simp only [yV] at hc
  split at hc
  ·rename_i t x i ho
   split at hc
   ·rename_i n e he
    simp only [Bool.and_eq_true, beq_iff_eq] at hc
    obtain ⟨⟨⟨rfl, c1⟩, c2⟩, c3⟩ := hc
    exact mo h ho (sV he) c1 c2 c3 hs
   ·cases hc
  ·cases hc
 | zh esz x' i' =>
  simp only [yV] at hc
  split at hc
  ·rename_i t x i ho
   split at hc
   ·rename_i e he
    simp only [Bool.and_eq_true] at hc
    exact lJ h ho (vj he) (qQ hc.1.1) hc.1.2 hc.2 hs
   ·cases hc
  ·cases hc
 | tI len esz agg x' i' =>
  simp only [yV] at hc
  split at hc
  ·rename_i t x i ho
   split at hc
   ·rename_i n e he
    simp only [Bool.and_eq_true, beq_iff_eq] at hc
    obtain ⟨⟨⟨rfl, c1⟩, c2⟩, c3⟩ := hc
    exact ok_idxArr h ho (sV he) c1 c2 c3 hs
   ·cases hc
  ·cases hc
 | qJ x' i' =>
  simp only [yV] at hc
  split at hc
  ·rename_i t x i ho
   simp only [Bool.and_eq_true] at hc
   exact ok_idxStr h ho (tv hc.1.1) hc.1.2 hc.2 hs
  ·cases hc
 | lookup kd zero x' i' ok' =>
  simp only [yV] at hc
  split at hc
  ·rename_i t x i ok ho
   split at hc
   ·rename_i k e he
    simp only [Bool.and_eq_true, beq_iff_eq] at hc
    obtain ⟨⟨⟨⟨rfl, c1⟩, c2⟩, c3⟩, c4⟩ := hc
    exact ok_lookup h ho (px he) (pL c1) c2 c3 c4 hs
   ·cases hc
  ·cases hc
 | mapUpdate kd m' k' v' =>
  simp only [yV] at hc
  split at hc
  ·rename_i t m k x ho
   split at hc
   ·rename_i kt et he
    simp only [Bool.and_eq_true] at hc
    exact qY h (.inl ho) (px he) (pL hc.1.1.1) hc.1.1.2 hc.1.2 hc.2 hs
   ·cases hc
  ·rename_i t m k x ho
   split at hc
   ·rename_i kt et he
    simp only [Bool.and_eq_true] at hc
    exact qY h (.inr ho) (px he) (pL hc.1.1.1) hc.1.1.2 hc.1.2 hc.2 hs
   ·cases hc
  ·cases hc
 | tR t' zero x' ok' =>
  simp only [yV] at hc
  split at hc
  ·rename_i x xt t ok ho
   simp only [Bool.and_eq_true, beq_iff_eq] at hc
   obtain ⟨⟨⟨⟨rfl, rfl⟩, c1⟩, c2⟩, c3⟩ := hc
   obtain ⟨d, q1, q2⟩ := notIface_ok c1
   exact ok_tassert h ho q1 q2 c2 c3 hs
  ·cases hc
 | u9 t' x' =>
  simp only [yV] at hc
  split at hc
  ·rename_i x xt t ok ho
   simp only [Bool.and_eq_true, beq_iff_eq, Bool.not_eq_true'] at hc
   obtain ⟨⟨rfl, rfl⟩, c3⟩ := hc
   exact ok_tassertI h himpl ho c3 hs
  ·cases hc
 | extract x' i' =>
  simp only [yV] at hc
  split at hc
  ·rename_i x i ho
   simp only [Bool.and_eq_true, beq_iff_eq] at hc
   obtain ⟨rfl, c1⟩ := hc
   exact ok_extract h ho c1 hs
  ·cases hc
 | call f' ys =>
  simp only [yV] at hc
  split at hc
  ·rename_i f args at_ ho
   simp only [Bool.and_eq_true, beq_iff_eq] at hc
   obtain ⟨rfl, c1⟩ := hc
   exact ok_call h hC ho c1 hs
  ·cases hc
 | yR f' ys =>
  simp only [yV] at hc
  split at hc
  ·rename_i f args at_ ho
   simp only [Bool.and_eq_true, beq_iff_eq] at hc
   obtain ⟨rfl, c1⟩ := hc
   exact ok_callp h hC ho c1 hs
  ·cases hc
 | tM x' ys =>
  simp only [yV] at hc
  split at hc
  ·rename_i x args at_ ho
   simp only [Bool.and_eq_true] at hc
   exact ok_callv h hC ho hc.1 hc.2 hs
  ·cases hc
 | out k =>
  simp only [yV] at hc
  split at hc
  ·rename_i x ho; exact ok_out h (.inr ho) hc hs
  ·rename_i x ho; exact ok_out h (.inl ho) hc hs
  ·cases hc
 | asgT y esz agg =>
  simp only [yV] at hc
  split at hc
  ·rename_i x ho; exact ok_asgT h (.inr ho) hc hs
  ·rename_i x ho; exact ok_asgT h (.inl ho) hc hs
  ·cases hc
 | sft y =>
  simp only [yV] at hc
  split at hc
  ·rename_i x ho; exact ok_sft h (.inr ho) hc hs
  ·rename_i x ho; exact ok_sft h (.inl ho) hc hs
  ·cases hc
 | kJ k esz agg =>
  simp only [yV] at hc
  split at hc
  ·rename_i x ho; exact ok_thaw h ho hc hs
  ·cases hc
 | clear zero x' =>
  simp only [yV] at hc
  split at hc
  ·rename_i x at_ ho
   split at hc
   ·rename_i t hat
    split at hc
    ·rename_i e he
     simp only [Bool.and_eq_true] at hc
     exact ok_clear h ho hat (vj he) hc.1 hc.2 hs
    ·cases hc
   ·cases hc
  ·cases hc
 | invoke x' name tbl ys =>
  simp only [yV] at hc
  split at hc
  ·rename_i x n args at_ ho
   simp only [Bool.and_eq_true, beq_iff_eq] at hc
   obtain ⟨⟨⟨rfl, c1⟩, c2⟩, c3⟩ := hc
   exact ok_invoke h hC ho c2 c1 c3 hs
  ·cases hc
 | len k x' =>
  simp only [yV] at hc
  split at hc
  ·rename_i x at_ ho
   split at hc
   ·rename_i t ht
    split at hc
    ·rename_i d hd
     simp only [Bool.and_eq_true] at hc
     exact ok_len h ho ht hd hc.1 hc.2 hs
    ·cases hc
   ·cases hc
  ·cases hc
 | append e' esz bytes x' y' =>
  simp only [yV] at hc
  split at hc
  ·rename_i x y t u ho
   split at hc
   ·rename_i e he
    simp only [Bool.and_eq_true, beq_iff_eq, Bool.or_eq_true] at hc
    obtain ⟨⟨⟨⟨rfl, c1⟩, c2⟩, c3⟩, c4⟩ := hc
    obtain ⟨i, z, q1, q2, q3, q4, q5, q6, q7⟩ := mX c2
    have hu : (∃ e', P.underlying u = some (.slice e')) ∨ P.underlying u = some .string := by
     rcases c1 with c1 | c1
     ·obtain ⟨e', he'⟩ := Option.isSome_iff_exists.1 c1
      exact .inl ⟨e', vj he'⟩
     ·exact .inr (tv c1)
    exact ok_append h ho (vj he) hu q1 q2 q3 q4 q5 q6 q7 c3 c4 hs
   ·cases hc
  ·cases hc
 | vg mx x' ys =>
  simp only [yV] at hc
  split at hc
  ·rename_i b x xs at_ ho
   simp only [Bool.and_eq_true, decide_eq_true_eq] at hc
   obtain ⟨⟨rfl, c1⟩, c2⟩ := hc
   exact ok_minmax h ho rfl c1 c2 hs
  ·cases hc
 | kS n x' =>
  simp only [yV] at hc
  split at hc
  ·rename_i t x ho
   split at hc
   ·rename_i m e he
    simp only [Bool.and_eq_true, beq_iff_eq] at hc
    obtain ⟨⟨rfl, c1⟩, c2⟩ := hc
    exact ok_s2ap h ho (sV he) (qQ c1) c2 hs
   ·cases hc
  ·cases hc
 | fail => simp [sem] at hs
end
end Go.L
namespace Go.L
open Go
variable {P : Program} {vm : List Nat} {lm : List (Option Nat)} {ρ ρ' : List Nat} {S S' : Nat → Nat → Prop} {G G' : Nat → Cl} {σ σ' : RS} {a : Act} {w w' : World}
variable {C : xV} {im : TypeId → String → Option FuncId} {impl : TypeId → TypeId → Bool}
def wK (P : Program) (vm : List Nat) (lm : List (Option Nat)) (ρ : List Nat) (S : Nat → Nat → Prop) (G : Nat → Cl) (w : World) (σ' : RS) : Act → World → Prop := fun a' w' =>
 ∃ ρ' S' G', Rel P vm lm ρ' S' G' σ' a' w' ∧ Pr w S G ρ w' S' G' ρ'
def Impl (P : Program) (impl : TypeId → TypeId → Bool) : Prop := ∀ t t', impl t t' = true → ∃ want i, P.underlying t = some (.interface want) ∧ P.info? t' = some i ∧ Instr.missingMethod want i.methods = none
def rO (vm : List Nat) (lm : List (Option Nat)) (ops : Array Oper) (g : Option (Nat × Bool)) (g' : Option (Opd × Bool)) : Bool :=
 match g, g' with
 | none, none => true
 | some (j, want), some (x, want') => want == want' && (match (ops[j]?).bind (·.dst) with
  | some t => zp vm lm (.tmp t) x
  | none => false)
 | _, _ => false
def u6 (P : Program) (vm : List Nat) (lm : List (Option Nat)) (ops : Array Oper) (o : Oper) (lo : zj) : Bool :=
 pU vm lm o.dst lo && yV P vm lm o.op lo.op && rO vm lm ops o.guard lo.guard
theorem At.skip {b : qn} {pk : Loc → Nat → List LVal → Value → Prop} : At P w S G ρ pk b (.tup []) undef := ⟨[], rfl, rfl, fun c u hu => by simp at hu⟩
theorem wK.put (h : Rel P vm lm ρ S G σ a w) (wf : qc vm lm) {lo : zj} {dst : Option Tmp} (hd : pU vm lm dst lo = true) {v : LVal} {cv : Value} (hv : At P w S G ρ (tm vm ρ σ a w) .yd v cv) :
 wK P vm lm ρ S G w (σ.put lo v) (a.put dst cv) w := by
 obtain ⟨G', k1, k2⟩ := h.put wf hv hd
 exact ⟨ρ, S, G', k1, k2⟩
theorem mS (wf : qc vm lm) {o : Oper} {lo : zj} (hd : pU vm lm o.dst lo = true) {v : LVal} (hg : yn P o a w (xk P vm lm ρ S G w a σ' v)) {K : Act → World → Prop} {Q : Exit → Act → World → Prop}
 (hk : ∀ a' w', wK P vm lm ρ S G w (σ'.put lo v) a' w' → K a' w') : o.wp P a w K Q := by
 refine hg K Q fun cv w' ⟨ρ', S', G', k1, k2, k3⟩ => hk _ _ ?_
 obtain ⟨G2, m1, m2⟩ := k1.put wf k2 hd
 exact ⟨ρ', S', G2, m1, k3.trans m2⟩
section
variable (h : Rel P vm lm ρ S G σ a w)
include h
theorem guard_ok {ops : Array Oper} {o : Oper} {g : Opd} {want : Bool} (hc : rO vm lm ops o.guard (some (g, want)) = true) {gv : LVal} (hg : σ.zu g = some gv) :
 (gv = .bool want → Region.wanted o (yielded ops a.tmps) = true) ∧ (∀ b, gv = .bool b → b ≠ want → Region.wanted o (yielded ops a.tmps) = false) ∧ (∀ l, gv = .tup l → Region.wanted o (yielded ops a.tmps) = false) := by
 unfold rO at hc
 cases hog : o.guard with
 | none => rw [hog] at hc; simp at hc
 | some jw =>
  obtain ⟨j, want'⟩ := jw
  rw [hog] at hc
  simp only [Bool.and_eq_true, beq_iff_eq] at hc
  obtain ⟨rfl, hc⟩ := hc
  cases hd : (ops[j]?).bind (·.dst) with
  | none => rw [hd] at hc; simp at hc
  | some t =>
   rw [hd] at hc
   dsimp only at hc
   have hy : yielded ops a.tmps j = match a.tmps[t]? with
    | some (.bool b) => some b
    | _ => none := by
    unfold yielded
    rw [hd]; rfl
   have hev : a.eval (.tmp t) = a.tmps.getD t undef := rfl
   have hget : ∀ b, a.tmps.getD t undef = .bool b → a.tmps[t]? = some (.bool b) := by
    intro b hb
    rw [Array.getD_eq_getD_getElem?] at hb
    cases ht : a.tmps[t]? with
    | none => rw [ht] at hb; simp [undef] at hb
    | some u => rw [ht] at hb; simp at hb; rw [hb]
   have hbool : ∀ b, gv = .bool b → yielded ops a.tmps j = some b := by
    rintro b rfl
    have := (h.zM hc hg rfl).vn
    rw [hy, hget b this]
   refine ⟨fun e => ?_, fun b e hne => ?_, fun l e => ?_⟩
   ·unfold Region.wanted; rw [hog]; simp [hbool _ e]
   ·unfold Region.wanted; rw [hog]; simp [hbool _ e, hne]
   ·subst e
    have htup : ∃ cs, a.tmps.getD t undef = .tuple cs := by
     cases g with
     | const c => simp [zp] at hc
     | loc i =>
      simp [zp] at hc
      rcases h.rs i _ hg with h0 | ⟨t', q1, q2, q3⟩
      ·cases h0
      ·rw [hc] at q1; injection q1 with q1; injection q1 with q1; subst q1
       obtain ⟨cs, e, _⟩ := q3
       exact ⟨_, e⟩
     | var k =>
      simp [zp] at hc
      obtain ⟨t', q1, q2, q3⟩ := h.vars k _ hg
      rw [hc] at q1; injection q1 with q1; subst q1
      obtain ⟨cs, e, _⟩ := q3
      exact ⟨_, e⟩
    obtain ⟨cs, htup⟩ := htup
    have hyn : yielded ops a.tmps j = none := by
     rw [hy]
     rw [Array.getD_eq_getD_getElem?] at htup
     cases ht : a.tmps[t]? with
     | none => rfl
     | some u => rw [ht] at htup; simp at htup; rw [htup]
    unfold Region.wanted; rw [hog]; simp [hyn]
theorem step_ok (wf : qc vm lm) (hC : vI P C) (hI : Impl P impl) {ops : Array Oper} {o : Oper} {i : Nat} (hi : ops[i]? = some o) {lo : zj} (hc : u6 P vm lm ops o lo = true) (hs : step C im impl σ lo = some σ')
 {K : Act → World → Prop} {Q : Exit → Act → World → Prop} (hk : ∀ a' w', wK P vm lm ρ S G w σ' a' w' → K a' w') : wpOp P ops Q i K a w := by
 unfold wpOp
 rw [hi]
 dsimp only
 simp only [u6, Bool.and_eq_true] at hc
 obtain ⟨⟨c1, c2⟩, c3⟩ := hc
 unfold step at hs
 cases hg : lo.guard with
 | none =>
  rw [hg] at hs c3
  simp only [Option.map_eq_some_iff] at hs
  obtain ⟨⟨v, σ1⟩, h1, rfl⟩ := hs
  have hw : Region.wanted o (yielded ops a.tmps) = true := by
   unfold rO at c3
   cases hog : o.guard with
   | none => unfold Region.wanted; rw [hog]
   | some _ => rw [hog] at c3; simp at c3
  rw [if_pos hw]
  exact .inl (mS wf c1 (op_ok h hC hI c2 h1) hk)
 | some gw =>
  obtain ⟨g, want⟩ := gw
  rw [hg] at hs c3
  simp only [Option.bind_eq_some_iff] at hs
  obtain ⟨gv, hgv, hs⟩ := hs
  obtain ⟨g1, g2, g3⟩ := guard_ok h c3 hgv
  cases gv with
  | bool b =>
   dsimp only at hs
   split at hs
   ·rename_i hb
    subst hb
    simp only [Option.map_eq_some_iff] at hs
    obtain ⟨⟨v, σ1⟩, h1, rfl⟩ := hs
    rw [if_pos (g1 rfl)]
    exact .inl (mS wf c1 (op_ok h hC hI c2 h1) hk)
   ·rename_i hb
    injection hs with hs; subst hs
    rw [if_neg (by rw [g2 b rfl hb]; simp)]
    exact hk _ _ (wK.put h wf c1 At.skip)
  | tup l =>
   injection hs with hs; subst hs
   rw [if_neg (by rw [g3 l rfl]; simp)]
   exact hk _ _ (wK.put h wf c1 At.skip)
  | _ => simp at hs
end
def pw (ops : List Oper) (los : List zj) : List (Option Nat) := (ops.zip los).map fun p => if p.2.dst.isNone then p.1.dst else none
def tu (P : Program) (vm : List Nat) (lm : List (Option Nat)) (ops : Array Oper) : Nat → List zj → Bool
 | _, [] => true
 | i, lo :: r => lo.ix == i && (match ops[i]? with | some o => u6 P vm lm ops o lo | none => false) && tu P vm lm ops (i + 1) r
theorem ops_ok (wf : qc vm lm) (hC : vI P C) (hI : Impl P impl) {ops : Array Oper} {Q : Exit → Act → World → Prop} : ∀ {los : List zj} {i : Nat} {ρ S G σ a w σ'} (_ : Rel P vm lm ρ S G σ a w) (_ : tu P vm lm ops i los = true)
 (_ : yC C im impl los σ = some σ') (_ : ∀ a' w', wK P vm lm ρ S G w σ' a' w' → Q .normal a' w'), wpOps P ops Q (List.range' i los.length) a w
 | [], i, ρ, S, G, σ, a, w, σ', h, _, hr, hk => by
  simp only [yC, Option.some.injEq] at hr
  subst hr
  exact hk _ _ ⟨ρ, S, G, h, Pr.refl ..⟩
 | lo :: r, i, ρ, S, G, σ, a, w, σ', h, hc, hr, hk => by
  simp only [tu, Bool.and_eq_true] at hc
  obtain ⟨⟨_, hc1⟩, hc2⟩ := hc
  simp only [yC, Option.bind_eq_some_iff] at hr
  obtain ⟨σ1, h1, h2⟩ := hr
  cases hi : ops[i]? with
  | none => simp [hi] at hc1
  | some o =>
   rw [hi] at hc1
   rw [List.length_cons, List.range'_succ, wpOps_cons]
   refine step_ok h wf hC hI hi hc1 h1 fun a' w' ⟨ρ', S', G', k1, k2⟩ => ?_
   exact ops_ok wf hC hI k1 hc2 h2 fun a2 w2 ⟨ρ2, S2, G2, m1, m2⟩ => hk a2 w2 ⟨ρ2, S2, G2, m1, k2.trans m2⟩
end Go.L
namespace Go.L
open Go
variable {P : Program} {vm : List Nat} {lm : List (Option Nat)} {ρ ρ' : List Nat} {S S' : Nat → Nat → Prop} {G G' : Nat → Cl} {σ σ' : RS} {a : Act} {w w' : World}
variable {C : xV} {im : TypeId → String → Option FuncId} {impl : TypeId → TypeId → Bool}
theorem s7 {v : LVal} (h : v.zr = false) : v.stay = v := by
 cases v with
 | vs b o n xs => cases o <;> simp_all [LVal.zr, LVal.stay]
 | _ => rfl
def tP (P : Program) (vm : List Nat) (lm : List (Option Nat)) (ρ : List Nat) (S : Nat → Nat → Prop) (G : Nat → Cl) (a : Act) (w : World) (σ' : RS) : Prop :=
 ∃ S' G', Rel P vm lm ρ S' G' σ' a w ∧ Pr w S G ρ w S' G' ρ
theorem tP.trans (h : ∃ S' G', Rel P vm lm ρ S' G' σ a w ∧ Pr w S G ρ w S' G' ρ) {σ' : RS} (k : ∀ S' G', Rel P vm lm ρ S' G' σ a w → tP P vm lm ρ S' G' a w σ') : tP P vm lm ρ S G a w σ' := by
 obtain ⟨S1, G1, h1, p1⟩ := h
 obtain ⟨S2, G2, h2, p2⟩ := k S1 G1 h1
 exact ⟨S2, G2, h2, p1.trans p2⟩
theorem Rel.stayVar (h : Rel P vm lm ρ S G σ a w) {k : Nat} {v : LVal} (hv : σ.vars[k]? = some v) : tP P vm lm ρ S G a w { σ with vars := σ.vars.set k v.stay } := by
 by_cases ho : v.zr = true
 ·obtain ⟨t, h1, h2, h3⟩ := h.vars k v hv
  have ht : σ.take (.var k) = some (v.down, { σ with vars := σ.vars.set k v.stay }) := by
   simp only [RS.take, hv, Option.bind_some]
   cases v with
   | vs b o n xs => cases o <;> simp_all [LVal.zr, LVal.copy]
   | _ => simp [LVal.zr] at ho
  obtain ⟨S', G', k1, _, _, k4⟩ := h.take (x := .tmp t) (y := .var k) (by simp [zp, h1]) ht
  exact ⟨S', G', k1, k4⟩
 ·rw [s7 (by simpa using ho)]
  have : σ.vars.set k v = σ.vars := by
   apply List.ext_getElem?
   intro j
   rw [List.getElem?_set]
   split
   ·rename_i e; subst e
    obtain ⟨q1, q2⟩ := List.getElem?_eq_some_iff.1 hv
    simp [q1, q2]
   ·rfl
  rw [this]
  exact ⟨S, G, h, Pr.refl ..⟩
theorem Rel.stayRs (h : Rel P vm lm ρ S G σ a w) {i : Nat} {v : LVal} (hv : σ.rs[i]? = some v) : tP P vm lm ρ S G a w { σ with rs := σ.rs.set i v.stay } := by
 by_cases ho : v.zr = true
 ·rcases h.rs i v hv with h0 | ⟨t, h1, h2, h3⟩
  ·subst h0; simp [LVal.zr] at ho
  ·have ht : σ.take (.loc i) = some (v.down, { σ with rs := σ.rs.set i v.stay }) := by
    simp only [RS.take, hv, Option.bind_some]
    cases v with
    | vs b o n xs => cases o <;> simp_all [LVal.zr, LVal.copy]
    | _ => simp [LVal.zr] at ho
   obtain ⟨S', G', k1, _, _, k4⟩ := h.take (x := .tmp t) (y := .loc i) (by simp [zp, h1]) ht
   exact ⟨S', G', k1, k4⟩
 ·rw [s7 (by simpa using ho)]
  have : σ.rs.set i v = σ.rs := by
   apply List.ext_getElem?
   intro j
   rw [List.getElem?_set]
   split
   ·rename_i e; subst e
    obtain ⟨q1, q2⟩ := List.getElem?_eq_some_iff.1 hv
    simp [q1, q2]
   ·rfl
  rw [this]
  exact ⟨S, G, h, Pr.refl ..⟩
theorem map_step {α : Type} (f : α → α) (l : List α) {n : Nat} {x : α} (hx : l[n]? = some x) : ((l.take n).map f ++ l.drop n).set n (f x) = (l.take (n + 1)).map f ++ l.drop (n + 1) := by
 have hlt := (List.getElem?_eq_some_iff.1 hx).1
 apply List.ext_getElem?
 intro j
 rw [List.getElem?_set]
 simp only [List.length_append, List.length_map, List.length_take, List.length_drop]
 rw [List.getElem?_append, List.getElem?_append]
 simp only [List.length_map, List.length_take, List.getElem?_map, List.getElem?_take, List.getElem?_drop]
 by_cases hj : n = j
 ·subst hj
  rw [if_pos rfl, if_pos (by omega), if_pos (by omega), if_pos (by omega), hx]; rfl
 ·rw [if_neg hj]
  by_cases hjn : j < n
  ·rw [if_pos (by omega), if_pos hjn, if_pos (by omega), if_pos (by omega)]
  ·rw [if_neg (by omega), if_neg (by omega)]
   congr 1; omega
theorem Rel.nw (h : Rel P vm lm ρ S G σ a w) : ∀ n, n ≤ σ.vars.length → tP P vm lm ρ S G a w { σ with vars := (σ.vars.take n).map LVal.stay ++ σ.vars.drop n }
 | 0, _ => ⟨S, G, by simpa using h, Pr.refl ..⟩
 | n + 1, hn => tP.trans (Rel.nw h n (by omega)) fun S' G' k => by
  obtain ⟨x, hx⟩ : ∃ x, σ.vars[n]? = some x := ⟨σ.vars[n], List.getElem?_eq_getElem (by omega)⟩
  have hx' : ((σ.vars.take n).map LVal.stay ++ σ.vars.drop n)[n]? = some x := by
   rw [List.getElem?_append_right (by simp; omega)]
   simp only [List.length_map, List.length_take, List.getElem?_drop]
   rw [show n + (n - min n σ.vars.length) = n by omega]; exact hx
  have := k.stayVar hx'
  dsimp only at this
  rw [map_step LVal.stay σ.vars hx] at this
  exact this
theorem Rel.settleOne (h : Rel P vm lm ρ S G σ a w) {id : Nat} {o : zt} (ho : σ.st[id]? = some o) : tP P vm lm ρ S G a w { σ with st := σ.st.set id o.settle } := by
 have same : o.settle = o → tP P vm lm ρ S G a w { σ with st := σ.st.set id o.settle } := by
  intro e
  rw [e]
  have : σ.st.set id o = σ.st := by
   apply List.ext_getElem?
   intro j
   rw [List.getElem?_set]
   split
   ·rename_i e; subst e
    obtain ⟨q1, q2⟩ := List.getElem?_eq_some_iff.1 ho
    simp [q1, q2]
   ·rfl
  rw [this]
  exact ⟨S, G, h, Pr.refl ..⟩
 cases o with
 | dead => exact same rfl
 | map es => exact same rfl
 | cells t c =>
  obtain ⟨S', G', k1, k2, _⟩ := h.oP ho
  exact ⟨S', G', k1, k2⟩
theorem Rel.kQ (h : Rel P vm lm ρ S G σ a w) : ∀ n, n ≤ σ.st.length → tP P vm lm ρ S G a w { σ with st := (σ.st.take n).map zt.settle ++ σ.st.drop n }
 | 0, _ => ⟨S, G, by simpa using h, Pr.refl ..⟩
 | n + 1, hn => tP.trans (Rel.kQ h n (by omega)) fun S' G' k => by
  obtain ⟨x, hx⟩ : ∃ x, σ.st[n]? = some x := ⟨σ.st[n], List.getElem?_eq_getElem (by omega)⟩
  have hx' : ((σ.st.take n).map zt.settle ++ σ.st.drop n)[n]? = some x := by
   rw [List.getElem?_append_right (by simp; omega)]
   simp only [List.length_map, List.length_take, List.getElem?_drop]
   rw [show n + (n - min n σ.st.length) = n by omega]; exact hx
  have := k.settleOne hx'
  dsimp only at this
  rw [map_step zt.settle σ.st hx] at this
  exact this
theorem Rel.settle (h : Rel P vm lm ρ S G σ a w) : tP P vm lm ρ S G a w σ.settle := by
 have h1 := h.nw σ.vars.length (Nat.le_refl _)
 rw [List.take_length, List.drop_length, List.append_nil] at h1
 refine tP.trans h1 fun S' G' k => ?_
 have h2 := k.kQ σ.st.length (Nat.le_refl _)
 dsimp only at h2
 rw [List.take_length, List.drop_length, List.append_nil] at h2
 exact h2
theorem wK.fix (h : Rel P vm lm ρ S G σ a w) (wf : qc vm lm) {lo : zj} {dst : Option Tmp} (hd : pU vm lm dst lo = true) {v : LVal} {cv : Value} (hv : At P w S G ρ (tm vm ρ σ a w) .yd v cv) :
 wK P vm lm ρ S G w (σ.put lo (lo.fix v)) (a.put dst cv) w := by
 unfold zj.fix
 split
 ·exact wK.put h wf hd hv
 ·cases v with
  | vs b o n xs =>
   cases o with
   | own e x =>
    obtain ⟨ρ1, S1, G1, k1, p1⟩ := wK.put h wf hd hv
    have hfin : ∀ σ2 : RS, tP P vm lm ρ1 S1 G1 (a.put dst cv) w σ2 → wK P vm lm ρ S G w σ2 (a.put dst cv) w := fun σ2 ⟨S2, G2, k2, p2⟩ => ⟨ρ1, S2, G2, k2, p1.trans p2⟩
    refine hfin _ ?_
    show tP P vm lm ρ1 S1 G1 (a.put dst cv) w (σ.put lo (.vs b (.own e false) n xs))
    unfold RS.put at k1 ⊢
    cases hdst : lo.dst with
    | none =>
     rw [hdst] at k1
     dsimp only at k1 ⊢
     by_cases hl : lo.ix < σ.rs.length
     ·have hx : (σ.rs.set lo.ix (.vs b (.own e x) n xs))[lo.ix]? = some (.vs b (.own e x) n xs) := by simp [List.getElem?_set, hl]
      have := k1.stayRs hx
      simpa [LVal.stay] using this
     ·rw [List.set_eq_of_length_le (by omega)] at k1 ⊢
      exact ⟨S1, G1, k1, Pr.refl ..⟩
    | some k =>
     rw [hdst] at k1
     dsimp only [LVal.yT] at k1 ⊢
     by_cases hl : k < σ.vars.length
     ·have hx : (σ.xp k (.vs b (.own e x) n xs)).vars[k]? = some (.vs b (.own e x) n xs) := by
       unfold RS.xp; split <;> simp [List.getElem?_set, hl]
      have := k1.stayVar hx
      unfold RS.xp at this ⊢
      split <;> rename_i hc <;> simp only [hc, if_true, if_false, Bool.false_eq_true] at this <;> simpa [LVal.stay] using this
     ·have e1 : ∀ u : LVal, (σ.xp k u) = σ := by
       intro u
       unfold RS.xp
       have : σ.vars[k]? = none := by simp; omega
       simp only [this, Option.any_none, Bool.false_eq_true, if_false]
       rw [List.set_eq_of_length_le (by omega)]
      rw [e1] at k1 ⊢
      exact ⟨S1, G1, k1, Pr.refl ..⟩
   | pk p => exact wK.put h wf hd ((At.simple (v := .undef) rfl).2 .undef)
   | sh => exact wK.put h wf hd hv
   | full => exact wK.put h wf hd hv
  | _ => exact wK.put h wf hd hv
section
variable (h : Rel P vm lm ρ S G σ a w)
include h
omit h in
theorem kR {lo : zj} {r : LVal × RS} (hs : x8 C im impl σ lo = some r) : sem C im impl σ lo.op = some r := by
 unfold x8 at hs
 split at hs
 ·split at hs
  ·exact hs
  ·cases hs
 ·exact hs
theorem stepD_ok (wf : qc vm lm) (hC : vI P C) (hI : Impl P impl) {ops : Array Oper} {o : Oper} {i : Nat} (hi : ops[i]? = some o) {lo : zj} (hc : u6 P vm lm ops o lo = true) (hs : ya C im impl σ lo = some σ')
 {K : Act → World → Prop} {Q : Exit → Act → World → Prop} (hk : ∀ a' w', wK P vm lm ρ S G w σ' a' w' → K a' w') : wpOp P ops Q i K a w := by
 unfold wpOp
 rw [hi]
 dsimp only
 simp only [u6, Bool.and_eq_true] at hc
 obtain ⟨⟨c1, c2⟩, c3⟩ := hc
 have hfix : ∀ {v σ1}, x8 C im impl σ lo = some (v, σ1) → (∀ a' w', wK P vm lm ρ S G w (σ1.put lo (lo.fix v)) a' w' → K a' w') → o.wp P a w K Q := by
  intro v σ1 h1 hk
  refine op_ok h hC hI c2 (kR h1) K Q fun cv w' ⟨ρ', S', G', k1, k2, k3⟩ => hk _ _ ?_
  obtain ⟨ρ2, S2, G2, m1, m2⟩ := wK.fix k1 wf c1 k2
  exact ⟨ρ2, S2, G2, m1, k3.trans m2⟩
 unfold ya at hs
 split at hs
 ·cases hs
 ·cases hg : lo.guard with
  | none =>
   rw [hg] at hs c3
   simp only [Option.map_eq_some_iff] at hs
   obtain ⟨⟨v, σ1⟩, h1, rfl⟩ := hs
   have hw : Region.wanted o (yielded ops a.tmps) = true := by
    unfold rO at c3
    cases hog : o.guard with
    | none => unfold Region.wanted; rw [hog]
    | some _ => rw [hog] at c3; simp at c3
   rw [if_pos hw]
   exact .inl (hfix h1 hk)
  | some gw =>
   obtain ⟨g, want⟩ := gw
   rw [hg] at hs c3
   simp only [Option.bind_eq_some_iff] at hs
   obtain ⟨gv, hgv, hs⟩ := hs
   obtain ⟨g1, g2, g3⟩ := guard_ok h c3 hgv
   cases gv with
   | bool b =>
    dsimp only at hs
    split at hs
    ·rename_i hb
     subst hb
     simp only [Option.map_eq_some_iff] at hs
     obtain ⟨⟨v, σ1⟩, h1, rfl⟩ := hs
     rw [if_pos (g1 rfl)]
     exact .inl (hfix h1 hk)
    ·rename_i hb
     injection hs with hs; subst hs
     rw [if_neg (by rw [g2 b rfl hb]; simp)]
     exact hk _ _ (wK.put h wf c1 At.skip)
   | tup l =>
    cases l with
    | nil =>
     injection hs with hs; subst hs
     rw [if_neg (by rw [g3 _ rfl]; simp)]
     exact hk _ _ (wK.put h wf c1 At.skip)
    | cons => simp at hs
   | _ => simp at hs
end
end Go.L
namespace Go.L
open Go
variable {P : Program} {vm : List Nat} {lm : List (Option Nat)} {ρ ρ' : List Nat} {S S' : Nat → Nat → Prop} {G G' : Nat → Cl} {σ σ' : RS} {a : Act} {w w' : World}
variable {C : xV} {im : TypeId → String → Option FuncId} {impl : TypeId → TypeId → Bool}
def py (acc : List Nat) (es : List Nat) : Nat := es.foldl (fun m j => m ||| (acc.getD j 0 ||| 2 ^ j)) 0
def mM : List (List Nat) → List Nat → List Nat
 | [], acc => acc
 | es :: r, acc => mM r (acc ++ [py acc es])
theorem lN {acc es : List Nat} {j : Nat} (h : (py acc es).testBit j = true) : ∃ e ∈ es, e = j ∨ (acc.getD e 0).testBit j = true := by
 unfold py at h
 have key : ∀ (l : List Nat) (m : Nat), (l.foldl (fun m j => m ||| (acc.getD j 0 ||| 2 ^ j)) m).testBit j = true → m.testBit j = true ∨ ∃ e ∈ l, e = j ∨ (acc.getD e 0).testBit j = true := by
  intro l
  induction l with
  | nil => intro m h; exact .inl h
  | cons x l ih =>
   intro m h
   rcases ih _ h with h1 | ⟨e, he, h1⟩
   ·rw [Nat.testBit_or, Nat.testBit_or, Bool.or_eq_true, Bool.or_eq_true] at h1
    rcases h1 with h1 | h1 | h1
    ·exact .inl h1
    ·exact .inr ⟨x, List.mem_cons_self .., .inr h1⟩
    ·rw [Nat.testBit_two_pow] at h1
     exact .inr ⟨x, List.mem_cons_self .., .inl (by simpa using h1)⟩
   ·exact .inr ⟨e, List.mem_cons_of_mem _ he, h1⟩
 rcases key es 0 h with h1 | h1
 ·simp at h1
 ·exact h1
def MInv (full : List (List Nat)) (acc : List Nat) : Prop := ∀ (i m : Nat), acc[i]? = some m → ∀ j, m.testBit j = true → ∃ e ∈ full.getD i [], e = j ∨ (acc.getD e 0).testBit j = true
theorem mL {full : List (List Nat)} : ∀ (l : List (List Nat)) (acc : List Nat), (∀ k, l[k]? = full[acc.length + k]?) → MInv full acc → MInv full (mM l acc)
 | [], acc, _, h => h
 | es :: r, acc, hl, h => by
  refine mL r _ (fun k => ?_) ?_
  ·have := hl (k + 1)
   simp only [List.length_append, List.length_singleton]
   simpa [Nat.add_assoc, Nat.add_comm 1 k] using this
  ·intro i m hi j hj
   have hgrow : ∀ e, (acc.getD e 0).testBit j = true → ((acc ++ [py acc es]).getD e 0).testBit j = true := by
    intro e he
    have hlt : e < acc.length := by
     rcases Nat.lt_or_ge e acc.length with h | h
     ·exact h
     ·simp [List.getD_eq_getElem?_getD, List.getElem?_eq_none h] at he
    rw [List.getD_eq_getElem?_getD, List.getElem?_append_left hlt, ← List.getD_eq_getElem?_getD]
    exact he
   rw [List.getElem?_append] at hi
   split at hi
   ·obtain ⟨e, he, h1⟩ := h i m hi j hj
    exact ⟨e, he, h1.imp id (hgrow e)⟩
   ·rename_i hge
    have hi0 : i = acc.length := by
     have := (List.getElem?_eq_some_iff.1 hi).1
     simp at this; omega
    subst hi0
    simp at hi
    subst hi
    obtain ⟨e, he, h1⟩ := lN hj
    have h0 := hl 0
    simp at h0
    refine ⟨e, ?_, h1.imp id (hgrow e)⟩
    rw [List.getD_eq_getElem?_getD, ← h0]
    exact he
def ku (o : Oper) : List Nat := (o.after.toList.filter (Region.binds .any)).map (·.on)
def wP (ops : Array Oper) : List (List Nat) := ops.toList.map ku
theorem binds_any {md : Region.Mode} {e : Edge} (h : Region.binds .any e = true) : Region.binds md e = true := by
 unfold Region.binds at h ⊢
 cases hg : e.ground <;> rw [hg] at h <;> first | rfl | (dsimp only at h; exact absurd h (by decide))
def chkPairs (ms : List Nat) (los : List zj) : Bool :=
 los.all fun oi => los.all fun oj => !decide (oi.ix < oj.ix) || (ms.getD oj.ix 0).testBit oi.ix || indep oi oj
def LOp.pM : LOp → Bool
 | .call .. | .tM .. | .invoke .. => true
 | _ => false
theorem call_keepU {s s' : RS} {op : LOp} {u : LVal} (ha : op.pM = true) (h : sem C im impl s op = some (u, s')) : wJ s s' := by
 cases op with
 | call f args =>
  simp only [sem, Option.bind_eq_some_iff] at h
  obtain ⟨r, h1, h2⟩ := h
  exact (tZ (us := r.1) (s' := r.2) h1).trans (ss h2)
 | tM x args =>
  simp only [sem, Option.bind_eq_some_iff] at h
  obtain ⟨v, _, h⟩ := h
  cases v with
  | func f caps =>
   simp only [Option.bind_eq_some_iff] at h
   obtain ⟨r, h1, h2⟩ := h
   exact (tZ (us := r.1) (s' := r.2) h1).trans (ss h2)
  | _ => simp at h
 | invoke x name tbl args =>
  simp only [sem, Option.bind_eq_some_iff] at h
  obtain ⟨v, _, h⟩ := h
  cases v with
  | iface t v =>
   simp only [Option.bind_eq_some_iff] at h
   obtain ⟨f, _, r, h1, h2⟩ := h
   exact (tZ (us := r.1) (s' := r.2) h1).trans (ss h2)
  | _ => simp at h
 | _ => simp [LOp.pM] at ha
theorem lA {s s1 : RS} {o : zj} (hqa : o.op.quiet = true ∨ o.op.yy = true ∨ o.op.pM = true) (h : ya C im impl s o = some s1) {j : Nat} (hj : o.ix ≠ j) (hu : s.rs[j]? = some .undef) : s1.rs[j]? = some .undef := by
 rcases hqa with hq | ha | hcl
 ·exact rm (.inl hq) h hj hu
 ·exact rm (.inr ha) h hj hu
 ·have hq : o.op.quiet = false := by cases hop : o.op <;> rw [hop] at hcl <;> first | rfl | simp [LOp.pM] at hcl
  have hsem : ∀ {u s'}, x8 C im impl s o = some (u, s') → (s'.put o (o.fix u)).rs[j]? = some .undef := fun h => tc hj (call_keepU hcl (kR h) j hu)
  unfold ya at h
  simp only [hq, Bool.false_and, Bool.false_eq_true, if_false] at h
  cases hg : o.guard with
  | none =>
   simp only [hg, Option.map_eq_some_iff] at h
   obtain ⟨⟨u, s'⟩, h1, rfl⟩ := h
   exact hsem h1
  | some gw =>
   obtain ⟨g, want⟩ := gw
   simp only [hg, Option.bind_eq_some_iff] at h
   obtain ⟨gv, hgv, h⟩ := h
   cases gv with
   | bool b =>
    dsimp only at h
    split at h
    ·simp only [Option.map_eq_some_iff] at h
     obtain ⟨⟨u, s'⟩, h1, rfl⟩ := h
     exact hsem h1
    ·injection h with h; subst h; exact tc hj hu
   | tup l =>
    cases l with
    | nil => injection h with h; subst h; exact tc hj hu
    | cons => simp at h
   | _ => simp at h
theorem indep_qa {oi oj : zj} (h : indep oi oj = true) : oi.op.quiet = true ∨ oi.op.yy = true := by
 unfold indep at h
 split at h
 ·rename_i hq; simp only [Bool.and_eq_true] at hq; exact .inl hq.1
 ·split at h
  ·rename_i hq; simp only [Bool.and_eq_true] at hq; exact .inl hq.1.1
  ·split at h
   ·rename_i hq; simp only [Bool.and_eq_true] at hq; exact .inr hq.1.1
   ·unfold oN at h
    split at h
    ·rename_i t pk ho; rw [ho]; exact .inr rfl
    ·cases h
def relax (md : Region.Mode) (ops : Array Oper) (r : List Nat) : List Nat := (List.range ops.size).map fun i => match ops[i]? with
 | some o => o.after.toList.foldl (fun m e => if Region.binds md e then max m (r.getD e.on 0 + 1) else m) (r.getD i 0)
 | none => 0
def relaxN (md : Region.Mode) (ops : Array Oper) : Nat → List Nat → List Nat
 | 0, r => r
 | n + 1, r => let r' := relax md ops r; if r' == r then r else relaxN md ops n r'
def ranks (md : Region.Mode) (ops : Array Oper) : List Nat := relaxN md ops 40 (List.range ops.size)
def kn (md : Region.Mode) (ops : Array Oper) (r : List Nat) : Bool := (List.range ops.size).all fun i => match ops[i]? with
 | some o => o.after.all fun e => !Region.binds md e || (decide (e.on < ops.size) && decide (r.getD e.on 0 < r.getD i 0))
 | none => false
def nQ (ops : Array Oper) : Bool :=
 (List.range ops.size).all (fun i => match ops[i]? with | some o => o.after.all (fun e => decide (e.on < i)) | none => false) ||
  ((List.range ops.size).all (fun i => match ops[i]? with | some o => o.after.all (fun e => !Region.binds .any e || decide (e.on < i)) | none => false) && kn .text ops (ranks .text ops) && kn .gc ops (ranks .gc ops))
theorem nP {md : Region.Mode} {ops : Array Oper} {r : List Nat} (h : kn md ops r = true) : ∀ (i : Nat) (o : Oper), ops[i]? = some o → ∀ e ∈ o.after, Region.binds md e = true → e.on < ops.size ∧ r.getD e.on 0 < r.getD i 0 := by
 intro i o ho e he hb
 have hi : i < ops.size := (Array.getElem?_eq_some_iff.1 ho).1
 have := List.all_eq_true.1 h i (List.mem_range.2 hi)
 rw [ho] at this
 simp only [Array.all_eq_true_iff_forall_mem, Bool.or_eq_true, Bool.not_eq_true', Bool.and_eq_true, decide_eq_true_eq] at this
 rcases this e he with h | h
 ·rw [hb] at h; cases h
 ·exact h
theorem chkEdges_ok {ops : Array Oper} (h : nQ ops = true) : (∀ (i : Nat) (o : Oper), ops[i]? = some o → ∀ e ∈ o.after, Region.binds .any e = true → e.on < i) ∧
 ∀ md : Region.Mode, ∃ r : Nat → Nat, ∀ (i : Nat) (o : Oper), ops[i]? = some o → ∀ e ∈ o.after, Region.binds md e = true → e.on < ops.size ∧ r e.on < r i := by
 unfold nQ at h
 rw [Bool.or_eq_true] at h
 rcases h with h | h
 ·have key : ∀ (i : Nat) (o : Oper), ops[i]? = some o → ∀ e ∈ o.after, e.on < i := by
   intro i o ho e he
   have hi : i < ops.size := (Array.getElem?_eq_some_iff.1 ho).1
   have := List.all_eq_true.1 h i (List.mem_range.2 hi)
   rw [ho] at this
   simp only [Array.all_eq_true_iff_forall_mem, decide_eq_true_eq] at this
   exact this e he
  refine ⟨fun i o ho e he _ => key i o ho e he, fun md => ⟨id, fun i o ho e he _ => ?_⟩⟩
  have hi : i < ops.size := (Array.getElem?_eq_some_iff.1 ho).1
  have := key i o ho e he
  exact ⟨by omega, this⟩
 ·simp only [Bool.and_eq_true] at h
  obtain ⟨⟨h1, h2⟩, h3⟩ := h
  have key : ∀ (i : Nat) (o : Oper), ops[i]? = some o → ∀ e ∈ o.after, Region.binds .any e = true → e.on < i := by
   intro i o ho e he hb
   have hi : i < ops.size := (Array.getElem?_eq_some_iff.1 ho).1
   have := List.all_eq_true.1 h1 i (List.mem_range.2 hi)
   rw [ho] at this
   simp only [Array.all_eq_true_iff_forall_mem, decide_eq_true_eq, Bool.or_eq_true, Bool.not_eq_true'] at this
   rcases this e he with h | h
   ·rw [hb] at h; cases h
   ·exact h
  refine ⟨key, fun md => ?_⟩
  cases md with
  | text => exact ⟨fun i => (ranks .text ops).getD i 0, nP h2⟩
  | gc => exact ⟨fun i => (ranks .gc ops).getD i 0, nP h3⟩
  | any =>
   refine ⟨id, fun i o ho e he hb => ?_⟩
   have hi : i < ops.size := (Array.getElem?_eq_some_iff.1 ho).1
   have := key i o ho e he hb
   exact ⟨by omega, this⟩
theorem least {α : Type} (f : α → Nat) : ∀ (l : List α), l ≠ [] → ∃ x ∈ l, ∀ y ∈ l, f x ≤ f y
 | [], h => absurd rfl h
 | [x], _ => ⟨x, List.mem_cons_self .., fun y hy => by simp at hy; rw [hy]; exact Nat.le_refl _⟩
 | x :: y :: l, _ => by
  obtain ⟨z, h1, h2⟩ := least f (y :: l) (by simp)
  by_cases h : f x ≤ f z
  ·refine ⟨x, List.mem_cons_self .., fun u hu => ?_⟩
   rcases List.mem_cons.1 hu with rfl | hu
   ·exact Nat.le_refl _
   ·exact Nat.le_trans h (h2 u hu)
  ·refine ⟨z, List.mem_cons_of_mem _ h1, fun u hu => ?_⟩
   rcases List.mem_cons.1 hu with rfl | hu
   ·omega
   ·exact h2 u hu
def oQ (ops : Array Oper) (los : List zj) : Bool :=
 los.length == ops.size && los.all (fun o => o.op.quiet || o.op.yy || o.op.pM) && nQ ops &&
  chkPairs (mM (wP ops) []) los
theorem qj {lo : zj} {q : List zj} : ∀ {p : List zj} {σ σf : RS}, (∀ x ∈ p, indep x lo = true) → (∀ x ∈ p, x.op.quiet = true ∨ x.op.yy = true) → (p ++ lo :: q).Pairwise (fun x y => x.ix < y.ix) →
 (∀ x ∈ p, σ.rs[x.ix]? = some .undef) → zW C im impl (p ++ lo :: q) σ = some σf → zW C im impl (lo :: (p ++ q)) σ = some σf
 | [], σ, σf, _, _, _, _, h => h
 | x :: p, σ, σf, hi, hqa, hp, hu, h => by
  simp only [List.cons_append, zW, Option.bind_eq_some_iff] at h ⊢
  obtain ⟨σ1, h1, h2⟩ := h
  rw [List.cons_append, List.pairwise_cons] at hp
  have := qj (p := p) (fun y hy => hi y (List.mem_cons_of_mem _ hy)) (fun y hy => hqa y (List.mem_cons_of_mem _ hy)) hp.2 (fun y hy => by
   have hlt := hp.1 y (List.mem_append_left _ hy)
   exact rm (hqa x (List.mem_cons_self ..)) h1 (by omega) (hu y (List.mem_cons_of_mem _ hy))) h2
  simp only [zW, Option.bind_eq_some_iff] at this
  obtain ⟨σ2, h3, h4⟩ := this
  obtain ⟨σ1', k1, k2⟩ := commute (hi x (List.mem_cons_self ..)) (fun _ => hu x (List.mem_cons_self ..)) h1 h3
  exact ⟨σ1', k1, σ2, k2, h4⟩
structure DInv (ops : Array Oper) (los rest : List zj) (listed : Array Bool) : Prop where
 size : listed.size = ops.size
 mem : ∀ lo ∈ rest, los[lo.ix]? = some lo ∧ listed[lo.ix]? = some false
 all : ∀ i, listed[i]? = some false → ∃ lo ∈ rest, lo.ix = i
 sorted : rest.Pairwise (fun x y => x.ix < y.ix)
 closed : ∀ i, listed[i]? = some true → ∀ e ∈ (wP ops).getD i [], listed[e]? = some true
theorem pz {ops : Array Oper} {listed : Array Bool} (hlt : ∀ (i : Nat) (o : Oper), ops[i]? = some o → ∀ e ∈ o.after, Region.binds .any e = true → e.on < i) (hcl : ∀ i : Nat, listed[i]? = some true → ∀ e ∈ (wP ops).getD i [], listed[e]? = some true) :
 ∀ (n i : Nat), i < n → (∀ e ∈ (wP ops).getD i [], listed[e]? = some true) → ∀ j, ((mM (wP ops) []).getD i 0).testBit j = true → listed[j]? = some true
 | 0, i, h, _, _, _ => by omega
 | n + 1, i, hin, hed, j, hj => by
  have hinv : MInv (wP ops) (mM (wP ops) []) := mL _ [] (fun k => by simp) (fun i m h => by simp at h)
  cases hm : (mM (wP ops) [])[i]? with
  | none => rw [List.getD_eq_getElem?_getD, hm] at hj; simp at hj
  | some m =>
   rw [List.getD_eq_getElem?_getD, hm] at hj
   obtain ⟨e, he, h1⟩ := hinv i m hm j hj
   have hel := hed e he
   rcases h1 with rfl | h1
   ·exact hel
   ·have hei : e < i := by
     rw [List.getD_eq_getElem?_getD] at he
     cases ho : (wP ops)[i]? with
     | none => rw [ho] at he; simp at he
     | some es =>
      rw [ho] at he
      simp only [wP, List.getElem?_map, Option.map_eq_some_iff] at ho
      obtain ⟨o, ho, rfl⟩ := ho
      simp only [Option.getD_some, ku, List.mem_map, List.mem_filter] at he
      obtain ⟨ed, ⟨q1, q2⟩, rfl⟩ := he
      exact hlt i o (by simpa using ho) ed (by simpa using q1) q2
    exact pz hlt hcl n e (by omega) (hcl e hel) j h1
theorem any_ok (wf : qc vm lm) (hC : vI P C) (hI : Impl P impl) {ops : Array Oper} {los : List zj} {Q : Exit → Act → World → Prop} {md : Region.Mode} (hck : oQ ops los = true) (hco : tu P vm lm ops 0 los = true)
 (hat : ∀ (i : Nat) (lo : zj), los[i]? = some lo → ∃ o, ops[i]? = some o ∧ u6 P vm lm ops o lo = true) {σf : RS} :
 ∀ {fuel : Nat} {rest : List zj} {listed : Array Bool} {ρ S G σ a w}, fuel = rest.length → DInv ops los rest listed → Rel P vm lm ρ S G σ a w → (∀ lo ∈ rest, σ.rs[lo.ix]? = some .undef) →
  zW C im impl rest σ = some σf → (∀ a' w', wK P vm lm ρ S G w σf a' w' → Q .normal a' w') → wpAny P md ops Q fuel listed a w := by
 simp only [oQ, Bool.and_eq_true, beq_iff_eq] at hck
 obtain ⟨⟨⟨hlen, hqa⟩, hedg⟩, hpairs⟩ := hck
 have hqa' : ∀ lo ∈ los, lo.op.quiet = true ∨ lo.op.yy = true ∨ lo.op.pM = true := fun lo hlo => by simpa [or_assoc] using List.all_eq_true.1 hqa lo hlo
 obtain ⟨hlt, hrank⟩ := chkEdges_ok hedg
 obtain ⟨rk, hrk⟩ := hrank md
 have hready : ∀ (listed : Array Bool) (i : Nat), i ∈ Region.ready md ops listed ↔ i < ops.size ∧ listed.getD i true = false ∧ ∃ o, ops[i]? = some o ∧ ∀ e ∈ o.after, Region.binds md e = true → listed.getD e.on false = true := by
  intro listed i
  unfold Region.ready
  rw [List.mem_filter, List.mem_range]
  constructor
  ·rintro ⟨h1, h2⟩
   simp only [Bool.and_eq_true, Bool.not_eq_true'] at h2
   refine ⟨h1, h2.1, ?_⟩
   cases ho : ops[i]? with
   | none => rw [ho] at h2; simp at h2
   | some o =>
    rw [ho] at h2
    refine ⟨o, rfl, fun e he hb => ?_⟩
    have := h2.2
    simp only [Option.map_some, Option.getD_some, Array.all_eq_true_iff_forall_mem] at this
    have := this e he
    rw [hb] at this
    simpa using this
  ·rintro ⟨h1, h2, o, ho, h3⟩
   refine ⟨h1, ?_⟩
   simp only [Bool.and_eq_true, Bool.not_eq_true']
   refine ⟨h2, ?_⟩
   rw [ho]
   simp only [Option.map_some, Option.getD_some, Array.all_eq_true_iff_forall_mem]
   intro e he
   cases hb : Region.binds md e with
   | false => rfl
   | true => simp [h3 e he hb]
 intro fuel
 induction fuel with
 | zero =>
  intro rest listed ρ S G σ a w hf hd h hu hr hk
  have hnil : rest = [] := List.eq_nil_of_length_eq_zero hf.symm
  subst hnil
  simp only [zW, Option.some.injEq] at hr
  subst hr
  refine ⟨?_, hk _ _ ⟨ρ, S, G, h, Pr.refl ..⟩⟩
  apply List.eq_nil_iff_forall_not_mem.2
  intro i hi
  rw [hready] at hi
  obtain ⟨h1, h2, _⟩ := hi
  have : listed[i]? = some false := by
   rw [Array.getD_eq_getD_getElem?] at h2
   cases hl : listed[i]? with
   | none => rw [hl] at h2; simp at h2
   | some b => rw [hl] at h2; simp at h2; rw [h2]
  obtain ⟨lo, hlo, _⟩ := hd.all i this
  simp at hlo
 | succ fuel ih =>
  intro rest listed ρ S G σ a w hf hd h hu hr hk
  refine ⟨fun hnil => ?_, fun i hi => ?_⟩
  ·exfalso
   have hne : rest ≠ [] := by intro e; subst e; simp at hf
   obtain ⟨lo, hlo, hmin⟩ := least (fun x : zj => rk x.ix) rest hne
   obtain ⟨q1, q2⟩ := hd.mem lo hlo
   obtain ⟨o, ho, _⟩ := hat _ _ q1
   have : lo.ix ∈ Region.ready md ops listed := by
    rw [hready]
    refine ⟨(Array.getElem?_eq_some_iff.1 ho).1, by rw [Array.getD_eq_getD_getElem?, q2]; rfl, o, ho, fun e he hb => ?_⟩
    obtain ⟨hsz, hlt'⟩ := hrk _ _ ho e he hb
    rw [Array.getD_eq_getD_getElem?]
    cases hl : listed[e.on]? with
    | none =>
     rw [Array.getElem?_eq_none_iff] at hl
     have := hd.size
     omega
    | some b =>
     cases b with
     | true => rfl
     | false =>
      obtain ⟨lo2, hlo2, e2⟩ := hd.all _ hl
      have := hmin lo2 hlo2
      rw [e2] at this
      omega
   rw [hnil] at this
   simp at this
  ·rw [hready] at hi
   obtain ⟨h1, h2, o, ho, h3⟩ := hi
   have hlf : listed[i]? = some false := by
    rw [Array.getD_eq_getD_getElem?] at h2
    cases hl : listed[i]? with
    | none => rw [hl] at h2; simp at h2
    | some b => rw [hl] at h2; simp at h2; rw [h2]
   obtain ⟨lo, hlo, hix⟩ := hd.all i hlf
   subst hix
   obtain ⟨p, q, rfl⟩ := List.append_of_mem hlo
   have hinlos : ∀ x ∈ p ++ lo :: q, x ∈ los := fun x hx => List.mem_of_getElem? (hd.mem x hx).1
   have hedges : ∀ e ∈ (wP ops).getD lo.ix [], listed[e]? = some true := by
    intro e he
    rw [List.getD_eq_getElem?_getD] at he
    simp only [wP, List.getElem?_map] at he
    rw [show ops.toList[lo.ix]? = some o by simpa using ho] at he
    simp only [Option.map_some, Option.getD_some, ku, List.mem_map, List.mem_filter] at he
    obtain ⟨ed, ⟨q1, q2⟩, rfl⟩ := he
    have := h3 ed (by simpa using q1) (binds_any q2)
    rw [Array.getD_eq_getD_getElem?] at this
    cases hl : listed[ed.on]? with
    | none => rw [hl] at this; simp at this
    | some b => rw [hl] at this; simp at this; rw [this]
   have hind : ∀ x ∈ p, indep x lo = true := by
    intro x hx
    have hxl := hinlos x (List.mem_append_left _ hx)
    have hll := hinlos lo (List.mem_append_right _ (List.mem_cons_self ..))
    have hpr := List.all_eq_true.1 (List.all_eq_true.1 hpairs x hxl) lo hll
    have hlt' : x.ix < lo.ix := (List.pairwise_append.1 hd.sorted).2.2 x hx lo (List.mem_cons_self ..)
    simp only [Bool.or_eq_true, Bool.not_eq_true', decide_eq_false_iff_not] at hpr
    rcases hpr with (hpr | hpr) | hpr
    ·exact absurd hlt' hpr
    ·have hxx := pz hlt hd.closed (lo.ix + 1) lo.ix (by omega) hedges x.ix hpr
     rw [(hd.mem x (List.mem_append_left _ hx)).2] at hxx
     cases hxx
    ·exact hpr
   have hfront := qj hind (fun x hx => indep_qa (hind x hx)) hd.sorted (fun x hx => hu x (List.mem_append_left _ hx)) hr
   simp only [zW, Option.bind_eq_some_iff] at hfront
   obtain ⟨σ1, s1, s2⟩ := hfront
   obtain ⟨o', ho', hchk⟩ := hat _ _ (hd.mem lo hlo).1
   rw [ho] at ho'
   injection ho' with ho'
   subst ho'
   refine stepD_ok h wf hC hI ho hchk s1 fun a' w' ⟨ρ', S', G', k1, k2⟩ => ?_
   have hsub : (p ++ q).Sublist (p ++ lo :: q) := List.Sublist.append_left (List.sublist_cons_self ..) p
   have hne : ∀ x ∈ p ++ q, x.ix ≠ lo.ix := by
    intro x hx
    have hs := List.pairwise_append.1 hd.sorted
    rcases List.mem_append.1 hx with hx | hx
    ·have := hs.2.2 x hx lo (List.mem_cons_self ..); omega
    ·have := (List.pairwise_cons.1 hs.2.1).1 x hx; omega
   refine ih (rest := p ++ q) (listed := listed.setIfInBounds lo.ix true) (σ := σ1) ?_ ?_ k1 ?_ s2 (fun a2 w2 ⟨ρ2, S2, G2, m1, m2⟩ => hk a2 w2 ⟨ρ2, S2, G2, m1, k2.trans m2⟩)
   ·simp at hf ⊢; omega
   ·have hget : ∀ j, (listed.setIfInBounds lo.ix true)[j]? = if lo.ix = j then some true else listed[j]? := by
     intro j
     rw [Array.getElem?_setIfInBounds]
     split
     ·rename_i e
      subst e
      rw [if_pos (by rw [hd.size]; exact h1)]
     ·rfl
    exact {
     size := by simpa using hd.size
     mem := fun x hx => by
      obtain ⟨m1, m2⟩ := hd.mem x (hsub.subset hx)
      exact ⟨m1, by rw [hget, if_neg (fun e => hne x hx e.symm)]; exact m2⟩
     all := fun j hj => by
      rw [hget] at hj
      split at hj
      ·cases hj
      ·rename_i hne'
       obtain ⟨x, hx, hxj⟩ := hd.all j hj
       refine ⟨x, ?_, hxj⟩
       rcases List.mem_append.1 hx with hx | hx
       ·exact List.mem_append_left _ hx
       ·rcases List.mem_cons.1 hx with rfl | hx
        ·exact absurd hxj hne'
        ·exact List.mem_append_right _ hx
     sorted := hd.sorted.sublist hsub
     closed := fun j hj e he => by
      rw [hget] at hj
      rw [hget]
      split
      ·rfl
      ·split at hj
       ·rename_i e1
        subst e1
        exact hedges e he
       ·exact hd.closed j hj e he }
   ·intro x hx
    exact lA (hqa' lo (hinlos lo hlo)) s1 (fun e => hne x hx e.symm) (hu x (hsub.subset hx))
end Go.L
