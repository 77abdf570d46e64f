/- The interpreter, part LF. -/
import Derived.Test.YtbljgbojkifoiaaLD
import Derived.Orders
import Derived.Test.YtbljgbojkifoiaaLE
/- L24: calls, from the caller's side. -/
set_option linter.unusedVariables false
set_option linter.unusedSimpArgs false
set_option linter.unusedSectionVars false
namespace Go.L
open Go

variable {P : Program} {vm : List Nat} {lm : List (Option Nat)} {ρ ρ' : List Nat} {S S' : Nat → Nat → Prop} {G G' : Nat → Cl} {σ σ' : RS} {a : Act} {w w' : World}
variable {C : CallL} {im : TypeId → String → Option FuncId} {impl : TypeId → TypeId → Bool}

/-- The store alone. -/
structure CRel (P : Program) (w : World) (S : Nat → Nat → Prop) (G : Nat → Cl) (ρ : List Nat) (st : List LObj) : Prop where
  swf : SWf w S G
  len : ρ.length = st.length
  rho : ∀ (id b : Nat), ρ[id]? = some b → b < w.heap.size
  st : ∀ (id : Nat) (o : LObj), st[id]? = some o → ObjAt P w S G ρ id o

def GLoc.cellish (l : GLoc) : Prop := ∃ id off, l.1 = .cell id off
def Cellish (G : Nat → Cl) : Prop := ∀ b l e x, G b = .arr l e x → GLoc.cellish l

/-- What a call gives: a value, and the store behind it. -/
def CallPost (P : Program) (w : World) (S : Nat → Nat → Prop) (G : Nat → Cl) (ρ : List Nat) (st : List LObj) (v : LVal) (ost : Option (List LObj)) : Value → World → Prop := fun cv w' =>
  ∃ ρ' S' G', CRel P w' S' G' ρ' (ost.getD st) ∧ At P w' S' G' ρ' noPkOk .pend v cv ∧ Pr w S G ρ w' S' G' ρ' ∧
    (ost = none → ∀ b, b < w.heap.size → w'.heap[b]? = w.heap[b]? ∧ G' b = G b) ∧ ∀ b l e x, G' b = .arr l e x → GLoc.cellish l ∨ l.1 = .pend

/-- The callee may be called as one that the checker has looked at. -/
def chkCallee (P : Program) (f : FuncId) : Bool :=
  match P.funcs[f]? with
  | some fn => fn.body.isSome && !(fn.name == "runtime.NumGoroutine")
  | none => false

def SoundC (P : Program) (C : CallL) : Prop :=
  ∀ f args st v ost, C f args st = some (v, ost) → chkCallee P f = true ∧ ∀ cargs w S G ρ, CRel P w S G ρ st → Cellish G → VL w S ρ args cargs → (∀ u ∈ args, u.simple = true) →
    Calls P f ⟨cargs⟩ w fun e w' => ∃ cv, e = .returned cv ∧ CallPost P w S G ρ st v ost cv w'

/-- What the caller's own places own is none of the callee's business. -/
def ghide (G : Nat → Cl) : Nat → Cl := fun b => match G b with
  | .arr (.cell id off, c) e x => .arr (.cell id off, c) e x
  | .arr _ _ _ => .ro
  | c => c
open Classical in
noncomputable def gback (n : Nat) (G G' : Nat → Cl) : Nat → Cl := fun b => if b < n ∧ ghide G b ≠ G b then G b else G' b

theorem ghide_box {b id} : ghide G b = .box id ↔ G b = .box id := by
  unfold ghide
  cases h : G b with
  | ro => simp
  | box i => simp
  | arr l e x => obtain ⟨l, c⟩ := l; cases l <;> simp
theorem ghide_arr {b l e x} (h : ghide G b = .arr l e x) : G b = .arr l e x ∧ GLoc.cellish l := by
  unfold ghide at h
  cases hg : G b with
  | ro => simp [hg] at h
  | box i => simp [hg] at h
  | arr l' e' x' =>
    obtain ⟨l', c⟩ := l'
    cases l' <;> simp [hg] at h
    obtain ⟨rfl, rfl, rfl⟩ := h
    exact ⟨rfl, _, _, rfl⟩
theorem ghide_cell {b id off c e x} (h : G b = .arr (.cell id off, c) e x) : ghide G b = G b := by unfold ghide; rw [h]
theorem ghide_other {b l e x} (h : G b = .arr l e x) (hn : ¬ GLoc.cellish l) : ghide G b = .ro := by
  unfold ghide
  rw [h]
  obtain ⟨l, c⟩ := l
  cases l with
  | cell id off => exact absurd ⟨_, _, rfl⟩ hn
  | _ => rfl
theorem ghide_ro {b} (h : G b = .ro) : ghide G b = .ro := by unfold ghide; rw [h]

theorem Cellish.hide : Cellish (ghide G) := fun b l e x h => (ghide_arr h).2

theorem SWf.hide (h : SWf w S G) : SWf w S (ghide G) where
  lt := h.lt
  fresh b hb := ghide_ro (h.fresh b hb)
  box b o id hs hg := h.box b o id hs (ghide_box.1 hg)
  arr b o l e x hs hg := h.arr b o l e x hs (ghide_arr hg).1

theorem Rel.hide (h : Rel P vm lm ρ S G σ a w) : CRel P w S (ghide G) ρ σ.st where
  swf := h.swf.hide
  len := h.len
  rho := h.rho
  st id o ho := (h.st id o ho).keep (Ext.refl _ _) (RhoLe.refl _) (fun b hb => ⟨rfl, (ghide_box.2 hb).trans hb.symm⟩) (fun bl off c e x hb => ⟨rfl, ghide_cell hb⟩)

/-- Behind the call. -/
theorem Rel.back (h : Rel P vm lm ρ S G σ a w) {st' : List LObj} {v : LVal} {cv : Value} (hc : CRel P w' S' G' ρ' st') (hv : At P w' S' G' ρ' noPkOk .pend v cv) (hp : Pr w S (ghide G) ρ w' S' G' ρ')
    (hcase : (st' = σ.st ∧ ∀ b, b < w.heap.size → w'.heap[b]? = w.heap[b]?) ∨ σ.nopk) :
    Rel P vm lm ρ' S' (gback w.heap.size G G') { σ with st := st' } a w' ∧ At P w' S' (gback w.heap.size G G') ρ' noPkOk .pend v cv ∧ Pr w S G ρ w' S' (gback w.heap.size G G') ρ' := by
  -- blocks that are hidden
  have hid : ∀ b, b < w.heap.size → ghide G b ≠ G b → G' b = .ro ∧ w'.heap[b]? = w.heap[b]? ∧ ∃ l e x, G b = .arr l e x ∧ ¬ GLoc.cellish l := by
    intro b hb hn
    have hro : ghide G b = .ro ∧ ∃ l e x, G b = .arr l e x ∧ ¬ GLoc.cellish l := by
      cases hg : G b with
      | ro => exact absurd ((ghide_ro hg).trans hg.symm) hn
      | box i => exact absurd ((ghide_box.2 hg).trans hg.symm) hn
      | arr l e x =>
        by_cases hl : GLoc.cellish l
        · obtain ⟨id, off, hl⟩ := hl
          obtain ⟨l, c⟩ := l
          dsimp only at hl
          subst hl
          exact absurd (ghide_cell hg) hn
        · exact ⟨ghide_other hg hl, l, e, x, rfl, hl⟩
    obtain ⟨f1, f2⟩ := hp.frame b hb hro.1
    exact ⟨f2, f1, hro.2⟩
  have hsame : ∀ b, G' b ≠ .ro → gback w.heap.size G G' b = G' b := by
    intro b hb
    unfold gback
    split
    · rename_i hc; exact absurd (hid b hc.1 hc.2).1 hb
    · rfl
  have hown : ∀ bl l e x, G bl = .arr l e x → ¬ GLoc.cellish l → w'.heap[bl]? = w.heap[bl]? ∧ gback w.heap.size G G' bl = G bl := by
    intro bl l e x hg hl
    have hlt := h.swf.lt_of (b := bl) (by rw [hg]; simp)
    have hro := ghide_other hg hl
    obtain ⟨f1, f2⟩ := hp.frame bl hlt hro
    refine ⟨f1, ?_⟩
    unfold gback
    rw [if_pos ⟨hlt, by rw [hro, hg]; simp⟩]
  have hnc : ∀ (b : Base) (c : Nat), (∀ id off, b ≠ .cell id off) → ¬ GLoc.cellish (b, c) := by
    rintro b c hb ⟨id, off, h⟩; exact hb id off h
  refine ⟨?_, hv.keep (Ext.refl _ _) (RhoLe.refl _) (fun bl c e x hb => ⟨rfl, hsame bl (by rw [hb]; simp)⟩) (fun _ _ _ h => h), ?_⟩
  · exact {
      defers := h.defers
      vsz := h.vsz
      lsz := h.lsz
      swf := {
        lt := hc.swf.lt
        fresh := fun b hb => by
          have := hp.size
          unfold gback
          rw [if_neg (by omega)]
          exact hc.swf.fresh b hb
        box := fun b o id hs hg => by
          unfold gback at hg
          split at hg
          · rename_i hcc
            obtain ⟨_, _, l, e, x, h1, _⟩ := hid b hcc.1 hcc.2
            rw [h1] at hg; cases hg
          · exact hc.swf.box b o id hs hg
        arr := fun b o l e x hs hg => by
          unfold gback at hg
          split at hg
          · rename_i hcc
            obtain ⟨q1, _, l', e', x', h1, h2⟩ := hid b hcc.1 hcc.2
            rcases hp.snew b o hs with hs | hs | hs
            · exact h.swf.arr b o l e x hs hg
            · omega
            · exact absurd (ghide_other h1 h2) hs
          · exact hc.swf.arr b o l e x hs hg }
      len := hc.len
      rho := hc.rho
      st := fun id o ho => (hc.st id o ho).keep (Ext.refl _ _) (RhoLe.refl _) (fun b hb => ⟨rfl, hsame b (by rw [hb]; simp)⟩) (fun bl off c e x hb => ⟨rfl, hsame bl (by rw [hb]; simp)⟩)
      vars := fun k u hu => by
        obtain ⟨t, h1, h2, h3⟩ := h.vars k u hu
        exact ⟨t, h1, h2, h3.keep hp.ext hp.rho (fun bl c e x hb => hown bl _ e x hb (hnc _ _ (by simp))) (fun _ _ _ h => h)⟩
      rs := fun i u hu => by
        rcases h.rs i u hu with h0 | ⟨t, h1, h2, h3⟩
        · exact .inl h0
        · refine .inr ⟨t, h1, h2, ?_⟩
          rcases hcase with ⟨e, hb⟩ | hn
          · subst e
            exact h3.keep hp.ext hp.rho (fun bl c e x hb => hown bl _ e x hb (hnc _ _ (by simp))) (fun p n xs hpk => PkOk.heap hpk hp.rho (fun id b hid _ => hb b (h.rho id b hid)))
          · exact (h3.nopk (fun bb p n xs e => hn i bb p n xs (e ▸ hu))).keep hp.ext hp.rho (fun bl c e x hb => hown bl _ e x hb (hnc _ _ (by simp))) (fun _ _ _ h => h) }
  · refine ⟨hp.os, hp.tape, hp.output, hp.size, hp.ext, hp.rho, fun b hb hg => ?_, fun b o hs => ?_⟩
    · obtain ⟨f1, f2⟩ := hp.frame b hb (ghide_ro hg)
      refine ⟨f1, ?_⟩
      unfold gback
      rw [if_neg (by rw [ghide_ro hg, hg]; simp)]
      exact f2
    · rcases hp.snew b o hs with hs | hs | hs
      · exact .inl hs
      · exact .inr (.inl hs)
      · exact .inr (.inr fun e => hs (ghide_ro e))

/-- The same behind a call that knows no store. -/
def gpure (n : Nat) (G G' : Nat → Cl) : Nat → Cl := fun b => if b < n then G b else match G' b with
  | .arr (.pend, c) e x => .arr (.pend, c) e x
  | _ => .ro

theorem Rel.backPure (h : Rel P vm lm ρ S G σ a w) {v : LVal} {cv : Value} (hc : SWf w' S' G') (hv : At P w' S' G' [] noPkOk .pend v cv) (hp : Pr w S (fun _ => .ro) [] w' S' G' []) (h4 : ∀ b, b < w.heap.size → w'.heap[b]? = w.heap[b]? ∧ G' b = .ro) :
    Rel P vm lm ρ S' (gpure w.heap.size G G') σ a w' ∧ At P w' S' (gpure w.heap.size G G') ρ noPkOk .pend v cv ∧ Pr w S G ρ w' S' (gpure w.heap.size G G') ρ := by
  have hlt : ∀ b, b < w.heap.size → gpure w.heap.size G G' b = G b := fun b hb => by unfold gpure; rw [if_pos hb]
  have hsz := hp.size
  have hS : ∀ b o, S' b o → b < w.heap.size → S b o := fun b o hs hb => by
    rcases hp.snew b o hs with h1 | h1 | h1
    · exact h1
    · omega
    · exact absurd rfl h1
  refine ⟨h.keep hp.ext hsz {
      lt := hc.lt
      fresh := fun b hb => by unfold gpure; rw [if_neg (by omega), hc.fresh b hb]
      box := fun b o id hs hg => by
        by_cases hb : b < w.heap.size
        · rw [hlt b hb] at hg; exact h.swf.box b o id (hS b o hs hb) hg
        · unfold gpure at hg
          rw [if_neg hb] at hg
          split at hg <;> cases hg
      arr := fun b o l e x hs hg => by
        by_cases hb : b < w.heap.size
        · rw [hlt b hb] at hg; exact h.swf.arr b o l e x (hS b o hs hb) hg
        · unfold gpure at hg
          rw [if_neg hb] at hg
          split at hg
          · rename_i hg'
            injection hg with g1 g2 g3; subst g2; subst g3
            exact hc.arr b o _ _ _ hs hg'
          · cases hg }
    (fun b id hg => ⟨(h4 b (h.swf.lt_of (by rw [hg]; simp))).1, hlt b (h.swf.lt_of (by rw [hg]; simp))⟩) (fun b l e x hg _ => ⟨(h4 b (h.swf.lt_of (by rw [hg]; simp))).1, hlt b (h.swf.lt_of (by rw [hg]; simp))⟩), ?_, ?_⟩
  · refine hv.keep (Ext.refl _ _) (RhoLe.nil _) (fun bl c e x hg => ⟨rfl, ?_⟩) (fun _ _ _ h => h)
    have hb : ¬ bl < w.heap.size := fun hb => by have := (h4 bl hb).2; rw [hg] at this; cases this
    unfold gpure
    rw [if_neg hb, hg]
  · exact ⟨hp.os, hp.tape, hp.output, hsz, hp.ext, RhoLe.refl _, fun b hb hg => ⟨(h4 b hb).1, (hlt b hb).trans hg⟩, fun b o hs => by
      by_cases hb : b < w.heap.size
      · exact .inl (hS b o hs hb)
      · exact .inr (.inl (by omega))⟩

theorem Gives.call {o : Oper} {f : FuncId} {args : Array Value} {R : Value → World → Prop} (hr : (execOp a.eval o).run P w = .ok (.enter f args) w) (hC : Calls P f args w fun e w' => ∃ cv, e = .returned cv ∧ R cv w') : Gives P o a w R := by
  intro K Q hk
  unfold Oper.wp
  rw [hr]
  refine Calls.mono hC ?_
  rintro e w' ⟨cv, rfl, hR⟩
  exact hk cv w' hR

theorem LVal.arg_V {v : LVal} {cv : Value} (h : V w S ρ v cv) : V w S ρ v.arg cv := by
  cases v with
  | vs b o n xs =>
    cases o with
    | full =>
      cases h with
      | nils => exact .nils
      | vz => exact .vz
      | vs h1 h2 h3 h4 h5 => exact .vs h1 h2 (by intro e; cases e) h4 h5
    | _ => exact h
  | _ => exact h
theorem LVal.arg_simple {v : LVal} (h : v.simple = true) : v.arg.simple = true := by
  cases v with
  | vs b o n xs => cases o <;> simp_all [LVal.arg, LVal.simple]
  | _ => exact h
theorem VL.args {l : List LVal} {cs : List Value} (h : VL w S ρ l cs) : VL w S ρ (l.map LVal.arg) cs := by
  induction l generalizing cs with
  | nil => cases h; exact .nil
  | cons v l ih => cases h with | cons h1 h2 => exact .cons (LVal.arg_V h1) (ih h2)

section
variable (h : Rel P vm lm ρ S G σ a w) {o : Oper}
include h

omit h in
theorem run_enter {f : FuncId} (hf : chkCallee P f = true) (args : Array Value) : (callFunc f args).run P w = .ok (.enter f args) w := by
  unfold chkCallee at hf
  cases hfn : P.funcs[f]? with
  | none => simp [hfn] at hf
  | some fn =>
    simp only [hfn, Bool.and_eq_true, Bool.not_eq_true'] at hf
    obtain ⟨hb, hn⟩ := hf
    have hb' : fn.body.isNone = false := by cases hbb : fn.body with
      | none => rw [hbb] at hb; simp at hb
      | some _ => rfl
    have hn' : ¬ fn.name = "runtime.NumGoroutine" := by simpa using hn
    have hb2 : ¬ fn.body = none := by intro e; rw [e] at hb; simp at hb
    simp [callFunc, hfn, hn', hb2]

/-- A call whose arguments are taken. -/
theorem ok_callOut (hC : SoundC P C) {f : FuncId} {us : List LVal} {cargs : List Value} {v : LVal} (hV : VL w S ρ us cargs) (hs : us.all LVal.simple = true) (hc : callOut σ (C f us σ.st) = some (v, σ'))
    (hr : chkCallee P f = true → (execOp a.eval o).run P w = .ok (.enter f ⟨cargs⟩) w) : Gives P o a w (Post P vm lm ρ S G w a σ' v) := by
  cases hcf : C f us σ.st with
  | none => rw [hcf] at hc; simp [callOut] at hc
  | some r =>
    obtain ⟨u, ost⟩ := r
    rw [hcf] at hc
    have hcalls := (hC f us σ.st u ost hcf).2 cargs w S (ghide G) ρ h.hide Cellish.hide hV (fun x hx => List.all_eq_true.1 hs x hx)
    refine .call (hr (hC f us σ.st u ost hcf).1) (Calls.mono hcalls ?_)
    rintro e w' ⟨cv, rfl, ρ', S', G', c1, c2, c3, c4, c5⟩
    refine ⟨cv, rfl, ?_⟩
    cases ost with
    | none =>
      simp only [callOut, Option.some.injEq, Prod.mk.injEq] at hc
      obtain ⟨rfl, rfl⟩ := hc
      obtain ⟨k1, k2, k3⟩ := h.back c1 c2 c3 (.inl ⟨rfl, fun b hb => (c4 rfl b hb).1⟩)
      exact .of k1 k2 k3
    | some st =>
      simp only [callOut, Option.some.injEq, Prod.mk.injEq] at hc
      obtain ⟨rfl, rfl⟩ := hc
      obtain ⟨k1, k2, k3⟩ := h.noPk.back c1 c2 c3 (.inr σ.noPk_nopk)
      exact .of k1 k2 k3

omit h in
theorem args_simple {us : List LVal} (hs : us.all LVal.simple = true) : (us.map LVal.arg).all LVal.simple = true := by
  rw [List.all_eq_true] at hs ⊢
  intro x hx
  obtain ⟨y, hy, rfl⟩ := List.mem_map.1 hx
  exact LVal.arg_simple (hs y hy)

omit h in
theorem run_call_op {f : FuncId} {args : Array Operand} {at_ : Array TypeId} {x : Operand} {caps : List Value} (ho : o.op = .call ⟨.value x, args, at_⟩) (hx : a.eval x = .func (.func f) #[] ⟨caps⟩) (hf : chkCallee P f = true) :
    (execOp a.eval o).run P w = .ok (.enter f ⟨args.toList.map a.eval ++ caps⟩) w := by
  have : (⟨args.toList.map a.eval ++ caps⟩ : Array Value) = args.map a.eval ++ ⟨caps⟩ := by apply Array.ext'; simp
  rw [this]
  simp [execOp, ho, resolve, Deferred.ofValue, invoke, hx, run_enter hf]

theorem ok_call (hC : SoundC P C) {f : FuncId} {args : Array Operand} {ys : List Opd} {at_ : Array TypeId} (ho : o.op = .call ⟨.value (.func f), args, at_⟩) (hx : chkOpds vm lm args.toList ys = true) {v : LVal}
    (hs : sem C im impl σ (.call f ys) = some (v, σ')) : Gives P o a w (Post P vm lm ρ S G w a σ' v) := by
  simp only [sem, Option.bind_eq_some_iff] at hs
  obtain ⟨r, h1, h2⟩ := hs
  obtain ⟨S', G', k1, k2, k3, k4⟩ := h.takes hx (us := r.1) (σ' := r.2) h1
  have hr : chkCallee P f = true → (execOp a.eval o).run P w = .ok (.enter f ⟨args.toList.map a.eval⟩) w := fun hf => by
    have := run_call_op (P := P) (a := a) (w := w) (o := o) (caps := []) ho rfl hf
    rwa [List.append_nil] at this
  have := ok_callOut k1 hC (us := r.1.map LVal.arg) k2.args (args_simple k3) h2 hr
  intro K Q hk
  exact this K Q fun cv w' ⟨ρ', S2, G2, m1, m2, m3⟩ => hk cv w' ⟨ρ', S2, G2, m1, m2, k4.trans m3⟩

theorem ok_callv (hC : SoundC P C) {x : Operand} {x' : Opd} {args : Array Operand} {ys : List Opd} {at_ : Array TypeId} (ho : o.op = .call ⟨.value x, args, at_⟩) (hxx : chkOpd vm lm x x' = true) (hx : chkOpds vm lm args.toList ys = true) {v : LVal}
    (hs : sem C im impl σ (.callv x' ys) = some (v, σ')) : Gives P o a w (Post P vm lm ρ S G w a σ' v) := by
  simp only [sem, Option.bind_eq_some_iff] at hs
  obtain ⟨u, h0, hs⟩ := hs
  cases u with
  | func f caps =>
    simp only [Option.bind_eq_some_iff] at hs
    obtain ⟨r, h1, h2⟩ := hs
    have hVf := h.peek_V hxx h0 rfl
    obtain ⟨S', G', k1, k2, k3, k4⟩ := h.takes hx (us := r.1) (σ' := r.2) h1
    generalize hcx : a.eval x = cx at hVf
    cases hVf with
    | func hcs hpl =>
      rename_i cs
      have hr := fun hf => run_call_op (P := P) (a := a) (w := w) (o := o) (f := f) (caps := cs) ho hcx hf
      have hcaps : VL w S' ρ caps cs := hcs.mono k4.ext (RhoLe.refl _)
      have hall : (r.1.map LVal.arg ++ caps).all LVal.simple = true := by
        rw [List.all_append, args_simple k3, Bool.true_and, List.all_eq_true]
        intro y hy
        exact LVal.simple_of_plain (List.all_eq_true.1 hpl y hy)
      have := ok_callOut k1 hC (us := r.1.map LVal.arg ++ caps) (k2.args.append hcaps) hall h2 hr
      intro K Q hk
      exact this K Q fun cv w' ⟨ρ', S2, G2, m1, m2, m3⟩ => hk cv w' ⟨ρ', S2, G2, m1, m2, k4.trans m3⟩
  | _ => simp at hs

/-- A call of a function that has no store. -/
theorem ok_callp (hC : SoundC P C) {f : FuncId} {args : Array Operand} {ys : List Opd} {at_ : Array TypeId} (ho : o.op = .call ⟨.value (.func f), args, at_⟩) (hx : chkOpds vm lm args.toList ys = true) {v : LVal}
    (hs : sem C im impl σ (.callp f ys) = some (v, σ')) : Gives P o a w (Post P vm lm ρ S G w a σ' v) := by
  simp only [sem, Option.bind_eq_some_iff] at hs
  obtain ⟨r, h1, h2⟩ := hs
  split at h2
  · rename_i hpf
    simp only [Option.bind_eq_some_iff] at h2
    obtain ⟨⟨u, ost⟩, hcf, h3⟩ := h2
    cases ost with
    | some _ => simp at h3
    | none =>
      simp at h3
      obtain ⟨rfl, rfl⟩ := h3
      obtain ⟨S1, G1, k1, k2, k3, k4⟩ := h.takes hx (us := r.1) (σ' := r.2) h1
      have hr := run_call_op (P := P) (a := a) (w := w) (o := o) (caps := []) ho rfl (hC f (r.1.map LVal.arg) [] u none hcf).1
      rw [List.append_nil] at hr
      have hV0 : VL w S1 [] (r.1.map LVal.arg) (args.toList.map a.eval) := (k2.of_pfs hpf).args
      have hcr : CRel P w S1 (fun _ => .ro) [] [] := ⟨⟨k1.swf.lt, fun _ _ => rfl, fun _ _ _ _ h => (by cases h), fun _ _ _ _ _ _ h => (by cases h)⟩, rfl, fun _ _ h => (by simp at h), fun _ _ h => (by simp at h)⟩
      have hcalls := (hC f (r.1.map LVal.arg) [] u none hcf).2 _ w S1 (fun _ => .ro) [] hcr (fun _ _ _ _ h => (by cases h)) hV0 (fun x hx => List.all_eq_true.1 (args_simple k3) x hx)
      refine .call hr (Calls.mono hcalls ?_)
      rintro e w' ⟨cv, rfl, ρ', S', G', c1, c2, c3, c4, c5⟩
      refine ⟨cv, rfl, ?_⟩
      have hρ : ρ' = [] := List.eq_nil_of_length_eq_zero (by simpa using c1.len)
      subst hρ
      obtain ⟨m1, m2, m3⟩ := k1.backPure c1.swf c2 c3 (c4 rfl)
      exact .of m1 m2 (k4.trans m3)
  · cases h2
end
end Go.L
/- L25: which operation of the model an operation of the interpreter stands for. -/
set_option linter.unusedVariables false
set_option linter.unusedSimpArgs false
set_option linter.unusedSectionVars false
namespace Go.L
open Go

variable {P : Program} {vm : List Nat} {lm : List (Option Nat)} {ρ ρ' : List Nat} {S S' : Nat → Nat → Prop} {G G' : Nat → Cl} {σ σ' : RS} {a : Act} {w w' : World}
variable {C : CallL} {im : TypeId → String → Option FuncId} {impl : TypeId → TypeId → Bool}

def szOk (P : Program) (t : TypeId) (n : Nat) : Bool := (P.info? t).map (·.size) == some n
def chkNil : Nat → TypeDesc → Value → Bool
  | 0, .pointer _, .pointer none => true
  | 1, .slice _, .slice none 0 0 => true
  | 2, .map _ _, .map none => true
  | 3, .func _ _ _, .nilFunc => true
  | 4, .interface _, .nilIface => true
  | _, _, _ => false
def isStr (P : Program) (t : TypeId) : Bool := match P.underlying t with | some .string => true | _ => false
def isBool (P : Program) (t : TypeId) : Bool := match P.underlying t with | some .bool => true | _ => false
def isByte (P : Program) (t : TypeId) : Bool := match P.underlying t with | some (.int .u8) => true | _ => false
def isKind (P : Program) (t : TypeId) (k : IntKind) : Bool := match P.underlying t with | some (.int k') => decide (k' = k) | _ => false
def sliceOf (P : Program) (t : TypeId) : Option TypeId := match P.underlying t with | some (.slice e) => some e | _ => none
def isKeyT (P : Program) (t : TypeId) : KeyK → Bool
  | .b => isBool P t
  | .i k => isKind P t k
  | .s => isStr P t
def eqOp (neq : Bool) : BinOp := if neq then .neq else .eql
/-- What an append and a make need to know of the elements' type. -/
def elemOk (P : Program) (e : TypeId) (esz bytes : Nat) : Bool :=
  match P.info? e with
  | some i => match i.zero with
    | some z => z.cells.size == esz && i.size == esz && i.bytes == bytes && decide (0 < esz)
    | none => false
  | none => false

theorem isStr_ok {t} (h : isStr P t = true) : P.underlying t = some .string := by unfold isStr at h; split at h <;> first | assumption | cases h
theorem isBool_ok {t} (h : isBool P t = true) : P.underlying t = some .bool := by unfold isBool at h; split at h <;> first | assumption | cases h
theorem isByte_ok {t} (h : isByte P t = true) : P.underlying t = some (.int .u8) := by unfold isByte at h; split at h <;> first | assumption | cases h
theorem isKind_ok {t k} (h : isKind P t k = true) : P.underlying t = some (.int k) := by
  unfold isKind at h
  split at h
  · rename_i hk; rw [hk, of_decide_eq_true h]
  · cases h
theorem sliceOf_ok {t e} (h : sliceOf P t = some e) : P.underlying t = some (.slice e) := by
  unfold sliceOf at h
  split at h
  · rename_i hk; injection h with h; subst h; exact hk
  · cases h
theorem isKeyT_ok {t k} (h : isKeyT P t k = true) : P.underlying t = some (keyDesc k) := by
  cases k with
  | b => exact isBool_ok h
  | i k => exact isKind_ok h
  | s => exact isStr_ok h
theorem szOk_ok {t n} (h : szOk P t n = true) : (P.info? t).map (·.size) = some n := by simpa [szOk] using h
theorem elemOk_ok {e esz bytes} (h : elemOk P e esz bytes = true) : ∃ i z, P.info? e = some i ∧ i.zero = some z ∧ z.cells.size = esz ∧ i.size = esz ∧ i.bytes = bytes ∧ 0 < esz ∧ P.cellsOf e = esz := by
  unfold elemOk at h
  cases hi : P.info? e with
  | none => simp [hi] at h
  | some i =>
    cases hz : i.zero with
    | none => simp [hi, hz] at h
    | some z =>
      simp only [hi, hz, Bool.and_eq_true, beq_iff_eq, decide_eq_true_eq] at h
      obtain ⟨⟨⟨h1, h2⟩, h3⟩, h4⟩ := h
      exact ⟨i, z, rfl, hz, h1, h2, h3, h4, by simp [Program.cellsOf, hi, h2]⟩

def chkFld (P : Program) (s : TypeId) (f off n : Nat) (agg : Bool) : Bool :=
  match P.underlying s with
  | some (.struct fs) => match fs[f]? with
    | some fl => fl.offset == off && tyOk P fl.type agg n && decide (0 < n)
    | none => false
  | _ => false
theorem chkFld_ok {s f off n agg} (h : chkFld P s f off n agg = true) : ∃ fs fl, P.underlying s = some (.struct fs) ∧ fs[f]? = some fl ∧ fl.offset = off ∧ tyOk P fl.type agg n = true ∧ 0 < n := by
  unfold chkFld at h
  split at h
  · rename_i fs hs
    cases hf : fs[f]? with
    | none => simp [hf] at h
    | some fl =>
      simp only [hf, Bool.and_eq_true, beq_iff_eq, decide_eq_true_eq] at h
      exact ⟨fs, fl, hs, hf, h.1.1, h.1.2, h.2⟩
  · cases h
def arrayOf (P : Program) (t : TypeId) : Option (Nat × TypeId) := match P.underlying t with | some (.array n e) => some (n, e) | _ => none
theorem arrayOf_ok {t n e} (h : arrayOf P t = some (n, e)) : P.underlying t = some (.array n e) := by
  unfold arrayOf at h
  split at h
  · rename_i hk; injection h with h; injection h with h1 h2; subst h1; subst h2; exact hk
  · cases h
def mapOf (P : Program) (t : TypeId) : Option (TypeId × TypeId) := match P.underlying t with | some (.map k e) => some (k, e) | _ => none
theorem mapOf_ok {t k e} (h : mapOf P t = some (k, e)) : P.underlying t = some (.map k e) := by
  unfold mapOf at h
  split at h
  · rename_i hk; injection h with h; injection h with h1 h2; subst h1; subst h2; exact hk
  · cases h
def notIface (P : Program) (t : TypeId) : Bool := match P.underlying t with | some (.interface _) => false | some _ => true | none => false
theorem notIface_ok {t} (h : notIface P t = true) : ∃ d, P.underlying t = some d ∧ ∀ ms, d ≠ .interface ms := by
  unfold notIface at h
  cases hu : P.underlying t with
  | none => simp [hu] at h
  | some d =>
    refine ⟨d, rfl, fun ms e => ?_⟩
    subst e
    simp [hu] at h

def chkOp (P : Program) (vm : List Nat) (lm : List (Option Nat)) (op : Op) : LOp → Bool
  | .mv y p => match op with | .move x => chkOpd vm lm x y | _ => false
  | .asg y => match op with | .assign x => chkOpd vm lm x y | _ => false
  | .pick c' x' y' => match op with | .pick c x y => chkOpd vm lm c c' && chkOpd vm lm x x' && chkOpd vm lm y y' | _ => false
  | .alloc t' cells => match op with | .alloc t => t == t' && zeroOk P t cells | _ => false
  | .box t' y => match op with | .box t x => t == t' && chkOpd vm lm x y | _ => false
  | .build zero qs => match op with | .build t ps => zeroOk P t zero && buildable P t && chkParts P vm lm (placesOf P t) ps.toList qs | _ => false
  | .mkslice zero esz len' qs => match op with
    | .buildSlice t len ps => match sliceOf P t with
      | some e => len == len' && zeroOk P e zero.cells && szOk P e esz && decide (len * esz ≤ 2 ^ 24) && decide (len ≤ 2 ^ 24) && chkElems vm lm ps.toList qs
      | none => false
    | _ => false
  | .load agg n y p => match op with | .load t x => tyOk P t agg n && chkOpd vm lm x y | _ => false
  | .store n x' y' => match op with | .store t x y => szOk P t n && chkOpd vm lm x x' && chkOpd vm lm y y' | _ => false
  | .nilCheck y => match op with | .nilCheck x => chkOpd vm lm x y | _ => false
  | .bin bo x' y' => match op with | .binOp bo' _ x y _ => decide (bo' = bo) && chkOpd vm lm x x' && chkOpd vm lm y y' | _ => false
  | .un uo x' => match op with | .unOp uo' _ x => decide (uo' = uo) && chkOpd vm lm x x' | _ => false
  | .eqAgg neq ks x' y' => match op with
    | .binOp bo t x y _ => decide (bo = eqOp neq) && decide (flatKinds P 9 t = some ks) && aggT P t && !P.eqGuardType P.depth t && chkOpd vm lm x x' && chkOpd vm lm y y'
    | _ => false
  | .isNil kind neq x' => match op with
    | .binOp bo t x (.const c) _ => match P.underlying t with
      | some d => decide (bo = eqOp neq) && chkNil kind d c && chkOpd vm lm x x'
      | none => false
    | _ => false
  | .eqBool neq x' y' => match op with | .binOp bo t x y _ => decide (bo = eqOp neq) && isBool P t && chkOpd vm lm x x' && chkOpd vm lm y y' | _ => false
  | .cvInt k x' => match op with | .convert s d x => (P.underlying s).isSome && isKind P d k && chkOpd vm lm x x' | _ => false
  | .cvId x' => match op with | .convert s d x => isStr P s && isStr P d && chkOpd vm lm x x' | _ => false
  | .cvStr x' => match op with
    | .convert s d x => match sliceOf P s with
      | some e => isByte P e && isStr P d && chkOpd vm lm x x'
      | none => false
    | _ => false
  | .cvBytes x' => match op with
    | .convert s d x => match sliceOf P d with
      | some e => isByte P e && isStr P s && chkOpd vm lm x x'
      | none => false
    | _ => false
  | .mkIface t' x' => match op with | .makeInterface t x => t == t' && P.concrete t && chkOpd vm lm x x' | _ => false
  | .mkFunc f' ys => match op with | .makeFunc (.func f) first caps => first.isEmpty && f == f' && chkOpds vm lm caps.toList ys | _ => false
  | .mkMap => match op with | .makeMap _ none => true | _ => false
  | .mkMapR y => match op with | .makeMap t (some x) => (mapOf P t).isSome && chkOpd vm lm x y | _ => false
  | .makeSlice zero e' esz bytes l' c' m => match op with
    | .makeSlice t l c => match sliceOf P t with
      | some e => e == e' && elemOk P e esz bytes && zeroOk P e zero.cells && chkOpd vm lm l l' && chkOpd vm lm c c'
      | none => false
    | _ => false
  | .sliceStr x' lo' hi' => match op with | .slice t x lo hi none => isStr P t && chkOpd vm lm x x' && chkOpdO vm lm lo lo' && chkOpdO vm lm hi hi' | _ => false
  | .sliceVs esz x' lo' hi' mx' => match op with
    | .slice t x lo hi mx => match sliceOf P t with
      | some e => szOk P e esz && (mx'.isNone || hi'.isSome) && chkOpd vm lm x x' && chkOpdO vm lm lo lo' && chkOpdO vm lm hi hi' && chkOpdO vm lm mx mx'
      | none => false
    | _ => false
  | .fieldAddr off n agg x' => match op with | .fieldAddr s x f => chkFld P s f off n agg && chkOpd vm lm x x' | _ => false
  | .field off n agg x' => match op with | .field s x f => chkFld P s f off n agg && chkOpd vm lm x x' | _ => false
  | .idxAddrArr len esz agg x' i' => match op with
    | .indexAddr t x i => match arrayOf P t with
      | some (n, e) => n == len && tyOk P e agg esz && chkOpd vm lm x x' && chkOpd vm lm i i'
      | none => false
    | _ => false
  | .idxAddrVs esz x' i' => match op with
    | .indexAddr t x i => match sliceOf P t with
      | some e => szOk P e esz && chkOpd vm lm x x' && chkOpd vm lm i i'
      | none => false
    | _ => false
  | .idxArr len esz agg x' i' => match op with
    | .index t x i => match arrayOf P t with
      | some (n, e) => n == len && tyOk P e agg esz && chkOpd vm lm x x' && chkOpd vm lm i i'
      | none => false
    | _ => false
  | .idxStr x' i' => match op with | .index t x i => isStr P t && chkOpd vm lm x x' && chkOpd vm lm i i' | _ => false
  | .lookup kd zero x' i' ok' => match op with
    | .lookup t x i ok => match mapOf P t with
      | some (k, e) => ok == ok' && isKeyT P k kd && zeroVOk P e zero && chkOpd vm lm x x' && chkOpd vm lm i i'
      | none => false
    | _ => false
  | .mapUpdate kd m' k' v' => match op with
    | .mapUpdate t m k v => match mapOf P t with
      | some (kt, _) => isKeyT P kt kd && chkOpd vm lm m m' && chkOpd vm lm k k' && chkOpd vm lm v v'
      | none => false
    | .insert t m k v => match mapOf P t with
      | some (kt, _) => isKeyT P kt kd && chkOpd vm lm m m' && chkOpd vm lm k k' && chkOpd vm lm v v'
      | none => false
    | _ => false
  | .tassert t' zero x' ok' => match op with | .typeAssert x _ t ok => t == t' && ok == ok' && notIface P t && zeroVOk P t zero && chkOpd vm lm x x' | _ => false
  | .tassertI t' x' => match op with | .typeAssert x _ t ok => t == t' && !ok && chkOpd vm lm x x' | _ => false
  | .extract x' i' => match op with | .extract x i => i == i' && chkOpd vm lm x x' | _ => false
  | .call f' ys => match op with | .call ⟨.value (.func f), args, _⟩ => f == f' && chkOpds vm lm args.toList ys | _ => false
  | .callp f' ys => match op with | .call ⟨.value (.func f), args, _⟩ => f == f' && chkOpds vm lm args.toList ys | _ => false
  | .callv x' ys => match op with | .call ⟨.value x, args, _⟩ => chkOpd vm lm x x' && chkOpds vm lm args.toList ys | _ => false
  | .len k x' => match op with
    | .call ⟨.builtin .len, ⟨[x]⟩, at_⟩ => match at_[0]? with
      | some t => match P.underlying t with
        | some d => lenKind k d && chkOpd vm lm x x'
        | none => false
      | none => false
    | _ => false
  | .append e' esz bytes x' y' => match op with
    | .call ⟨.builtin .append, ⟨[x, y]⟩, ⟨[t, u]⟩⟩ => match sliceOf P t with
      | some e => e == e' && ((sliceOf P u).isSome || isStr P u) && elemOk P e esz bytes && chkOpd vm lm x x' && chkOpd vm lm y y'
      | none => false
    | _ => false
  | .minmax mx x' ys => match op with
    | .call ⟨.builtin b, ⟨x :: xs⟩, _⟩ => decide (b = (if mx then .max else .min)) && chkOpd vm lm x x' && chkOpds vm lm xs ys
    | _ => false
  | .s2ap n x' => match op with
    | .sliceToArrayPointer t x => match arrayOf P t with
      | some (m, e) => m == n && szOk P e 1 && chkOpd vm lm x x'
      | none => false
    | _ => false
  | .fail => true
  | _ => false

section
variable (h : Rel P vm lm ρ S G σ a w) {o : Oper}
include h

/-- What the interpreter's operation gives, the model's gives. -/
theorem op_ok (hC : SoundC P C) (himpl : ∀ t t', impl t t' = true → ∃ want i, P.underlying t = some (.interface want) ∧ P.info? t' = some i ∧ Instr.missingMethod want i.methods = none)
    {l : LOp} (hc : chkOp P vm lm o.op l = true) {v : LVal} (hs : sem C im impl σ l = some (v, σ')) : Gives P o a w (Post P vm lm ρ S G w a σ' v) := by
  cases l with
  | mv y p =>
    simp only [chkOp] at hc
    split at hc
    · rename_i x ho
      cases y with
      | const c =>
        have hs' : σ.give (.const c) = some (v, σ') := by cases p <;> exact hs
        exact ok_asg h (.inr ho) hc hs'
      | loc i =>
        have hs' : σ.give (.loc i) = some (v, σ') := by cases p <;> exact hs
        exact ok_asg h (.inr ho) hc hs'
      | var k =>
        cases p with
        | true => exact ok_look h (.inr ho) hc hs
        | false => exact ok_take h (.inr ho) hc hs
    · cases hc
  | asg y =>
    simp only [chkOp] at hc
    split at hc
    · rename_i x ho; exact ok_asg h (.inl ho) hc hs
    · cases hc
  | pick c' x' y' =>
    simp only [chkOp] at hc
    split at hc
    · rename_i c x y ho
      simp only [Bool.and_eq_true] at hc
      exact ok_pick h ho hc.1.1 hc.1.2 hc.2 hs
    · cases hc
  | alloc t' cells =>
    simp only [chkOp] at hc
    split at hc
    · rename_i t ho
      simp only [Bool.and_eq_true, beq_iff_eq] at hc
      obtain ⟨rfl, hc⟩ := hc
      simp only [sem, Option.some.injEq, Prod.mk.injEq] at hs
      obtain ⟨rfl, rfl⟩ := hs
      exact ok_alloc h ho hc
    · cases hc
  | box t' y =>
    simp only [chkOp] at hc
    split at hc
    · rename_i t x ho
      simp only [Bool.and_eq_true, beq_iff_eq] at hc
      obtain ⟨rfl, hc⟩ := hc
      exact ok_box h ho hc hs
    · cases hc
  | build zero qs =>
    simp only [chkOp] at hc
    split at hc
    · rename_i t ps ho
      simp only [Bool.and_eq_true] at hc
      exact ok_build h ho hc.1.1 hc.1.2 hc.2 hs
    · cases hc
  | mkslice zero esz len' qs =>
    simp only [chkOp] at hc
    split at hc
    · rename_i t len ps ho
      split at hc
      · rename_i e he
        simp only [Bool.and_eq_true, beq_iff_eq, decide_eq_true_eq] at hc
        obtain ⟨⟨⟨⟨⟨rfl, c1⟩, c2⟩, c3⟩, c4⟩, c5⟩ := hc
        exact ok_mkslice h ho (sliceOf_ok he) c1 (szOk_ok c2) c3 c4 c5 hs
      · cases hc
    · cases hc
  | load agg n y p =>
    simp only [chkOp] at hc
    split at hc
    · rename_i t x ho
      simp only [Bool.and_eq_true] at hc
      exact ok_load h ho hc.1 hc.2 hs
    · cases hc
  | store n x' y' =>
    simp only [chkOp] at hc
    split at hc
    · rename_i t x y ho
      simp only [Bool.and_eq_true] at hc
      exact (ok_store h ho (szOk_ok hc.1.1) hc.1.2 hc.2 hs).1
    · cases hc
  | nilCheck y =>
    simp only [chkOp] at hc
    split at hc
    · rename_i x ho; exact ok_nilCheck h ho hc hs
    · cases hc
  | bin bo x' y' =>
    simp only [chkOp] at hc
    split at hc
    · rename_i bo' t x y t2 ho
      simp only [Bool.and_eq_true, decide_eq_true_eq] at hc
      obtain ⟨⟨rfl, c1⟩, c2⟩ := hc
      exact ok_bin h ho c1 c2 hs
    · cases hc
  | un uo x' =>
    simp only [chkOp] at hc
    split at hc
    · rename_i uo' t x ho
      simp only [Bool.and_eq_true, decide_eq_true_eq] at hc
      obtain ⟨rfl, c1⟩ := hc
      exact ok_un h ho c1 hs
    · cases hc
  | eqAgg neq ks x' y' =>
    simp only [chkOp] at hc
    split at hc
    · rename_i bo t x y t2 ho
      simp only [Bool.and_eq_true, decide_eq_true_eq, Bool.not_eq_true'] at hc
      obtain ⟨⟨⟨⟨⟨rfl, c1⟩, c2⟩, c3⟩, c4⟩, c5⟩ := hc
      exact ok_eqAgg h ho c1 (by omega) c2 c3 c4 c5 hs
    · cases hc
  | isNil kind neq x' =>
    simp only [chkOp] at hc
    split at hc
    · rename_i bo t x c t2 ho
      split at hc
      · rename_i d hd
        simp only [Bool.and_eq_true, decide_eq_true_eq] at hc
        obtain ⟨⟨rfl, c1⟩, c2⟩ := hc
        unfold chkNil at c1
        split at c1
        · exact ok_isNil h ho hd (.inl ⟨rfl, _, rfl⟩) rfl rfl c2 hs
        · exact ok_isNil h ho hd (.inr (.inl ⟨rfl, _, rfl⟩)) rfl rfl c2 hs
        · exact ok_isNil h ho hd (.inr (.inr (.inl ⟨rfl, _, _, rfl⟩))) rfl rfl c2 hs
        · exact ok_isNil h ho hd (.inr (.inr (.inr (.inl ⟨rfl, _, _, _, rfl⟩)))) rfl rfl c2 hs
        · exact ok_isNil h ho hd (.inr (.inr (.inr (.inr ⟨rfl, _, rfl⟩)))) rfl rfl c2 hs
        · cases c1
      · cases hc
    · cases hc
  | eqBool neq x' y' =>
    simp only [chkOp] at hc
    split at hc
    · rename_i bo t x y t2 ho
      simp only [Bool.and_eq_true, decide_eq_true_eq] at hc
      obtain ⟨⟨⟨rfl, c1⟩, c2⟩, c3⟩ := hc
      exact ok_eqBool h ho (isBool_ok c1) c2 c3 hs
    · cases hc
  | cvInt k x' =>
    simp only [chkOp] at hc
    split at hc
    · rename_i s d x ho
      simp only [Bool.and_eq_true] at hc
      exact ok_cvInt h ho hc.1.1 (isKind_ok hc.1.2) hc.2 hs
    · cases hc
  | cvId x' =>
    simp only [chkOp] at hc
    split at hc
    · rename_i s d x ho
      simp only [Bool.and_eq_true] at hc
      exact ok_cvId h ho (isStr_ok hc.1.1) (isStr_ok hc.1.2) hc.2 hs
    · cases hc
  | cvStr x' =>
    simp only [chkOp] at hc
    split at hc
    · rename_i s d x ho
      split at hc
      · rename_i e he
        simp only [Bool.and_eq_true] at hc
        exact ok_cvStr h ho (sliceOf_ok he) (isByte_ok hc.1.1) (isStr_ok hc.1.2) hc.2 hs
      · cases hc
    · cases hc
  | cvBytes x' =>
    simp only [chkOp] at hc
    split at hc
    · rename_i s d x ho
      split at hc
      · rename_i e he
        simp only [Bool.and_eq_true] at hc
        exact ok_cvBytes h ho (isStr_ok hc.1.2) (sliceOf_ok he) (isByte_ok hc.1.1) hc.2 hs
      · cases hc
    · cases hc
  | mkIface t' x' =>
    simp only [chkOp] at hc
    split at hc
    · rename_i t x ho
      simp only [Bool.and_eq_true, beq_iff_eq] at hc
      obtain ⟨⟨rfl, c1⟩, c2⟩ := hc
      exact ok_mkIface h ho c1 c2 hs
    · cases hc
  | mkFunc f' ys =>
    simp only [chkOp] at hc
    split at hc
    · rename_i f first caps ho
      simp only [Bool.and_eq_true, beq_iff_eq] at hc
      obtain ⟨⟨c1, rfl⟩, c2⟩ := hc
      have : first = #[] := by simpa using c1
      subst this
      exact ok_mkFunc h ho c2 hs
    · cases hc
  | mkMap =>
    simp only [chkOp] at hc
    split at hc
    · rename_i t ho; exact ok_mkMap h ho hs
    · cases hc
  | mkMapR y =>
    simp only [chkOp] at hc
    split at hc
    · rename_i t x ho
      simp only [Bool.and_eq_true] at hc
      obtain ⟨p, hp⟩ := Option.isSome_iff_exists.1 hc.1
      exact ok_mkMapR h ho ⟨p.1, p.2, mapOf_ok hp⟩ hc.2 hs
    · cases hc
  | makeSlice zero e' esz bytes l' c' m =>
    simp only [chkOp] at hc
    split at hc
    · rename_i t l c ho
      split at hc
      · rename_i e he
        simp only [Bool.and_eq_true, beq_iff_eq] at hc
        obtain ⟨⟨⟨⟨rfl, c1⟩, c2⟩, c3⟩, c4⟩ := hc
        obtain ⟨i, z, q1, q2, q3, q4, q5, q6, q7⟩ := elemOk_ok c1
        exact ok_makeSlice h ho (sliceOf_ok he) q1 q4 q5 c2 q6 q7 c3 c4 hs
      · cases hc
    · cases hc
  | sliceStr x' lo' hi' =>
    simp only [chkOp] at hc
    split at hc
    · rename_i t x lo hi ho
      simp only [Bool.and_eq_true] at hc
      exact ok_sliceStr h ho (isStr_ok hc.1.1.1) hc.1.1.2 hc.1.2 hc.2 hs
    · cases hc
  | sliceVs esz x' lo' hi' mx' =>
    simp only [chkOp] at hc
    split at hc
    · rename_i t x lo hi mx ho
      split at hc
      · rename_i e he
        simp only [Bool.and_eq_true] at hc
        obtain ⟨⟨⟨⟨⟨c1, c2⟩, c3⟩, c4⟩, c5⟩, c6⟩ := hc
        exact ok_sliceVs h ho (sliceOf_ok he) (szOk_ok c1) c3 (fun hm => by cases mx' <;> simp_all) c4 c5 c6 hs
      · cases hc
    · cases hc
  | fieldAddr off n agg x' =>
    simp only [chkOp] at hc
    split at hc
    · rename_i s x f ho
      simp only [Bool.and_eq_true] at hc
      obtain ⟨fs, fl, q1, q2, q3, q4, q5⟩ := chkFld_ok hc.1
      exact ok_fieldAddr h ho q1 q2 q3 q4 q5 hc.2 hs
    · cases hc
  | field off n agg x' =>
    simp only [chkOp] at hc
    split at hc
    · rename_i s x f ho
      simp only [Bool.and_eq_true] at hc
      obtain ⟨fs, fl, q1, q2, q3, q4, q5⟩ := chkFld_ok hc.1
      exact ok_field h ho q1 q2 q3 q4 hc.2 hs
    · cases hc
  | idxAddrArr len esz agg x' i' =>
    simp only [chkOp] at hc
    split at hc
    · rename_i t x i ho
      split at hc
      · rename_i n e he
        simp only [Bool.and_eq_true, beq_iff_eq] at hc
        obtain ⟨⟨⟨rfl, c1⟩, c2⟩, c3⟩ := hc
        exact ok_idxAddrArr h ho (arrayOf_ok he) c1 c2 c3 hs
      · cases hc
    · cases hc
  | idxAddrVs esz x' i' =>
    simp only [chkOp] at hc
    split at hc
    · rename_i t x i ho
      split at hc
      · rename_i e he
        simp only [Bool.and_eq_true] at hc
        exact ok_idxAddrVs h ho (sliceOf_ok he) (szOk_ok hc.1.1) hc.1.2 hc.2 hs
      · cases hc
    · cases hc
  | idxArr len esz agg x' i' =>
    simp only [chkOp] at hc
    split at hc
    · rename_i t x i ho
      split at hc
      · rename_i n e he
        simp only [Bool.and_eq_true, beq_iff_eq] at hc
        obtain ⟨⟨⟨rfl, c1⟩, c2⟩, c3⟩ := hc
        exact ok_idxArr h ho (arrayOf_ok he) c1 c2 c3 hs
      · cases hc
    · cases hc
  | idxStr x' i' =>
    simp only [chkOp] at hc
    split at hc
    · rename_i t x i ho
      simp only [Bool.and_eq_true] at hc
      exact ok_idxStr h ho (isStr_ok hc.1.1) hc.1.2 hc.2 hs
    · cases hc
  | lookup kd zero x' i' ok' =>
    simp only [chkOp] at hc
    split at hc
    · rename_i t x i ok ho
      split at hc
      · rename_i k e he
        simp only [Bool.and_eq_true, beq_iff_eq] at hc
        obtain ⟨⟨⟨⟨rfl, c1⟩, c2⟩, c3⟩, c4⟩ := hc
        exact ok_lookup h ho (mapOf_ok he) (isKeyT_ok c1) c2 c3 c4 hs
      · cases hc
    · cases hc
  | mapUpdate kd m' k' v' =>
    simp only [chkOp] at hc
    split at hc
    · rename_i t m k x ho
      split at hc
      · rename_i kt et he
        simp only [Bool.and_eq_true] at hc
        exact ok_mapUpdate h (.inl ho) (mapOf_ok he) (isKeyT_ok hc.1.1.1) hc.1.1.2 hc.1.2 hc.2 hs
      · cases hc
    · rename_i t m k x ho
      split at hc
      · rename_i kt et he
        simp only [Bool.and_eq_true] at hc
        exact ok_mapUpdate h (.inr ho) (mapOf_ok he) (isKeyT_ok hc.1.1.1) hc.1.1.2 hc.1.2 hc.2 hs
      · cases hc
    · cases hc
  | tassert t' zero x' ok' =>
    simp only [chkOp] at hc
    split at hc
    · rename_i x xt t ok ho
      simp only [Bool.and_eq_true, beq_iff_eq] at hc
      obtain ⟨⟨⟨⟨rfl, rfl⟩, c1⟩, c2⟩, c3⟩ := hc
      obtain ⟨d, q1, q2⟩ := notIface_ok c1
      exact ok_tassert h ho q1 q2 c2 c3 hs
    · cases hc
  | tassertI t' x' =>
    simp only [chkOp] at hc
    split at hc
    · rename_i x xt t ok ho
      simp only [Bool.and_eq_true, beq_iff_eq, Bool.not_eq_true'] at hc
      obtain ⟨⟨rfl, rfl⟩, c3⟩ := hc
      exact ok_tassertI h himpl ho c3 hs
    · cases hc
  | extract x' i' =>
    simp only [chkOp] at hc
    split at hc
    · rename_i x i ho
      simp only [Bool.and_eq_true, beq_iff_eq] at hc
      obtain ⟨rfl, c1⟩ := hc
      exact ok_extract h ho c1 hs
    · cases hc
  | call f' ys =>
    simp only [chkOp] at hc
    split at hc
    · rename_i f args at_ ho
      simp only [Bool.and_eq_true, beq_iff_eq] at hc
      obtain ⟨rfl, c1⟩ := hc
      exact ok_call h hC ho c1 hs
    · cases hc
  | callp f' ys =>
    simp only [chkOp] at hc
    split at hc
    · rename_i f args at_ ho
      simp only [Bool.and_eq_true, beq_iff_eq] at hc
      obtain ⟨rfl, c1⟩ := hc
      exact ok_callp h hC ho c1 hs
    · cases hc
  | callv x' ys =>
    simp only [chkOp] at hc
    split at hc
    · rename_i x args at_ ho
      simp only [Bool.and_eq_true] at hc
      exact ok_callv h hC ho hc.1 hc.2 hs
    · cases hc
  | len k x' =>
    simp only [chkOp] at hc
    split at hc
    · rename_i x at_ ho
      split at hc
      · rename_i t ht
        split at hc
        · rename_i d hd
          simp only [Bool.and_eq_true] at hc
          exact ok_len h ho ht hd hc.1 hc.2 hs
        · cases hc
      · cases hc
    · cases hc
  | append e' esz bytes x' y' =>
    simp only [chkOp] at hc
    split at hc
    · rename_i x y t u ho
      split at hc
      · rename_i e he
        simp only [Bool.and_eq_true, beq_iff_eq, Bool.or_eq_true] at hc
        obtain ⟨⟨⟨⟨rfl, c1⟩, c2⟩, c3⟩, c4⟩ := hc
        obtain ⟨i, z, q1, q2, q3, q4, q5, q6, q7⟩ := elemOk_ok c2
        have hu : (∃ e', P.underlying u = some (.slice e')) ∨ P.underlying u = some .string := by
          rcases c1 with c1 | c1
          · obtain ⟨e', he'⟩ := Option.isSome_iff_exists.1 c1
            exact .inl ⟨e', sliceOf_ok he'⟩
          · exact .inr (isStr_ok c1)
        exact ok_append h ho (sliceOf_ok he) hu q1 q2 q3 q4 q5 q6 q7 c3 c4 hs
      · cases hc
    · cases hc
  | minmax mx x' ys =>
    simp only [chkOp] at hc
    split at hc
    · rename_i b x xs at_ ho
      simp only [Bool.and_eq_true, decide_eq_true_eq] at hc
      obtain ⟨⟨rfl, c1⟩, c2⟩ := hc
      exact ok_minmax h ho rfl c1 c2 hs
    · cases hc
  | s2ap n x' =>
    simp only [chkOp] at hc
    split at hc
    · rename_i t x ho
      split at hc
      · rename_i m e he
        simp only [Bool.and_eq_true, beq_iff_eq] at hc
        obtain ⟨⟨rfl, c1⟩, c2⟩ := hc
        exact ok_s2ap h ho (arrayOf_ok he) (szOk_ok c1) c2 hs
      · cases hc
    · cases hc
  | fail => simp [sem] at hs
  | _ => simp [chkOp] at hc
end
end Go.L
/- L26: regions in their text's order. -/
set_option linter.unusedVariables false
set_option linter.unusedSimpArgs false
set_option linter.unusedSectionVars false
namespace Go.L
open Go

variable {P : Program} {vm : List Nat} {lm : List (Option Nat)} {ρ ρ' : List Nat} {S S' : Nat → Nat → Prop} {G G' : Nat → Cl} {σ σ' : RS} {a : Act} {w w' : World}
variable {C : CallL} {im : TypeId → String → Option FuncId} {impl : TypeId → TypeId → Bool}

/-- What is put behind an operation. -/
def After (P : Program) (vm : List Nat) (lm : List (Option Nat)) (ρ : List Nat) (S : Nat → Nat → Prop) (G : Nat → Cl) (w : World) (σ' : RS) : Act → World → Prop := fun a' w' =>
  ∃ ρ' S' G', Rel P vm lm ρ' S' G' σ' a' w' ∧ Pr w S G ρ w' S' G' ρ'

def Impl (P : Program) (impl : TypeId → TypeId → Bool) : Prop := ∀ t t', impl t t' = true → ∃ want i, P.underlying t = some (.interface want) ∧ P.info? t' = some i ∧ Instr.missingMethod want i.methods = none

/-- A guard, as the interpreter reads it. -/
def chkGuard (vm : List Nat) (lm : List (Option Nat)) (ops : Array Oper) (g : Option (Nat × Bool)) (g' : Option (Opd × Bool)) : Bool :=
  match g, g' with
  | none, none => true
  | some (j, want), some (x, want') => want == want' && (match (ops[j]?).bind (·.dst) with
    | some t => chkOpd vm lm (.tmp t) x
    | none => false)
  | _, _ => false

def chkOper (P : Program) (vm : List Nat) (lm : List (Option Nat)) (ops : Array Oper) (o : Oper) (lo : LOper) : Bool :=
  chkDst vm lm o.dst lo && chkOp P vm lm o.op lo.op && chkGuard vm lm ops o.guard lo.guard

theorem At.skip {b : Base} {pk : Loc → Nat → List LVal → Value → Prop} : At P w S G ρ pk b (.tup []) undef := ⟨[], rfl, rfl, fun c u hu => by simp at hu⟩

theorem After.put (h : Rel P vm lm ρ S G σ a w) (wf : WfMap vm lm) {lo : LOper} {dst : Option Tmp} (hd : chkDst vm lm dst lo = true) {v : LVal} {cv : Value} (hv : At P w S G ρ (PkOk vm ρ σ a w) .pend v cv) :
    After P vm lm ρ S G w (σ.put lo v) (a.put dst cv) w := by
  obtain ⟨G', k1, k2⟩ := h.put wf hv hd
  exact ⟨ρ, S, G', k1, k2⟩

/-- The operation itself, and what is put. -/
theorem gives_put (wf : WfMap vm lm) {o : Oper} {lo : LOper} (hd : chkDst vm lm o.dst lo = true) {v : LVal} (hg : Gives P o a w (Post P vm lm ρ S G w a σ' v)) {K : Act → World → Prop} {Q : Exit → Act → World → Prop}
    (hk : ∀ a' w', After P vm lm ρ S G w (σ'.put lo v) a' w' → K a' w') : o.wp P a w K Q := by
  refine hg K Q fun cv w' ⟨ρ', S', G', k1, k2, k3⟩ => hk _ _ ?_
  obtain ⟨G2, m1, m2⟩ := k1.put wf k2 hd
  exact ⟨ρ', S', G2, m1, k3.trans m2⟩

section
variable (h : Rel P vm lm ρ S G σ a w)
include h

/-- Whether the model wants the operation done. -/
theorem guard_ok {ops : Array Oper} {o : Oper} {g : Opd} {want : Bool} (hc : chkGuard vm lm ops o.guard (some (g, want)) = true) {gv : LVal} (hg : σ.peek g = some gv) :
    (gv = .bool want → Region.wanted o (yielded ops a.tmps) = true) ∧ (∀ b, gv = .bool b → b ≠ want → Region.wanted o (yielded ops a.tmps) = false) ∧ (∀ l, gv = .tup l → Region.wanted o (yielded ops a.tmps) = false) := by
  unfold chkGuard at hc
  cases hog : o.guard with
  | none => rw [hog] at hc; simp at hc
  | some jw =>
    obtain ⟨j, want'⟩ := jw
    rw [hog] at hc
    simp only [Bool.and_eq_true, beq_iff_eq] at hc
    obtain ⟨rfl, hc⟩ := hc
    cases hd : (ops[j]?).bind (·.dst) with
    | none => rw [hd] at hc; simp at hc
    | some t =>
      rw [hd] at hc
      dsimp only at hc
      have hy : yielded ops a.tmps j = match a.tmps[t]? with
          | some (.bool b) => some b
          | _ => none := by
        unfold yielded
        rw [hd]; rfl
      have hev : a.eval (.tmp t) = a.tmps.getD t undef := rfl
      have hget : ∀ b, a.tmps.getD t undef = .bool b → a.tmps[t]? = some (.bool b) := by
        intro b hb
        rw [Array.getD_eq_getD_getElem?] at hb
        cases ht : a.tmps[t]? with
        | none => rw [ht] at hb; simp [undef] at hb
        | some u => rw [ht] at hb; simp at hb; rw [hb]
      have hbool : ∀ b, gv = .bool b → yielded ops a.tmps j = some b := by
        rintro b rfl
        have := (h.peek_V hc hg rfl).bool_inv
        rw [hy, hget b this]
      refine ⟨fun e => ?_, fun b e hne => ?_, fun l e => ?_⟩
      · unfold Region.wanted; rw [hog]; simp [hbool _ e]
      · unfold Region.wanted; rw [hog]; simp [hbool _ e, hne]
      · subst e
        have htup : ∃ cs, a.tmps.getD t undef = .tuple cs := by
          cases g with
          | const c => simp [chkOpd] at hc
          | loc i =>
            simp [chkOpd] at hc
            rcases h.rs i _ hg with h0 | ⟨t', q1, q2, q3⟩
            · cases h0
            · rw [hc] at q1; injection q1 with q1; injection q1 with q1; subst q1
              obtain ⟨cs, e, _⟩ := q3
              exact ⟨_, e⟩
          | var k =>
            simp [chkOpd] at hc
            obtain ⟨t', q1, q2, q3⟩ := h.vars k _ hg
            rw [hc] at q1; injection q1 with q1; subst q1
            obtain ⟨cs, e, _⟩ := q3
            exact ⟨_, e⟩
        obtain ⟨cs, htup⟩ := htup
        have hyn : yielded ops a.tmps j = none := by
          rw [hy]
          rw [Array.getD_eq_getD_getElem?] at htup
          cases ht : a.tmps[t]? with
          | none => rfl
          | some u => rw [ht] at htup; simp at htup; rw [htup]
        unfold Region.wanted; rw [hog]; simp [hyn]

/-- One step. -/
theorem step_ok (wf : WfMap vm lm) (hC : SoundC P C) (hI : Impl P impl) {ops : Array Oper} {o : Oper} {i : Nat} (hi : ops[i]? = some o) {lo : LOper} (hc : chkOper P vm lm ops o lo = true) (hs : step C im impl σ lo = some σ')
    {K : Act → World → Prop} {Q : Exit → Act → World → Prop} (hk : ∀ a' w', After P vm lm ρ S G w σ' a' w' → K a' w') : wpOp P ops Q i K a w := by
  unfold wpOp
  rw [hi]
  dsimp only
  simp only [chkOper, Bool.and_eq_true] at hc
  obtain ⟨⟨c1, c2⟩, c3⟩ := hc
  unfold step at hs
  cases hg : lo.guard with
  | none =>
    rw [hg] at hs c3
    simp only [Option.map_eq_some_iff] at hs
    obtain ⟨⟨v, σ1⟩, h1, rfl⟩ := hs
    have hw : Region.wanted o (yielded ops a.tmps) = true := by
      unfold chkGuard at c3
      cases hog : o.guard with
      | none => unfold Region.wanted; rw [hog]
      | some _ => rw [hog] at c3; simp at c3
    rw [if_pos hw]
    exact .inl (gives_put wf c1 (op_ok h hC hI c2 h1) hk)
  | some gw =>
    obtain ⟨g, want⟩ := gw
    rw [hg] at hs c3
    simp only [Option.bind_eq_some_iff] at hs
    obtain ⟨gv, hgv, hs⟩ := hs
    obtain ⟨g1, g2, g3⟩ := guard_ok h c3 hgv
    cases gv with
    | bool b =>
      dsimp only at hs
      split at hs
      · rename_i hb
        subst hb
        simp only [Option.map_eq_some_iff] at hs
        obtain ⟨⟨v, σ1⟩, h1, rfl⟩ := hs
        rw [if_pos (g1 rfl)]
        exact .inl (gives_put wf c1 (op_ok h hC hI c2 h1) hk)
      · rename_i hb
        injection hs with hs; subst hs
        rw [if_neg (by rw [g2 b rfl hb]; simp)]
        exact hk _ _ (After.put h wf c1 At.skip)
    | tup l =>
      injection hs with hs; subst hs
      rw [if_neg (by rw [g3 l rfl]; simp)]
      exact hk _ _ (After.put h wf c1 At.skip)
    | _ => simp at hs
end

/-- The places of a region's own operations. -/
def lmOf (ops : List Oper) (los : List LOper) : List (Option Nat) := (ops.zip los).map fun p => if p.2.dst.isNone then p.1.dst else none

def chkOpers (P : Program) (vm : List Nat) (lm : List (Option Nat)) (ops : Array Oper) : Nat → List LOper → Bool
  | _, [] => true
  | i, lo :: r => lo.ix == i && (match ops[i]? with | some o => chkOper P vm lm ops o lo | none => false) && chkOpers P vm lm ops (i + 1) r

theorem ops_ok (wf : WfMap vm lm) (hC : SoundC P C) (hI : Impl P impl) {ops : Array Oper} {Q : Exit → Act → World → Prop} : ∀ {los : List LOper} {i : Nat} {ρ S G σ a w σ'} (_ : Rel P vm lm ρ S G σ a w) (_ : chkOpers P vm lm ops i los = true)
    (_ : runOps C im impl los σ = some σ') (_ : ∀ a' w', After P vm lm ρ S G w σ' a' w' → Q .normal a' w'), wpOps P ops Q (List.range' i los.length) a w
  | [], i, ρ, S, G, σ, a, w, σ', h, _, hr, hk => by
    simp only [runOps, Option.some.injEq] at hr
    subst hr
    exact hk _ _ ⟨ρ, S, G, h, Pr.refl ..⟩
  | lo :: r, i, ρ, S, G, σ, a, w, σ', h, hc, hr, hk => by
    simp only [chkOpers, Bool.and_eq_true] at hc
    obtain ⟨⟨_, hc1⟩, hc2⟩ := hc
    simp only [runOps, Option.bind_eq_some_iff] at hr
    obtain ⟨σ1, h1, h2⟩ := hr
    cases hi : ops[i]? with
    | none => simp [hi] at hc1
    | some o =>
      rw [hi] at hc1
      rw [List.length_cons, List.range'_succ, wpOps_cons]
      refine step_ok h wf hC hI hi hc1 h1 fun a' w' ⟨ρ', S', G', k1, k2⟩ => ?_
      exact ops_ok wf hC hI k1 hc2 h2 fun a2 w2 ⟨ρ2, S2, G2, m1, m2⟩ => hk a2 w2 ⟨ρ2, S2, G2, m1, k2.trans m2⟩
end Go.L
/- L27: a step of a drawn region. -/
set_option linter.unusedVariables false
set_option linter.unusedSimpArgs false
set_option linter.unusedSectionVars false
namespace Go.L
open Go

variable {P : Program} {vm : List Nat} {lm : List (Option Nat)} {ρ ρ' : List Nat} {S S' : Nat → Nat → Prop} {G G' : Nat → Cl} {σ σ' : RS} {a : Act} {w w' : World}
variable {C : CallL} {im : TypeId → String → Option FuncId} {impl : TypeId → TypeId → Bool}

theorem stay_of_not_own {v : LVal} (h : v.isOwn = false) : v.stay = v := by
  cases v with
  | vs b o n xs => cases o <;> simp_all [LVal.isOwn, LVal.stay]
  | _ => rfl

/-- The store alone, changed by nothing but ghosts. -/
def Ghost (P : Program) (vm : List Nat) (lm : List (Option Nat)) (ρ : List Nat) (S : Nat → Nat → Prop) (G : Nat → Cl) (a : Act) (w : World) (σ' : RS) : Prop :=
  ∃ S' G', Rel P vm lm ρ S' G' σ' a w ∧ Pr w S G ρ w S' G' ρ

theorem Ghost.trans (h : ∃ S' G', Rel P vm lm ρ S' G' σ a w ∧ Pr w S G ρ w S' G' ρ) {σ' : RS} (k : ∀ S' G', Rel P vm lm ρ S' G' σ a w → Ghost P vm lm ρ S' G' a w σ') : Ghost P vm lm ρ S G a w σ' := by
  obtain ⟨S1, G1, h1, p1⟩ := h
  obtain ⟨S2, G2, h2, p2⟩ := k S1 G1 h1
  exact ⟨S2, G2, h2, p1.trans p2⟩

theorem Rel.stayVar (h : Rel P vm lm ρ S G σ a w) {k : Nat} {v : LVal} (hv : σ.vars[k]? = some v) : Ghost P vm lm ρ S G a w { σ with vars := σ.vars.set k v.stay } := by
  by_cases ho : v.isOwn = true
  · obtain ⟨t, h1, h2, h3⟩ := h.vars k v hv
    have ht : σ.take (.var k) = some (v.down, { σ with vars := σ.vars.set k v.stay }) := by
      simp only [RS.take, hv, Option.bind_some]
      cases v with
      | vs b o n xs => cases o <;> simp_all [LVal.isOwn, LVal.copy]
      | _ => simp [LVal.isOwn] at ho
    obtain ⟨S', G', k1, _, _, k4⟩ := h.take (x := .tmp t) (y := .var k) (by simp [chkOpd, h1]) ht
    exact ⟨S', G', k1, k4⟩
  · rw [stay_of_not_own (by simpa using ho)]
    have : σ.vars.set k v = σ.vars := by
      apply List.ext_getElem?
      intro j
      rw [List.getElem?_set]
      split
      · rename_i e; subst e
        obtain ⟨q1, q2⟩ := List.getElem?_eq_some_iff.1 hv
        simp [q1, q2]
      · rfl
    rw [this]
    exact ⟨S, G, h, Pr.refl ..⟩

theorem Rel.stayRs (h : Rel P vm lm ρ S G σ a w) {i : Nat} {v : LVal} (hv : σ.rs[i]? = some v) : Ghost P vm lm ρ S G a w { σ with rs := σ.rs.set i v.stay } := by
  by_cases ho : v.isOwn = true
  · rcases h.rs i v hv with h0 | ⟨t, h1, h2, h3⟩
    · subst h0; simp [LVal.isOwn] at ho
    · have ht : σ.take (.loc i) = some (v.down, { σ with rs := σ.rs.set i v.stay }) := by
        simp only [RS.take, hv, Option.bind_some]
        cases v with
        | vs b o n xs => cases o <;> simp_all [LVal.isOwn, LVal.copy]
        | _ => simp [LVal.isOwn] at ho
      obtain ⟨S', G', k1, _, _, k4⟩ := h.take (x := .tmp t) (y := .loc i) (by simp [chkOpd, h1]) ht
      exact ⟨S', G', k1, k4⟩
  · rw [stay_of_not_own (by simpa using ho)]
    have : σ.rs.set i v = σ.rs := by
      apply List.ext_getElem?
      intro j
      rw [List.getElem?_set]
      split
      · rename_i e; subst e
        obtain ⟨q1, q2⟩ := List.getElem?_eq_some_iff.1 hv
        simp [q1, q2]
      · rfl
    rw [this]
    exact ⟨S, G, h, Pr.refl ..⟩

theorem map_step {α : Type} (f : α → α) (l : List α) {n : Nat} {x : α} (hx : l[n]? = some x) : ((l.take n).map f ++ l.drop n).set n (f x) = (l.take (n + 1)).map f ++ l.drop (n + 1) := by
  have hlt := (List.getElem?_eq_some_iff.1 hx).1
  apply List.ext_getElem?
  intro j
  rw [List.getElem?_set]
  simp only [List.length_append, List.length_map, List.length_take, List.length_drop]
  rw [List.getElem?_append, List.getElem?_append]
  simp only [List.length_map, List.length_take, List.getElem?_map, List.getElem?_take, List.getElem?_drop]
  by_cases hj : n = j
  · subst hj
    rw [if_pos rfl, if_pos (by omega), if_pos (by omega), if_pos (by omega), hx]; rfl
  · rw [if_neg hj]
    by_cases hjn : j < n
    · rw [if_pos (by omega), if_pos hjn, if_pos (by omega), if_pos (by omega)]
    · rw [if_neg (by omega), if_neg (by omega)]
      congr 1; omega

theorem Rel.settleVars (h : Rel P vm lm ρ S G σ a w) : ∀ n, n ≤ σ.vars.length → Ghost P vm lm ρ S G a w { σ with vars := (σ.vars.take n).map LVal.stay ++ σ.vars.drop n }
  | 0, _ => ⟨S, G, by simpa using h, Pr.refl ..⟩
  | n + 1, hn => Ghost.trans (Rel.settleVars h n (by omega)) fun S' G' k => by
    obtain ⟨x, hx⟩ : ∃ x, σ.vars[n]? = some x := ⟨σ.vars[n], List.getElem?_eq_getElem (by omega)⟩
    have hx' : ((σ.vars.take n).map LVal.stay ++ σ.vars.drop n)[n]? = some x := by
      rw [List.getElem?_append_right (by simp; omega)]
      simp only [List.length_map, List.length_take, List.getElem?_drop]
      rw [show n + (n - min n σ.vars.length) = n by omega]; exact hx
    have := k.stayVar hx'
    dsimp only at this
    rw [map_step LVal.stay σ.vars hx] at this
    exact this

theorem Rel.settleOne (h : Rel P vm lm ρ S G σ a w) {id : Nat} {o : LObj} (ho : σ.st[id]? = some o) : Ghost P vm lm ρ S G a w { σ with st := σ.st.set id o.settle } := by
  have same : o.settle = o → Ghost P vm lm ρ S G a w { σ with st := σ.st.set id o.settle } := by
    intro e
    rw [e]
    have : σ.st.set id o = σ.st := by
      apply List.ext_getElem?
      intro j
      rw [List.getElem?_set]
      split
      · rename_i e; subst e
        obtain ⟨q1, q2⟩ := List.getElem?_eq_some_iff.1 ho
        simp [q1, q2]
      · rfl
    rw [this]
    exact ⟨S, G, h, Pr.refl ..⟩
  cases o with
  | dead => exact same rfl
  | map es => exact same rfl
  | cells t c =>
    obtain ⟨S', G', k1, k2, _⟩ := h.downObj ho
    exact ⟨S', G', k1, k2⟩

theorem Rel.settleSt (h : Rel P vm lm ρ S G σ a w) : ∀ n, n ≤ σ.st.length → Ghost P vm lm ρ S G a w { σ with st := (σ.st.take n).map LObj.settle ++ σ.st.drop n }
  | 0, _ => ⟨S, G, by simpa using h, Pr.refl ..⟩
  | n + 1, hn => Ghost.trans (Rel.settleSt h n (by omega)) fun S' G' k => by
    obtain ⟨x, hx⟩ : ∃ x, σ.st[n]? = some x := ⟨σ.st[n], List.getElem?_eq_getElem (by omega)⟩
    have hx' : ((σ.st.take n).map LObj.settle ++ σ.st.drop n)[n]? = some x := by
      rw [List.getElem?_append_right (by simp; omega)]
      simp only [List.length_map, List.length_take, List.getElem?_drop]
      rw [show n + (n - min n σ.st.length) = n by omega]; exact hx
    have := k.settleOne hx'
    dsimp only at this
    rw [map_step LObj.settle σ.st hx] at this
    exact this

/-- Ahead of a drawn region nobody's slices are his alone. -/
theorem Rel.settle (h : Rel P vm lm ρ S G σ a w) : Ghost P vm lm ρ S G a w σ.settle := by
  have h1 := h.settleVars σ.vars.length (Nat.le_refl _)
  rw [List.take_length, List.drop_length, List.append_nil] at h1
  refine Ghost.trans h1 fun S' G' k => ?_
  have h2 := k.settleSt σ.st.length (Nat.le_refl _)
  dsimp only at h2
  rw [List.take_length, List.drop_length, List.append_nil] at h2
  exact h2

/-- What a drawn region puts. -/
theorem After.fix (h : Rel P vm lm ρ S G σ a w) (wf : WfMap vm lm) {lo : LOper} {dst : Option Tmp} (hd : chkDst vm lm dst lo = true) {v : LVal} {cv : Value} (hv : At P w S G ρ (PkOk vm ρ σ a w) .pend v cv) :
    After P vm lm ρ S G w (σ.put lo (lo.fix v)) (a.put dst cv) w := by
  unfold LOper.fix
  split
  · exact After.put h wf hd hv
  · cases v with
    | vs b o n xs =>
      cases o with
      | own e x =>
        obtain ⟨ρ1, S1, G1, k1, p1⟩ := After.put h wf hd hv
        have hfin : ∀ σ2 : RS, Ghost P vm lm ρ1 S1 G1 (a.put dst cv) w σ2 → After P vm lm ρ S G w σ2 (a.put dst cv) w := fun σ2 ⟨S2, G2, k2, p2⟩ => ⟨ρ1, S2, G2, k2, p1.trans p2⟩
        refine hfin _ ?_
        show Ghost P vm lm ρ1 S1 G1 (a.put dst cv) w (σ.put lo (.vs b (.own e false) n xs))
        unfold RS.put at k1 ⊢
        cases hdst : lo.dst with
        | none =>
          rw [hdst] at k1
          dsimp only at k1 ⊢
          by_cases hl : lo.ix < σ.rs.length
          · have hx : (σ.rs.set lo.ix (.vs b (.own e x) n xs))[lo.ix]? = some (.vs b (.own e x) n xs) := by simp [List.getElem?_set, hl]
            have := k1.stayRs hx
            simpa [LVal.stay] using this
          · rw [List.set_eq_of_length_le (by omega)] at k1 ⊢
            exact ⟨S1, G1, k1, Pr.refl ..⟩
        | some k =>
          rw [hdst] at k1
          dsimp only [LVal.unpk] at k1 ⊢
          by_cases hl : k < σ.vars.length
          · have hx : (σ.setVar k (.vs b (.own e x) n xs)).vars[k]? = some (.vs b (.own e x) n xs) := by
              unfold RS.setVar; split <;> simp [List.getElem?_set, hl]
            have := k1.stayVar hx
            unfold RS.setVar at this ⊢
            split <;> rename_i hc <;> simp only [hc, if_true, if_false, Bool.false_eq_true] at this <;> simpa [LVal.stay] using this
          · have e1 : ∀ u : LVal, (σ.setVar k u) = σ := by
              intro u
              unfold RS.setVar
              have : σ.vars[k]? = none := by simp; omega
              simp only [this, Option.any_none, Bool.false_eq_true, if_false]
              rw [List.set_eq_of_length_le (by omega)]
            rw [e1] at k1 ⊢
            exact ⟨S1, G1, k1, Pr.refl ..⟩
      | pk p => exact After.put h wf hd ((At.simple (v := .undef) rfl).2 .undef)
      | sh => exact After.put h wf hd hv
      | full => exact After.put h wf hd hv
    | _ => exact After.put h wf hd hv

section
variable (h : Rel P vm lm ρ S G σ a w)
include h

omit h in
theorem semD_sem {lo : LOper} {r : LVal × RS} (hs : semD C im impl σ lo = some r) : sem C im impl σ lo.op = some r := by
  unfold semD at hs
  split at hs
  · split at hs
    · exact hs
    · cases hs
  · exact hs

theorem stepD_ok (wf : WfMap vm lm) (hC : SoundC P C) (hI : Impl P impl) {ops : Array Oper} {o : Oper} {i : Nat} (hi : ops[i]? = some o) {lo : LOper} (hc : chkOper P vm lm ops o lo = true) (hs : stepD C im impl σ lo = some σ')
    {K : Act → World → Prop} {Q : Exit → Act → World → Prop} (hk : ∀ a' w', After P vm lm ρ S G w σ' a' w' → K a' w') : wpOp P ops Q i K a w := by
  unfold wpOp
  rw [hi]
  dsimp only
  simp only [chkOper, Bool.and_eq_true] at hc
  obtain ⟨⟨c1, c2⟩, c3⟩ := hc
  have hfix : ∀ {v σ1}, semD C im impl σ lo = some (v, σ1) → (∀ a' w', After P vm lm ρ S G w (σ1.put lo (lo.fix v)) a' w' → K a' w') → o.wp P a w K Q := by
    intro v σ1 h1 hk
    refine op_ok h hC hI c2 (semD_sem h1) K Q fun cv w' ⟨ρ', S', G', k1, k2, k3⟩ => hk _ _ ?_
    obtain ⟨ρ2, S2, G2, m1, m2⟩ := After.fix k1 wf c1 k2
    exact ⟨ρ2, S2, G2, m1, k3.trans m2⟩
  unfold stepD at hs
  split at hs
  · cases hs
  · cases hg : lo.guard with
    | none =>
      rw [hg] at hs c3
      simp only [Option.map_eq_some_iff] at hs
      obtain ⟨⟨v, σ1⟩, h1, rfl⟩ := hs
      have hw : Region.wanted o (yielded ops a.tmps) = true := by
        unfold chkGuard at c3
        cases hog : o.guard with
        | none => unfold Region.wanted; rw [hog]
        | some _ => rw [hog] at c3; simp at c3
      rw [if_pos hw]
      exact .inl (hfix h1 hk)
    | some gw =>
      obtain ⟨g, want⟩ := gw
      rw [hg] at hs c3
      simp only [Option.bind_eq_some_iff] at hs
      obtain ⟨gv, hgv, hs⟩ := hs
      obtain ⟨g1, g2, g3⟩ := guard_ok h c3 hgv
      cases gv with
      | bool b =>
        dsimp only at hs
        split at hs
        · rename_i hb
          subst hb
          simp only [Option.map_eq_some_iff] at hs
          obtain ⟨⟨v, σ1⟩, h1, rfl⟩ := hs
          rw [if_pos (g1 rfl)]
          exact .inl (hfix h1 hk)
        · rename_i hb
          injection hs with hs; subst hs
          rw [if_neg (by rw [g2 b rfl hb]; simp)]
          exact hk _ _ (After.put h wf c1 At.skip)
      | tup l =>
        cases l with
        | nil =>
          injection hs with hs; subst hs
          rw [if_neg (by rw [g3 _ rfl]; simp)]
          exact hk _ _ (After.put h wf c1 At.skip)
        | cons => simp at hs
      | _ => simp at hs
end
end Go.L
/- L28: drawn regions. -/
set_option linter.unusedVariables false
set_option linter.unusedSimpArgs false
set_option linter.unusedSectionVars false
namespace Go.L
open Go

variable {P : Program} {vm : List Nat} {lm : List (Option Nat)} {ρ ρ' : List Nat} {S S' : Nat → Nat → Prop} {G G' : Nat → Cl} {σ σ' : RS} {a : Act} {w w' : World}
variable {C : CallL} {im : TypeId → String → Option FuncId} {impl : TypeId → TypeId → Bool}

/-! ### What stands ahead of an operation, by the edges -/
def maskStep (acc : List Nat) (es : List Nat) : Nat := es.foldl (fun m j => m ||| (acc.getD j 0 ||| 2 ^ j)) 0
def masks : List (List Nat) → List Nat → List Nat
  | [], acc => acc
  | es :: r, acc => masks r (acc ++ [maskStep acc es])

theorem maskStep_bit {acc es : List Nat} {j : Nat} (h : (maskStep acc es).testBit j = true) : ∃ e ∈ es, e = j ∨ (acc.getD e 0).testBit j = true := by
  unfold maskStep at h
  have key : ∀ (l : List Nat) (m : Nat), (l.foldl (fun m j => m ||| (acc.getD j 0 ||| 2 ^ j)) m).testBit j = true → m.testBit j = true ∨ ∃ e ∈ l, e = j ∨ (acc.getD e 0).testBit j = true := by
    intro l
    induction l with
    | nil => intro m h; exact .inl h
    | cons x l ih =>
      intro m h
      rcases ih _ h with h1 | ⟨e, he, h1⟩
      · rw [Nat.testBit_or, Nat.testBit_or, Bool.or_eq_true, Bool.or_eq_true] at h1
        rcases h1 with h1 | h1 | h1
        · exact .inl h1
        · exact .inr ⟨x, List.mem_cons_self .., .inr h1⟩
        · rw [Nat.testBit_two_pow] at h1
          exact .inr ⟨x, List.mem_cons_self .., .inl (by simpa using h1)⟩
      · exact .inr ⟨e, List.mem_cons_of_mem _ he, h1⟩
  rcases key es 0 h with h1 | h1
  · simp at h1
  · exact h1

def MInv (full : List (List Nat)) (acc : List Nat) : Prop := ∀ (i m : Nat), acc[i]? = some m → ∀ j, m.testBit j = true → ∃ e ∈ full.getD i [], e = j ∨ (acc.getD e 0).testBit j = true

theorem masks_inv {full : List (List Nat)} : ∀ (l : List (List Nat)) (acc : List Nat), (∀ k, l[k]? = full[acc.length + k]?) → MInv full acc → MInv full (masks l acc)
  | [], acc, _, h => h
  | es :: r, acc, hl, h => by
    refine masks_inv r _ (fun k => ?_) ?_
    · have := hl (k + 1)
      simp only [List.length_append, List.length_singleton]
      simpa [Nat.add_assoc, Nat.add_comm 1 k] using this
    · intro i m hi j hj
      have hgrow : ∀ e, (acc.getD e 0).testBit j = true → ((acc ++ [maskStep acc es]).getD e 0).testBit j = true := by
        intro e he
        have hlt : e < acc.length := by
          rcases Nat.lt_or_ge e acc.length with h | h
          · exact h
          · simp [List.getD_eq_getElem?_getD, List.getElem?_eq_none h] at he
        rw [List.getD_eq_getElem?_getD, List.getElem?_append_left hlt, ← List.getD_eq_getElem?_getD]
        exact he
      rw [List.getElem?_append] at hi
      split at hi
      · obtain ⟨e, he, h1⟩ := h i m hi j hj
        exact ⟨e, he, h1.imp id (hgrow e)⟩
      · rename_i hge
        have hi0 : i = acc.length := by
          have := (List.getElem?_eq_some_iff.1 hi).1
          simp at this; omega
        subst hi0
        simp at hi
        subst hi
        obtain ⟨e, he, h1⟩ := maskStep_bit hj
        have h0 := hl 0
        simp at h0
        refine ⟨e, ?_, h1.imp id (hgrow e)⟩
        rw [List.getD_eq_getElem?_getD, ← h0]
        exact he

/-- What an edge stands behind, in every mode. -/
def edgesOf (o : Oper) : List Nat := (o.after.toList.filter (Region.binds .any)).map (·.on)
def fullEdges (ops : Array Oper) : List (List Nat) := ops.toList.map edgesOf

theorem binds_any {md : Region.Mode} {e : Edge} (h : Region.binds .any e = true) : Region.binds md e = true := by
  unfold Region.binds at h ⊢
  cases hg : e.ground <;> rw [hg] at h <;> first | rfl | (dsimp only at h; exact absurd h (by decide))

/-- All pairs may change places, or are bound by edges. -/
def chkPairs (ms : List Nat) (los : List LOper) : Bool :=
  los.all fun oi => los.all fun oj => !decide (oi.ix < oj.ix) || (ms.getD oj.ix 0).testBit oi.ix || indep oi oj

def LOp.isCall : LOp → Bool
  | .call .. | .callv .. | .invoke .. => true
  | _ => false

theorem call_keepU {s s' : RS} {op : LOp} {u : LVal} (ha : op.isCall = true) (h : sem C im impl s op = some (u, s')) : KeepU s s' := by
  cases op with
  | call f args =>
    simp only [sem, Option.bind_eq_some_iff] at h
    obtain ⟨r, h1, h2⟩ := h
    exact (keepU_takes (us := r.1) (s' := r.2) h1).trans (keepU_callOut h2)
  | callv x args =>
    simp only [sem, Option.bind_eq_some_iff] at h
    obtain ⟨v, _, h⟩ := h
    cases v with
    | func f caps =>
      simp only [Option.bind_eq_some_iff] at h
      obtain ⟨r, h1, h2⟩ := h
      exact (keepU_takes (us := r.1) (s' := r.2) h1).trans (keepU_callOut h2)
    | _ => simp at h
  | invoke x name args =>
    simp only [sem, Option.bind_eq_some_iff] at h
    obtain ⟨v, _, h⟩ := h
    cases v with
    | iface t v =>
      simp only [Option.bind_eq_some_iff] at h
      obtain ⟨f, _, r, h1, h2⟩ := h
      exact (keepU_takes (us := r.1) (s' := r.2) h1).trans (keepU_callOut h2)
    | _ => simp at h
  | _ => simp [LOp.isCall] at ha

theorem stepD_keepU3 {s s1 : RS} {o : LOper} (hqa : o.op.quiet = true ∨ o.op.acts = true ∨ o.op.isCall = true) (h : stepD C im impl s o = some s1) {j : Nat} (hj : o.ix ≠ j) (hu : s.rs[j]? = some .undef) : s1.rs[j]? = some .undef := by
  rcases hqa with hq | ha | hcl
  · exact stepD_keepU (.inl hq) h hj hu
  · exact stepD_keepU (.inr ha) h hj hu
  · have hq : o.op.quiet = false := by cases hop : o.op <;> rw [hop] at hcl <;> first | rfl | simp [LOp.isCall] at hcl
    have hsem : ∀ {u s'}, semD C im impl s o = some (u, s') → (s'.put o (o.fix u)).rs[j]? = some .undef := fun h => put_keepU hj (call_keepU hcl (semD_sem h) j hu)
    unfold stepD at h
    simp only [hq, Bool.false_and, Bool.false_eq_true, if_false] at h
    cases hg : o.guard with
    | none =>
      simp only [hg, Option.map_eq_some_iff] at h
      obtain ⟨⟨u, s'⟩, h1, rfl⟩ := h
      exact hsem h1
    | some gw =>
      obtain ⟨g, want⟩ := gw
      simp only [hg, Option.bind_eq_some_iff] at h
      obtain ⟨gv, hgv, h⟩ := h
      cases gv with
      | bool b =>
        dsimp only at h
        split at h
        · simp only [Option.map_eq_some_iff] at h
          obtain ⟨⟨u, s'⟩, h1, rfl⟩ := h
          exact hsem h1
        · injection h with h; subst h; exact put_keepU hj hu
      | tup l =>
        cases l with
        | nil => injection h with h; subst h; exact put_keepU hj hu
        | cons => simp at h
      | _ => simp at h

theorem indep_qa {oi oj : LOper} (h : indep oi oj = true) : oi.op.quiet = true ∨ oi.op.acts = true := by
  unfold indep at h
  split at h
  · rename_i hq; simp only [Bool.and_eq_true] at hq; exact .inl hq.1
  · split at h
    · rename_i hq; simp only [Bool.and_eq_true] at hq; exact .inl hq.1.1
    · split at h
      · rename_i hq; simp only [Bool.and_eq_true] at hq; exact .inr hq.1.1
      · cases h

def chkDraw (ops : Array Oper) (los : List LOper) : Bool :=
  los.length == ops.size && los.all (fun o => o.op.quiet || o.op.acts || o.op.isCall) && (List.range ops.size).all (fun i => match ops[i]? with | some o => o.after.all (fun e => decide (e.on < i)) | none => false) &&
    chkPairs (masks (fullEdges ops) []) los

theorem runOpsD_front {lo : LOper} {q : List LOper} : ∀ {p : List LOper} {σ σf : RS}, (∀ x ∈ p, indep x lo = true) → (∀ x ∈ p, x.op.quiet = true ∨ x.op.acts = true) → (p ++ lo :: q).Pairwise (fun x y => x.ix < y.ix) →
    (∀ x ∈ p, σ.rs[x.ix]? = some .undef) → runOpsD C im impl (p ++ lo :: q) σ = some σf → runOpsD C im impl (lo :: (p ++ q)) σ = some σf
  | [], σ, σf, _, _, _, _, h => h
  | x :: p, σ, σf, hi, hqa, hp, hu, h => by
    simp only [List.cons_append, runOpsD, Option.bind_eq_some_iff] at h ⊢
    obtain ⟨σ1, h1, h2⟩ := h
    rw [List.cons_append, List.pairwise_cons] at hp
    have := runOpsD_front (p := p) (fun y hy => hi y (List.mem_cons_of_mem _ hy)) (fun y hy => hqa y (List.mem_cons_of_mem _ hy)) hp.2 (fun y hy => by
      have hlt := hp.1 y (List.mem_append_left _ hy)
      exact stepD_keepU (hqa x (List.mem_cons_self ..)) h1 (by omega) (hu y (List.mem_cons_of_mem _ hy))) h2
    simp only [runOpsD, Option.bind_eq_some_iff] at this
    obtain ⟨σ2, h3, h4⟩ := this
    obtain ⟨σ1', k1, k2⟩ := commute (hi x (List.mem_cons_self ..)) (fun _ => hu x (List.mem_cons_self ..)) h1 h3
    exact ⟨σ1', k1, σ2, k2, h4⟩

/-- The state of a drawn region's run. -/
structure DInv (ops : Array Oper) (los rest : List LOper) (listed : Array Bool) : Prop where
  size : listed.size = ops.size
  mem : ∀ lo ∈ rest, los[lo.ix]? = some lo ∧ listed[lo.ix]? = some false
  all : ∀ i, listed[i]? = some false → ∃ lo ∈ rest, lo.ix = i
  sorted : rest.Pairwise (fun x y => x.ix < y.ix)
  closed : ∀ i, listed[i]? = some true → ∀ e ∈ (fullEdges ops).getD i [], listed[e]? = some true

theorem masks_listed {ops : Array Oper} {listed : Array Bool} (hlt : ∀ (i : Nat) (o : Oper), ops[i]? = some o → ∀ e ∈ o.after, e.on < i) (hcl : ∀ i : Nat, listed[i]? = some true → ∀ e ∈ (fullEdges ops).getD i [], listed[e]? = some true) :
    ∀ (n i : Nat), i < n → (∀ e ∈ (fullEdges ops).getD i [], listed[e]? = some true) → ∀ j, ((masks (fullEdges ops) []).getD i 0).testBit j = true → listed[j]? = some true
  | 0, i, h, _, _, _ => by omega
  | n + 1, i, hin, hed, j, hj => by
    have hinv : MInv (fullEdges ops) (masks (fullEdges ops) []) := masks_inv _ [] (fun k => by simp) (fun i m h => by simp at h)
    cases hm : (masks (fullEdges ops) [])[i]? with
    | none => rw [List.getD_eq_getElem?_getD, hm] at hj; simp at hj
    | some m =>
      rw [List.getD_eq_getElem?_getD, hm] at hj
      obtain ⟨e, he, h1⟩ := hinv i m hm j hj
      have hel := hed e he
      rcases h1 with rfl | h1
      · exact hel
      · have hei : e < i := by
          rw [List.getD_eq_getElem?_getD] at he
          cases ho : (fullEdges ops)[i]? with
          | none => rw [ho] at he; simp at he
          | some es =>
            rw [ho] at he
            simp only [fullEdges, List.getElem?_map, Option.map_eq_some_iff] at ho
            obtain ⟨o, ho, rfl⟩ := ho
            simp only [Option.getD_some, edgesOf, List.mem_map, List.mem_filter] at he
            obtain ⟨ed, ⟨q1, _⟩, rfl⟩ := he
            exact hlt i o (by simpa using ho) ed (by simpa using q1)
        exact masks_listed hlt hcl n e (by omega) (hcl e hel) j h1

theorem any_ok (wf : WfMap vm lm) (hC : SoundC P C) (hI : Impl P impl) {ops : Array Oper} {los : List LOper} {Q : Exit → Act → World → Prop} {md : Region.Mode} (hck : chkDraw ops los = true) (hco : chkOpers P vm lm ops 0 los = true)
    (hat : ∀ (i : Nat) (lo : LOper), los[i]? = some lo → ∃ o, ops[i]? = some o ∧ chkOper P vm lm ops o lo = true) {σf : RS} :
    ∀ {fuel : Nat} {rest : List LOper} {listed : Array Bool} {ρ S G σ a w}, fuel = rest.length → DInv ops los rest listed → Rel P vm lm ρ S G σ a w → (∀ lo ∈ rest, σ.rs[lo.ix]? = some .undef) →
      runOpsD C im impl rest σ = some σf → (∀ a' w', After P vm lm ρ S G w σf a' w' → Q .normal a' w') → wpAny P md ops Q fuel listed a w := by
  simp only [chkDraw, Bool.and_eq_true, beq_iff_eq] at hck
  obtain ⟨⟨⟨hlen, hqa⟩, hedg⟩, hpairs⟩ := hck
  have hqa' : ∀ lo ∈ los, lo.op.quiet = true ∨ lo.op.acts = true ∨ lo.op.isCall = true := fun lo hlo => by simpa [or_assoc] using List.all_eq_true.1 hqa lo hlo
  have hlt : ∀ (i : Nat) (o : Oper), ops[i]? = some o → ∀ e ∈ o.after, e.on < i := by
    intro i o ho e he
    have hi : i < ops.size := (Array.getElem?_eq_some_iff.1 ho).1
    have := List.all_eq_true.1 hedg i (List.mem_range.2 hi)
    rw [ho] at this
    simp only [Array.all_eq_true_iff_forall_mem, decide_eq_true_eq] at this
    exact this e he
  have hready : ∀ (listed : Array Bool) (i : Nat), i ∈ Region.ready md ops listed ↔ i < ops.size ∧ listed.getD i true = false ∧ ∃ o, ops[i]? = some o ∧ ∀ e ∈ o.after, Region.binds md e = true → listed.getD e.on false = true := by
    intro listed i
    unfold Region.ready
    rw [List.mem_filter, List.mem_range]
    constructor
    · rintro ⟨h1, h2⟩
      simp only [Bool.and_eq_true, Bool.not_eq_true'] at h2
      refine ⟨h1, h2.1, ?_⟩
      cases ho : ops[i]? with
      | none => rw [ho] at h2; simp at h2
      | some o =>
        rw [ho] at h2
        refine ⟨o, rfl, fun e he hb => ?_⟩
        have := h2.2
        simp only [Option.map_some, Option.getD_some, Array.all_eq_true_iff_forall_mem] at this
        have := this e he
        rw [hb] at this
        simpa using this
    · rintro ⟨h1, h2, o, ho, h3⟩
      refine ⟨h1, ?_⟩
      simp only [Bool.and_eq_true, Bool.not_eq_true']
      refine ⟨h2, ?_⟩
      rw [ho]
      simp only [Option.map_some, Option.getD_some, Array.all_eq_true_iff_forall_mem]
      intro e he
      cases hb : Region.binds md e with
      | false => rfl
      | true => simp [h3 e he hb]
  intro fuel
  induction fuel with
  | zero =>
    intro rest listed ρ S G σ a w hf hd h hu hr hk
    have hnil : rest = [] := List.eq_nil_of_length_eq_zero hf.symm
    subst hnil
    simp only [runOpsD, Option.some.injEq] at hr
    subst hr
    refine ⟨?_, hk _ _ ⟨ρ, S, G, h, Pr.refl ..⟩⟩
    apply List.eq_nil_iff_forall_not_mem.2
    intro i hi
    rw [hready] at hi
    obtain ⟨h1, h2, _⟩ := hi
    have : listed[i]? = some false := by
      rw [Array.getD_eq_getD_getElem?] at h2
      cases hl : listed[i]? with
      | none => rw [hl] at h2; simp at h2
      | some b => rw [hl] at h2; simp at h2; rw [h2]
    obtain ⟨lo, hlo, _⟩ := hd.all i this
    simp at hlo
  | succ fuel ih =>
    intro rest listed ρ S G σ a w hf hd h hu hr hk
    refine ⟨fun hnil => ?_, fun i hi => ?_⟩
    · exfalso
      cases rest with
      | nil => simp at hf
      | cons lo r =>
        obtain ⟨q1, q2⟩ := hd.mem lo (List.mem_cons_self ..)
        obtain ⟨o, ho, _⟩ := hat _ _ q1
        have : lo.ix ∈ Region.ready md ops listed := by
          rw [hready]
          refine ⟨(Array.getElem?_eq_some_iff.1 ho).1, by rw [Array.getD_eq_getD_getElem?, q2]; rfl, o, ho, fun e he _ => ?_⟩
          have hel := hlt _ _ ho e he
          rw [Array.getD_eq_getD_getElem?]
          cases hl : listed[e.on]? with
          | none =>
            have h1 := (Array.getElem?_eq_some_iff.1 q2).1
            rw [Array.getElem?_eq_none_iff] at hl
            omega
          | some b =>
            cases b with
            | true => rfl
            | false =>
              obtain ⟨lo2, hlo2, e2⟩ := hd.all _ hl
              rcases List.mem_cons.1 hlo2 with rfl | hlo2
              · omega
              · have := (List.pairwise_cons.1 hd.sorted).1 lo2 hlo2
                omega
        rw [hnil] at this
        simp at this
    · rw [hready] at hi
      obtain ⟨h1, h2, o, ho, h3⟩ := hi
      have hlf : listed[i]? = some false := by
        rw [Array.getD_eq_getD_getElem?] at h2
        cases hl : listed[i]? with
        | none => rw [hl] at h2; simp at h2
        | some b => rw [hl] at h2; simp at h2; rw [h2]
      obtain ⟨lo, hlo, hix⟩ := hd.all i hlf
      subst hix
      obtain ⟨p, q, rfl⟩ := List.append_of_mem hlo
      have hinlos : ∀ x ∈ p ++ lo :: q, x ∈ los := fun x hx => List.mem_of_getElem? (hd.mem x hx).1
      have hedges : ∀ e ∈ (fullEdges ops).getD lo.ix [], listed[e]? = some true := by
        intro e he
        rw [List.getD_eq_getElem?_getD] at he
        simp only [fullEdges, List.getElem?_map] at he
        rw [show ops.toList[lo.ix]? = some o by simpa using ho] at he
        simp only [Option.map_some, Option.getD_some, edgesOf, List.mem_map, List.mem_filter] at he
        obtain ⟨ed, ⟨q1, q2⟩, rfl⟩ := he
        have := h3 ed (by simpa using q1) (binds_any q2)
        rw [Array.getD_eq_getD_getElem?] at this
        cases hl : listed[ed.on]? with
        | none => rw [hl] at this; simp at this
        | some b => rw [hl] at this; simp at this; rw [this]
      have hind : ∀ x ∈ p, indep x lo = true := by
        intro x hx
        have hxl := hinlos x (List.mem_append_left _ hx)
        have hll := hinlos lo (List.mem_append_right _ (List.mem_cons_self ..))
        have hpr := List.all_eq_true.1 (List.all_eq_true.1 hpairs x hxl) lo hll
        have hlt' : x.ix < lo.ix := (List.pairwise_append.1 hd.sorted).2.2 x hx lo (List.mem_cons_self ..)
        simp only [Bool.or_eq_true, Bool.not_eq_true', decide_eq_false_iff_not] at hpr
        rcases hpr with (hpr | hpr) | hpr
        · exact absurd hlt' hpr
        · have hxx := masks_listed hlt hd.closed (lo.ix + 1) lo.ix (by omega) hedges x.ix hpr
          rw [(hd.mem x (List.mem_append_left _ hx)).2] at hxx
          cases hxx
        · exact hpr
      have hfront := runOpsD_front hind (fun x hx => indep_qa (hind x hx)) hd.sorted (fun x hx => hu x (List.mem_append_left _ hx)) hr
      simp only [runOpsD, Option.bind_eq_some_iff] at hfront
      obtain ⟨σ1, s1, s2⟩ := hfront
      obtain ⟨o', ho', hchk⟩ := hat _ _ (hd.mem lo hlo).1
      rw [ho] at ho'
      injection ho' with ho'
      subst ho'
      refine stepD_ok h wf hC hI ho hchk s1 fun a' w' ⟨ρ', S', G', k1, k2⟩ => ?_
      have hsub : (p ++ q).Sublist (p ++ lo :: q) := List.Sublist.append_left (List.sublist_cons_self ..) p
      have hne : ∀ x ∈ p ++ q, x.ix ≠ lo.ix := by
        intro x hx
        have hs := List.pairwise_append.1 hd.sorted
        rcases List.mem_append.1 hx with hx | hx
        · have := hs.2.2 x hx lo (List.mem_cons_self ..); omega
        · have := (List.pairwise_cons.1 hs.2.1).1 x hx; omega
      refine ih (rest := p ++ q) (listed := listed.setIfInBounds lo.ix true) (σ := σ1) ?_ ?_ k1 ?_ s2 (fun a2 w2 ⟨ρ2, S2, G2, m1, m2⟩ => hk a2 w2 ⟨ρ2, S2, G2, m1, k2.trans m2⟩)
      · simp at hf ⊢; omega
      · have hget : ∀ j, (listed.setIfInBounds lo.ix true)[j]? = if lo.ix = j then some true else listed[j]? := by
          intro j
          rw [Array.getElem?_setIfInBounds]
          split
          · rename_i e
            subst e
            rw [if_pos (by rw [hd.size]; exact h1)]
          · rfl
        exact {
          size := by simpa using hd.size
          mem := fun x hx => by
            obtain ⟨m1, m2⟩ := hd.mem x (hsub.subset hx)
            exact ⟨m1, by rw [hget, if_neg (fun e => hne x hx e.symm)]; exact m2⟩
          all := fun j hj => by
            rw [hget] at hj
            split at hj
            · cases hj
            · rename_i hne'
              obtain ⟨x, hx, hxj⟩ := hd.all j hj
              refine ⟨x, ?_, hxj⟩
              rcases List.mem_append.1 hx with hx | hx
              · exact List.mem_append_left _ hx
              · rcases List.mem_cons.1 hx with rfl | hx
                · exact absurd hxj hne'
                · exact List.mem_append_right _ hx
          sorted := hd.sorted.sublist hsub
          closed := fun j hj e he => by
            rw [hget] at hj
            rw [hget]
            split
            · rfl
            · split at hj
              · rename_i e1
                subst e1
                exact hedges e he
              · exact hd.closed j hj e he }
      · intro x hx
        exact stepD_keepU3 (hqa' lo (hinlos lo hlo)) s1 (fun e => hne x hx e.symm) (hu x (hsub.subset hx))
end Go.L
