/- The interpreter, part LH. -/
import Derived.Test.YtbljgbojkifoiaaKLG
import Derived.Laws.Tables
import Derived.ChangeArms
import Derived.OpenShut
import Derived.ProofKit
/- L34: what a hook's proof wants: the store alone, behind a walk by hand. -/
set_option linter.unusedVariables false
set_option linter.unusedSimpArgs false
set_option linter.unusedSectionVars false
namespace Go.L
open Go Go.RowKit

variable {P : Program} {ρ ρ' : List Nat} {S S' : Nat → Nat → Prop} {G G' : Nat → Cl} {w w' : World} {st : List LObj}

theorem CRel.rel0 (h : CRel P w S G ρ st) : Rel P [] [] ρ S G ⟨[], st, []⟩ ⟨#[], []⟩ w where
  defers := rfl
  vsz k t hk := by simp at hk
  lsz i t hi := by simp at hi
  swf := h.swf
  len := h.len
  rho := h.rho
  st := h.st
  vars k v hv := by simp at hv
  rs i v hv := by simp at hv

theorem nopk0 : (⟨[], st, []⟩ : RS).nopk := by intro i b p n xs hi; simp at hi

theorem Rel.crel {vm : List Nat} {lm : List (Option Nat)} {σ : RS} {a : Act} (h : Rel P vm lm ρ S G σ a w) : CRel P w S G ρ σ.st := ⟨h.swf, h.len, h.rho, h.st⟩

/-- An object's block gets a new row. -/
theorem CRel.setRow (h : CRel P w S G ρ st) {id b : Nat} {c c' : List LVal} {cc cc' : Array Value} {et : TypeId} (hst : st[id]? = some (.cells et c)) (hb : ρ[id]? = some b)
    (hh : w.heap[b]? = some (.cells cc et (0, 0))) (hg : G b = .box id) (hsz : c'.length ≤ cc'.size)
    (hc' : ∀ (o : Nat) (v : LVal), c'[o]? = some v → (v.plain = true ∨ v.isOwn = true) ∧ ∃ cv, cc'[o]? = some cv ∧ At1 P w S G ρ noPkOk (.cell id o, 0) v cv) :
    CRel P (w.setRow b cc') S G ρ (st.set id (.cells et c')) ∧ Pr w S G ρ (w.setRow b cc') S G ρ := by
  obtain ⟨k1, k2⟩ := h.rel0.setRow (c := c) (c' := c') hst hb hh hg hsz hc' (fun o e x n xs cv _ _ hn => absurd nopk0 hn)
  exact ⟨k1.crel, k2⟩

/-- An object ends: its blocks may be anything behind it; others stay. -/
theorem CRel.dead (h : CRel P w S G ρ st) (id : Nat) (hos : w'.os = w.os) (htp : w'.tape = w.tape) (hout : w'.output = w.output) (hsz : w.heap.size ≤ w'.heap.size)
    (hb : ∀ b, b < w.heap.size → gkill G id b = G b → w'.heap[b]? = w.heap[b]?) (hcell : ∀ b o, S b o → w'.cell? ⟨b, o, none⟩ = w.cell? ⟨b, o, none⟩) :
    CRel P w' S (gkill G id) ρ (st.set id .dead) ∧ Pr w S G ρ w' S (gkill G id) ρ := by
  have he : Ext S w S w' := fun b o hs => ⟨hs, hcell b o hs⟩
  refine ⟨?_, ⟨hos, htp, hout, hsz, he, RhoLe.refl _, fun b hlt hg => ⟨hb b hlt ((gkill_ro hg).trans hg.symm), gkill_ro hg⟩, fun b o hs => .inl hs⟩⟩
  exact {
    swf := {
      lt := fun b o hs => Nat.lt_of_lt_of_le (h.swf.lt b o hs) hsz
      fresh := fun b hb => gkill_ro (h.swf.fresh b (Nat.le_trans hsz hb))
      box := fun b o i hs hg => h.swf.box b o i hs (gkill_box hg)
      arr := fun b o l e x hs hg => h.swf.arr b o l e x hs (gkill_arr hg) }
    len := by simpa using h.len
    rho := fun i b hi => Nat.lt_of_lt_of_le (h.rho i b hi) hsz
    st := fun i o ho => by
      by_cases hi : id = i
      · subst hi
        rw [List.getElem?_set] at ho
        simp at ho
        obtain ⟨_, rfl⟩ := ho
        trivial
      · rw [List.getElem?_set_ne hi] at ho
        refine (h.st i o ho).keep he (RhoLe.refl _) (fun b hg => ?_) (fun bl off c e x hg => ?_)
        · have := gkill_keep hg (fun e => hi e.symm)
          exact ⟨hb b (h.swf.lt_of (by rw [hg]; simp)) this, this⟩
        · have := gkill_keepc hg (fun e => hi e.symm)
          exact ⟨hb bl (h.swf.lt_of (by rw [hg]; simp)) this, this⟩ }

theorem gkill_cellish {id : Nat} (h : Cellish G) : ∀ b l e x, gkill G id b = .arr l e x → GLoc.cellish l ∨ l.1 = .pend := fun b l e x hg => .inl (h b l e x (gkill_arr hg))

/-- New blocks alone, that stay. -/
def sgrow (S : Nat → Nat → Prop) (w w' : World) : Nat → Nat → Prop := fun b o => S b o ∨ (w.heap.size ≤ b ∧ b < w'.heap.size)

theorem CRel.grown (h : CRel P w S G ρ st) (hB : Below w.heap.size w w') : CRel P w' (sgrow S w w') G ρ st ∧ Pr w S G ρ w' (sgrow S w w') G ρ := by
  have he : Ext S w (sgrow S w w') w' := fun b o hs => ⟨.inl hs, by
    have hlt := h.swf.lt b o hs
    unfold World.cell?
    rw [hB.block b hlt]⟩
  have hgr : ∀ b, w.heap.size ≤ b → G b = .ro := h.swf.fresh
  refine ⟨?_, ⟨hB.os, hB.tape, hB.output, hB.size, he, RhoLe.refl _, fun b hlt hg => ⟨hB.block b hlt, hg⟩, fun b o hs => by
    rcases hs with hs | hs
    · exact .inl hs
    · exact .inr (.inl hs.1)⟩⟩
  exact {
    swf := {
      lt := fun b o hs => by
        rcases hs with hs | hs
        · exact Nat.lt_of_lt_of_le (h.swf.lt b o hs) hB.size
        · exact hs.2
      fresh := fun b hb => hgr b (Nat.le_trans hB.size hb)
      box := fun b o i hs hg => by
        rcases hs with hs | hs
        · exact h.swf.box b o i hs hg
        · rw [hgr b hs.1] at hg; cases hg
      arr := fun b o l e x hs hg => by
        rcases hs with hs | hs
        · exact h.swf.arr b o l e x hs hg
        · rw [hgr b hs.1] at hg; cases hg }
    len := h.len
    rho := fun i b hi => Nat.lt_of_lt_of_le (h.rho i b hi) hB.size
    st := fun i o ho => (h.st i o ho).keep he (RhoLe.refl _) (fun b hg => ⟨hB.block b (h.swf.lt_of (by rw [hg]; simp)), rfl⟩) (fun bl off c e x hg => ⟨hB.block bl (h.swf.lt_of (by rw [hg]; simp)), rfl⟩) }

/-- What a hook gives that leaves the store alone: a value over new blocks. -/
theorem CallPost.grown (h : CRel P w S G ρ st) (hcell : Cellish G) (hB : Below w.heap.size w w') {v : LVal} {cv : Value} (hs : v.simple = true) (hv : V w' (sgrow S w w') ρ v cv) : CallPost P w S G ρ st v none cv w' := by
  obtain ⟨k1, k2⟩ := h.grown hB
  exact ⟨ρ, _, G, k1, (At.simple hs).2 hv, k2, fun _ b hb => ⟨hB.block b hb, rfl⟩, fun b l e x hg => .inl (hcell b l e x hg)⟩

/-- .. one that is its place's own. -/
theorem CallPost.own (h : CRel P w S G ρ st) (hcell : Cellish G) (hB : Below w.heap.size w w') {e : TypeId} {n g cap : Nat} {cur : Array Value} (hg : w.heap.size ≤ g) (hh : w'.heap[g]? = some (.cells cur e (0, 0)))
    (hcap : cap ≤ maxLen) (hcs : cur.size = cap * n) (hn : P.cellsOf e = n) (h0 : 0 < n) : CallPost P w S G ρ st (.vs false (.own e true) n []) none (.slice (some ⟨g, 0, none⟩) 0 cap) w' := by
  have he : Ext S w S w' := fun b o hs => ⟨hs, by
    have hlt := h.swf.lt b o hs
    unfold World.cell?
    rw [hB.block b hlt]⟩
  have hlg : g < w'.heap.size := (Array.getElem?_eq_some_iff.1 hh).1
  have hne : ∀ b, b < w.heap.size → gset G g (.pend, 0) 0 true b = G b := fun b hb => by unfold gset; rw [if_neg (by omega)]
  refine ⟨ρ, S, gset G g (.pend, 0) 0 true, ?_, ?_, ⟨hB.os, hB.tape, hB.output, hB.size, he, RhoLe.refl _, fun b hb hr => ⟨hB.block b hb, (hne b hb).trans hr⟩, fun b o hs => .inl hs⟩, fun _ b hb => ⟨hB.block b hb, hne b hb⟩, fun b l e' x hx => ?_⟩
  · exact {
      swf := {
        lt := fun b o hs => Nat.lt_of_lt_of_le (h.swf.lt b o hs) hB.size
        fresh := fun b hb => by unfold gset; rw [if_neg (by omega)]; exact h.swf.fresh b (Nat.le_trans hB.size hb)
        box := fun b o i hs hx => by rw [hne b (h.swf.lt b o hs)] at hx; exact h.swf.box b o i hs hx
        arr := fun b o l e' x hs hx => by rw [hne b (h.swf.lt b o hs)] at hx; exact h.swf.arr b o l e' x hs hx }
      len := h.len
      rho := fun i b hi => Nat.lt_of_lt_of_le (h.rho i b hi) hB.size
      st := fun i o ho => (h.st i o ho).keep he (RhoLe.refl _) (fun b hx => have hl := h.swf.lt_of (b := b) (by rw [hx]; simp); ⟨hB.block b hl, hne b hl⟩) (fun bl off c e x hx => have hl := h.swf.lt_of (b := bl) (by rw [hx]; simp); ⟨hB.block bl hl, hne bl hl⟩) }
  · exact ⟨rfl, g, cap, cur, rfl, hh, Nat.zero_le _, hcap, hcs, hn, h0, by simp [gset], fun y hy => by simp at hy, fun j v hj => by simp at hj⟩
  · unfold gset at hx
    split at hx
    · injection hx with h1; subst h1; exact .inr rfl
    · exact .inl (hcell b l e' x hx)
end Go.L
/- L35: what is handed in, as the interpreter's values. -/
set_option linter.unusedVariables false
set_option linter.unusedSimpArgs false
set_option linter.unusedSectionVars false
namespace Go.L
open Go Go.RowKit

variable {H : Type} {enc : TypeId × Value → H} {P : Program} {w : World}

def RdAll (R : TypeId → List LVal → Prop) : List TypeId → List LVal → Prop
  | [], us => us = []
  | t :: ts, us => ∃ a b, us = a ++ b ∧ R t a ∧ RdAll R ts b

/-- Cells that are a value of the type, such as can be handed in. -/
def Rd (P : Program) : Nat → TypeId → List LVal → Prop
  | 0, _, _ => False
  | d + 1, t, us => match P.underlying t with
    | some .bool => ∃ b, us = [.bool b]
    | some (.int k) => ∃ n, us = [.int k n] ∧ (Lit.int k n).wf = true
    | some .string => ∃ s, us = [.str s] ∧ s.length ≤ maxLen
    | some (.slice e) => ∃ b xs, us = [.vs b .sh (P.cellsOf e) xs] ∧ (b = true → xs = []) ∧ xs.length ≤ maxLen ∧ ∀ x ∈ xs, x.isAgg = aggT P e ∧ x.cells.length = P.cellsOf e ∧ Rd P d e x.cells
    | some (.struct fs) => RdAll (Rd P d) (fs.toList.map (·.type)) us
    | some (.array n e) => RdAll (Rd P d) (List.replicate n e) us
    | _ => False

def tiles (P : Program) : Nat → List Field → Option Nat
  | off, [] => some off
  | off, f :: r => if f.offset = off then tiles P (off + P.cellsOf f.type) r else none

def rdOk (P : Program) : Nat → TypeId → Bool
  | 0, _ => false
  | d + 1, t => match P.underlying t with
    | some .bool | some (.int _) | some .string => true
    | some (.slice e) => decide (0 < P.cellsOf e) && rdOk P d e && (aggT P e || P.cellsOf e == 1)
    | some (.struct fs) => tiles P 0 fs.toList == some (P.cellsOf t) && fs.toList.all fun f => rdOk P d f.type
    | some (.array n e) => n * P.cellsOf e == P.cellsOf t && rdOk P d e
    | _ => false

def mkArg (agg : Bool) (us : List LVal) : LVal := if agg then .agg us else us.headD .undef

/-- Every cell that is there. -/
def allS (w : World) : Nat → Nat → Prop := fun b _ => b < w.heap.size

theorem allS_swf : SWf w (allS w) (fun _ => .ro) := { lt := fun _ _ h => h, fresh := fun _ _ => rfl, box := fun b o id hs hg => (by cases hg), arr := fun b o l e x hs hg => (by cases hg) }

theorem VL.row {S : Nat → Nat → Prop} {b : Nat} : ∀ {us : List LVal} {cs : List Value} {off : Nat}, VL w S [] us cs → us.all LVal.plain = true → (∀ o, S b o) → (∀ (j : Nat) (c : Value), cs[j]? = some c → w.cell? ⟨b, off + j, none⟩ = some c) → Row w S b off us
  | [], _, _, _, _, _, _ => .nil
  | u :: us, _, off, h, hp, hS, hc => by
    cases h with
    | cons h1 h2 =>
      simp only [List.all_cons, Bool.and_eq_true] at hp
      refine .cons (hS _) (hc 0 _ rfl) h1 hp.1 (VL.row h2 hp.2 hS fun j c hj => ?_)
      have := hc (j + 1) c (by simpa using hj)
      rwa [show off + (j + 1) = off + 1 + j by omega] at this
theorem Row.append {S : Nat → Nat → Prop} {b : Nat} : ∀ {l l' : List LVal} {off : Nat}, Row w S b off l → Row w S b (off + l.length) l' → Row w S b off (l ++ l')
  | [], _, _, _, h => by simpa using h
  | x :: l, l', off, h, h' => by
    cases h with
    | cons a1 a2 a3 a4 a5 => exact .cons a1 a2 a3 a4 (Row.append a5 (by rwa [show off + 1 + l.length = off + (x :: l).length by simp; omega]))

theorem spot_none {a : Addr} {v : Value} (h : w.cell? a = some v) : a.spot = none := by
  unfold World.cell? at h
  split at h
  · split at h
    · cases h
    · rename_i hs; simpa using hs
  · cases h
theorem lt_of_cell {a : Addr} {v : Value} (h : w.cell? a = some v) : a.block < w.heap.size := by
  unfold World.cell? at h
  split at h
  · rename_i hs; exact (Array.getElem?_eq_some_iff.1 hs).1
  · cases h
theorem add_spot (b off k : Nat) : (⟨b, off, none⟩ : Addr).add k = ⟨b, off + k, none⟩ := by
  unfold Addr.add; split <;> simp_all

/-- What is read as a value of the type is one. -/
theorem rd_of_trod : ∀ (d : Nat) (t : TypeId) (fuel : Nat) (cs : List Value) (x : DataW H × List MemPlace), rdOk P d t = true → DataW.trod enc P w 0 (fun _ => true) true fuel t cs = some x →
    ∃ us, VL w (allS w) [] us cs ∧ us.all LVal.plain = true ∧ Rd P d t us ∧ (aggT P t = false → ∃ u, us = [u])
  | 0, t, fuel, cs, x, hc, h => by simp [rdOk] at hc
  | d + 1, t, fuel, cs, x, hc, h => by
    unfold rdOk at hc
    cases hu : P.underlying t with
    | none => simp [hu] at hc
    | some td =>
      cases td with
      | bool =>
        obtain ⟨b, rfl, _⟩ := DataW.trod_bool hu h
        exact ⟨[.bool b], .cons (.bool b) .nil, rfl, by simp [Rd, hu], fun _ => ⟨_, rfl⟩⟩
      | int k =>
        obtain ⟨n, rfl, _, hw⟩ := DataW.trod_int hu h
        exact ⟨[.int k n], .cons (.int k n) .nil, rfl, by simp [Rd, hu, hw], fun _ => ⟨_, rfl⟩⟩
      | string =>
        obtain ⟨s, rfl, _, hs⟩ := DataW.trod_string hu h
        exact ⟨[.str s.data.toList], .cons (.str _) .nil, rfl, by simp only [Rd, hu]; exact ⟨_, rfl, hs⟩, fun _ => ⟨_, rfl⟩⟩
      | slice e =>
        simp only [hu, Bool.and_eq_true, decide_eq_true_eq] at hc
        obtain ⟨⟨hpos, hce⟩, hagg⟩ := hc
        rcases DataW.trod_slice hu h with ⟨rfl, _⟩ | ⟨a, len, cap, elems, rest, n, rfl, rfl, _, hb, hl, hm, hlen, hel, hsp, _⟩
        · exact ⟨[.vs true .sh (P.cellsOf e) []], .cons .nils .nil, rfl, by simp only [Rd, hu]; exact ⟨true, [], rfl, fun _ => rfl, by simp, fun x hx => by simp at hx⟩, fun _ => ⟨_, rfl⟩⟩
        · by_cases hcap : cap = 0
          · subst hcap
            have : len = 0 := by omega
            subst this
            exact ⟨[.vs false .sh (P.cellsOf e) []], .cons .vz .nil, rfl, by simp only [Rd, hu]; exact ⟨false, [], rfl, fun h => (by cases h), by simp, fun x hx => by simp at hx⟩, fun _ => ⟨_, rfl⟩⟩
          · obtain ⟨hrl, hrest⟩ := hsp rfl
            have hfirst : ∃ v, w.cell? (a.add 0) = some v := by
              have key : ∀ {y : Option (DataW H × List MemPlace)}, (w.cells? 0 (a.add (0 * P.cellsOf e)) (P.cellsOf e)).bind (DataW.trod enc P w 0 (fun _ => true) true n e) = y → y.isSome → ∃ v, w.cell? (a.add 0) = some v := by
                intro y hy hs
                obtain ⟨z, rfl⟩ := Option.isSome_iff_exists.1 hs
                simp only [Option.bind_eq_some_iff] at hy
                obtain ⟨cells, hcl, _⟩ := hy
                obtain ⟨_, c2, c3⟩ := World.cells?_some hcl
                have := c3 0 hpos
                rw [List.getElem?_eq_getElem (by omega)] at this
                refine ⟨cells[0], ?_⟩
                have e0 : ∀ (q : Addr), (q.add 0).add 0 = q.add 0 := by intro q; unfold Addr.add; simp
                rw [Nat.zero_mul] at this
                rw [e0] at this
                exact this
              by_cases hl0 : len = 0
              · have := hrest 0 (by omega)
                rw [hl0, Nat.zero_add] at this
                exact key this (by rw [List.getElem?_eq_getElem (by omega)]; rfl)
              · exact key (hel 0 (by omega)) (by rw [List.getElem?_eq_getElem (by omega)]; rfl)
            obtain ⟨v0, hv0⟩ := hfirst
            have hsp0 := spot_none hv0
            have hblk := lt_of_cell hv0
            have hadd0 : (a.add 0) = a := by unfold Addr.add; simp
            rw [hadd0] at hsp0 hblk
            obtain ⟨ab, ao, asp⟩ := a
            dsimp only at hsp0 hblk
            subst hsp0
            have rows : ∀ k i, i + k = len → ∃ xs : List LVal, xs.length = k ∧ (∀ x ∈ xs, x.isAgg = aggT P e ∧ x.cells.length = P.cellsOf e ∧ Rd P d e x.cells) ∧ Row w (allS w) ab (ao + i * P.cellsOf e) (xs.flatMap LVal.cells) := by
              intro k
              induction k with
              | zero => intro i _; exact ⟨[], rfl, fun x hx => by simp at hx, .nil⟩
              | succ k ih =>
                intro i hi
                obtain ⟨xs, x1, x2, x3⟩ := ih (i + 1) (by omega)
                have h0 := hel i (by omega)
                rw [List.getElem?_eq_getElem (by omega), Option.bind_eq_some_iff] at h0
                obtain ⟨cells, hcl, htr⟩ := h0
                obtain ⟨_, c2, c3⟩ := World.cells?_some hcl
                obtain ⟨us, u1, u2, u3, u4⟩ := rd_of_trod d e n cells _ hce htr
                have hul : us.length = P.cellsOf e := by rw [u1.length, c2]
                have hmk : (mkArg (aggT P e) us).cells = us ∧ (mkArg (aggT P e) us).isAgg = aggT P e := by
                  cases ha : aggT P e with
                  | true => exact ⟨rfl, rfl⟩
                  | false =>
                    obtain ⟨u, rfl⟩ := u4 ha
                    have hup : u.plain = true := by simpa using u2
                    cases u <;> first | exact ⟨rfl, rfl⟩ | simp [LVal.plain] at hup
                refine ⟨mkArg (aggT P e) us :: xs, by simp [x1], fun x hx => ?_, ?_⟩
                · rcases List.mem_cons.1 hx with rfl | hx
                  · exact ⟨hmk.2, by rw [hmk.1, hul], by rw [hmk.1]; exact u3⟩
                  · exact x2 x hx
                · rw [List.flatMap_cons, hmk.1]
                  refine Row.append (VL.row u1 u2 (fun _ => hblk) fun j c hj => ?_) ?_
                  · have hjl := (List.getElem?_eq_some_iff.1 hj).1
                    have := c3 j (by omega)
                    rw [hj, add_spot, add_spot] at this
                    exact this
                  · rw [hul, show ao + i * P.cellsOf e + P.cellsOf e = ao + (i + 1) * P.cellsOf e by rw [Nat.add_mul]; omega]
                    exact x3
            obtain ⟨xs, x1, x2, x3⟩ := rows len 0 (by omega)
            rw [Nat.zero_mul, Nat.add_zero] at x3
            subst x1
            exact ⟨[.vs false .sh (P.cellsOf e) xs], .cons (.vs hl hm (by intro h; cases h) (fun x hx => (x2 x hx).2.1) x3) .nil, rfl,
              by simp only [Rd, hu]; exact ⟨false, xs, rfl, fun h => (by cases h), by omega, x2⟩, fun _ => ⟨_, rfl⟩⟩
      | struct fs =>
        simp only [hu, Bool.and_eq_true, beq_iff_eq] at hc
        obtain ⟨ht, hall⟩ := hc
        obtain ⟨xs, n, rfl, _, hcl, hxl, hxs⟩ := DataW.trod_struct hu h
        have go : ∀ (l : List Field) (off : Nat), (∀ f ∈ l, f ∈ fs.toList) → tiles P off l = some (P.cellsOf t) → off ≤ P.cellsOf t → ∃ us, VL w (allS w) [] us (cs.drop off) ∧ us.all LVal.plain = true ∧ RdAll (Rd P d) (l.map (·.type)) us := by
          intro l
          induction l with
          | nil =>
            intro off _ h1 _
            simp [tiles] at h1
            exact ⟨[], by rw [List.drop_of_length_le (by omega)]; exact .nil, rfl, rfl⟩
          | cons f r ih =>
            intro off hsub h1 hle
            unfold tiles at h1
            split at h1
            · rename_i hoff
              have hle2 : ∀ (l : List Field) (o s : Nat), tiles P o l = some s → o ≤ s := by
                intro l
                induction l with
                | nil => intro o s h; simp [tiles] at h; omega
                | cons f r ih =>
                  intro o s h
                  unfold tiles at h
                  split at h
                  · have := ih _ _ h; omega
                  · cases h
              obtain ⟨us2, v1, v2, v3⟩ := ih (off + P.cellsOf f.type) (fun g hg => hsub g (List.mem_cons_of_mem _ hg)) h1 (hle2 _ _ _ h1)
              have hf := hsub f (List.mem_cons_self ..)
              obtain ⟨i, hi, hfi⟩ := List.getElem_of_mem hf
              have hi' : i < fs.size := by simpa using hi
              have hx := hxs i f (by rw [Array.getElem?_eq_getElem hi']; simpa using hfi)
              rw [List.getElem?_eq_getElem (by omega)] at hx
              obtain ⟨us1, u1, u2, u3, _⟩ := rd_of_trod d f.type n _ _ (List.all_eq_true.1 hall f hf) hx
              rw [hoff] at u1
              refine ⟨us1 ++ us2, ?_, by rw [List.all_append, u2, v2]; rfl, us1, us2, rfl, u3, v3⟩
              have := u1.append v1
              rwa [← List.drop_drop, List.take_append_drop] at this
            · cases h1
        obtain ⟨us, u1, u2, u3⟩ := go fs.toList 0 (fun _ h => h) ht (Nat.zero_le _)
        exact ⟨us, by simpa using u1, u2, by simpa only [Rd, hu] using u3, fun ha => by unfold aggT at ha; rw [hu] at ha; exact absurd ha (by simp [aggD])⟩
      | array m e =>
        simp only [hu, Bool.and_eq_true, beq_iff_eq] at hc
        obtain ⟨ht, hce⟩ := hc
        obtain ⟨xs, n, rfl, _, hcl, hxl, hxs⟩ := DataW.trod_array hu h
        have go : ∀ (k i : Nat), i + k = m → ∃ us, VL w (allS w) [] us (cs.drop (i * P.cellsOf e)) ∧ us.all LVal.plain = true ∧ RdAll (Rd P d) (List.replicate k e) us := by
          intro k
          induction k with
          | zero =>
            intro i hi
            have : i = m := by omega
            subst this
            exact ⟨[], by rw [List.drop_of_length_le (by omega)]; exact .nil, rfl, rfl⟩
          | succ k ih =>
            intro i hi
            obtain ⟨us2, v1, v2, v3⟩ := ih (i + 1) (by omega)
            have hx := hxs i (by omega)
            rw [List.getElem?_eq_getElem (by omega)] at hx
            obtain ⟨us1, u1, u2, u3, _⟩ := rd_of_trod d e n _ _ hce hx
            refine ⟨us1 ++ us2, ?_, by rw [List.all_append, u2, v2]; rfl, us1, us2, rfl, u3, v3⟩
            have := u1.append v1
            rw [show (i + 1) * P.cellsOf e = i * P.cellsOf e + P.cellsOf e by rw [Nat.add_mul]; omega] at this
            rwa [← List.drop_drop, List.take_append_drop] at this
        obtain ⟨us, u1, u2, u3⟩ := go m 0 (by omega)
        exact ⟨us, by simpa using u1, u2, by simpa only [Rd, hu] using u3, fun ha => by unfold aggT at ha; rw [hu] at ha; exact absurd ha (by simp [aggD])⟩
      | _ => simp [hu] at hc

/-- An argument. -/
theorem pfs_append : ∀ {l l' : List LVal}, LVal.pfs l = true → LVal.pfs l' = true → LVal.pfs (l ++ l') = true
  | [], _, _, h => h
  | v :: l, l', h, h' => by
    simp only [LVal.pfs, Bool.and_eq_true, List.cons_append] at h ⊢
    exact ⟨h.1, pfs_append h.2 h'⟩
theorem RdAll.pfs {R : TypeId → List LVal → Prop} (hR : ∀ t us, R t us → LVal.pfs us = true) : ∀ {ts : List TypeId} {us : List LVal}, RdAll R ts us → LVal.pfs us = true
  | [], _, h => by cases h; rfl
  | t :: ts, _, ⟨a, b, rfl, h1, h2⟩ => pfs_append (hR _ _ h1) (RdAll.pfs hR h2)
theorem Rd.pfs : ∀ (d : Nat) (t : TypeId) (us : List LVal), Rd P d t us → LVal.pfs us = true
  | 0, _, _, h => h.elim
  | d + 1, t, us, h => by
    unfold Rd at h
    split at h
    · obtain ⟨b, rfl⟩ := h; rfl
    · obtain ⟨b, rfl, _⟩ := h; rfl
    · obtain ⟨b, rfl, _⟩ := h; rfl
    · obtain ⟨b, xs, rfl, _⟩ := h; rfl
    · exact h.pfs (Rd.pfs d)
    · exact h.pfs (Rd.pfs d)
    · exact h.elim

theorem rd_arg {d : Nat} {t : TypeId} {v : Value} {r : Reach} {base : Nat} {x : DataW H} {ps : List MemPlace} (hc : rdOk P d t = true) (hok : Value.okWide P w r base t v) (h : DataW.Trod enc P w 0 (fun _ => true) true t v x ps) :
    ∃ us, Rd P d t us ∧ V w (allS w) [] (mkArg (aggT P t) us) v ∧ (mkArg (aggT P t) us).simple = true ∧ (mkArg (aggT P t) us).pf = true := by
  obtain ⟨fuel, h⟩ := h
  obtain ⟨us, u1, u2, u3, u4⟩ := rd_of_trod d t fuel _ _ hc h
  have hpf := Rd.pfs d t us u3
  have hval : aggT P t = true → ∃ cs, v = .agg cs := by
    intro ha
    unfold aggT at ha
    unfold Value.okWide at hok
    split at ha
    · rename_i td hu
      rw [hu] at hok
      cases td with
      | struct fs => obtain ⟨cs, rfl, _⟩ := hok; exact ⟨cs, rfl⟩
      | array n e => obtain ⟨cs, rfl, _⟩ := hok; exact ⟨cs, rfl⟩
      | _ => simp [aggD] at ha
    · cases ha
  refine ⟨us, u3, ?_⟩
  cases ha : aggT P t with
  | true =>
    obtain ⟨cs, rfl⟩ := hval ha
    exact ⟨.agg u1 u2, rfl, hpf⟩
  | false =>
    obtain ⟨u, rfl⟩ := u4 ha
    have hup : u.plain = true := by simpa using u2
    have hone : v.cells.toList = [v] := by
      cases v with
      | agg cs =>
        exfalso
        unfold Value.okWide at hok
        unfold aggT at ha
        split at hok
        · rename_i hu; rw [hu] at ha; simp [aggD] at ha
        · rename_i hu; rw [hu] at ha; simp [aggD] at ha
        · unfold Cell.okWide Cell.ok at hok
          split at hok
          all_goals first
            | (rename_i h1 h2; cases h2; done)
            | (split at hok <;> first | exact hok.elim | (rename_i h1 h2; cases h2))
      | _ => rfl
    rw [hone] at u1
    cases u1 with
    | cons h1 h2 =>
      refine ⟨h1, LVal.simple_of_plain hup, ?_⟩
      show u.pf = true
      simpa [LVal.pfs] using hpf
end Go.L
/- L36: a law's row, from what the interpreter answers. -/
set_option linter.unusedVariables false
set_option linter.unusedSimpArgs false
set_option linter.unusedSectionVars false
namespace Go.L
open Go Go.RowKit Go.ChangeShapes Go.WideShapes

variable {H : Type} {enc : TypeId × Value → H} {P : Program} {w W W' : World}

/-- Arguments that can be handed in. -/
def RdArgs (P : Program) (d : Nat) : List TypeId → List LVal → Prop
  | [], [] => True
  | t :: ts, u :: us => (∃ cs, Rd P d t cs ∧ u = mkArg (aggT P t) cs) ∧ RdArgs P d ts us
  | _, _ => False

theorem args_rd {d : Nat} {r : Reach} {base : Nat} : ∀ {ts : List TypeId} {vs : List Value} {ds : List (DataW H)} {ps : List MemPlace}, (∀ t ∈ ts, rdOk P d t = true) →
    (∀ (j : Nat) t v, ts[j]? = some t → vs[j]? = some v → Value.okWide P w r base t v) → DataW.TrodAll enc P w 0 (fun _ => true) true ts vs ds ps →
    ∃ largs, VL w (allS w) [] largs vs ∧ (∀ u ∈ largs, u.simple = true) ∧ RdArgs P d ts largs
  | [], vs, ds, ps, _, _, h => by
    obtain ⟨rfl, rfl, rfl⟩ := trodAll_nil h
    exact ⟨[], .nil, fun u hu => by simp at hu, trivial⟩
  | t :: ts, vs, ds, ps, hc, hok, h => by
    obtain ⟨v, vs1, d0, ds1, a, b, rfl, rfl, rfl, h1, h2⟩ := trodAll_cons h
    obtain ⟨cs, k1, k2, k3, k4⟩ := rd_arg (hc t (List.mem_cons_self ..)) (hok 0 t v rfl rfl) h1
    obtain ⟨largs, m1, m2, m3⟩ := args_rd (fun t ht => hc t (List.mem_cons_of_mem _ ht)) (fun j t v hj hv => hok (j + 1) t v hj hv) h2
    exact ⟨mkArg (aggT P t) cs :: largs, .cons k2 m1, fun u hu => by
      rcases List.mem_cons.1 hu with rfl | hu
      · exact k3
      · exact m2 u hu, ⟨cs, k1, rfl⟩, m3⟩

theorem trodAll_below (hl : laidOutB P = true) (hb : Below W.heap.size W W') : ∀ {ts : List TypeId} {vs : List Value} {ds : List (DataW H)} {ps : List MemPlace}, (∀ t ∈ ts, P.readableRec t = true ∧ t < P.types.size) →
    (∀ x ∈ ps, x.block < W.heap.size) → DataW.TrodAll enc P W 0 (fun _ => true) true ts vs ds ps → DataW.TrodAll enc P W' 0 (fun b => decide (b < W.heap.size)) true ts vs ds ps
  | [], vs, ds, ps, _, _, h => by
    obtain ⟨rfl, rfl, rfl⟩ := trodAll_nil h
    exact rfl
  | t :: ts, vs, ds, ps, hc, hlt, h => by
    obtain ⟨v, vs1, d0, ds1, a, b, rfl, rfl, rfl, h1, h2⟩ := trodAll_cons h
    have ht := hc t (List.mem_cons_self ..)
    exact ⟨a, b, Below.trod hl ht.1 ht.2 h1 hb (fun x hx => hlt x (List.mem_append_left _ hx)), trodAll_below hl hb (fun t ht => hc t (List.mem_cons_of_mem _ ht)) (fun x hx => hlt x (List.mem_append_right _ hx)) h2, rfl⟩

theorem kept_below (hb : Below W.heap.size W W') (may : MemPlace → Prop) : W.keptBut W' may := by
  refine ⟨hb.os, hb.output, fun i hi => ?_⟩
  rw [hb.block i hi]
  split
  · rename_i h1 h2
    rw [h1] at h2
    injection h2 with h2; injection h2 with e1 e2 e3; subst e1; subst e2; subst e3
    exact ⟨rfl, rfl, rfl, fun _ _ => rfl⟩
  · rename_i h1 h2
    rw [h1] at h2
    injection h2 with h2; injection h2 with e1 e2; subst e1; subst e2
    exact .inr ⟨rfl, rfl⟩
  · rfl

/-- WHAT A LAW's CALL DOES, where the interpreter answers true at every input that can be handed in. -/
theorem law_contract {T : Tbl} (hT : TblOk P T) {f : FuncId} {fn : Func} {s : ChangeSpec} {apart fresh handsOn : Bool} {d : Nat} {tb : TypeId} (hl : laidOutB P = true) (hrt : fn.resultTypes = #[tb]) (hb : P.underlying tb = some .bool)
    (hread : ∀ t ∈ fn.params.toList, P.readableRec t = true ∧ t < P.types.size) (hrd : ∀ t ∈ fn.params.toList, rdOk P d t = true) (hvars : s.vars = []) (hlaw : ∀ largs, RdArgs P d fn.params.toList largs → callW T f largs [] = some (.bool true, none))
    {base : Nat} {args : Array Value} {ds gs : List (DataW H)} {before : List MemPlace}
    (hval : ∀ (j : Nat) t v, fn.params[j]? = some t → args[j]? = some v → Value.okWide P W .any base t v)
    (hW : DataW.Whole enc P fn.params.toList s.vars apart W args.toList ds gs before) (hs : (s.fn H (ds ++ gs)).results = [.lit (.bool true)] ∧ (s.fn H (ds ++ gs)).args = ds ∧ (s.fn H (ds ++ gs)).vars = []) :
    Calls P f args W fun e W' => ∃ v, e = .returned v ∧ s.post enc P fn apart fresh handsOn false W args v W' := by
  have hlt := hW.lt
  have hW' := hW
  obtain ⟨p, q, hA, hV, rfl, _, _⟩ := hW
  rw [hvars] at hV
  obtain ⟨rfl, rfl⟩ := trodVars_none hV
  obtain ⟨largs, h1, h2, h3⟩ := args_rd hrd (fun j t v ht hv => hval j t v (by simpa using ht) (by simpa using hv)) hA
  obtain ⟨n, hn⟩ := callW_iff.1 (hlaw largs h3)
  have hc := (callN_sound hT n f largs [] _ _ hn).2 args.toList W (allS W) (fun _ => .ro) [] (CRel.pure allS_swf) (fun b l e x hg => (by cases hg)) h1 h2
  refine Calls.mono hc ?_
  rintro e W' ⟨cv, rfl, ρ', S', G', c1, c2, c3, c4, c5⟩
  have := ((At.simple (v := .bool true) rfl).1 c2).bool_inv
  subst this
  have hB : Below W.heap.size W W' := ⟨c3.os, c3.tape, c3.output, c3.size, fun b hb => (c4 rfl b hb).1⟩
  refine ⟨_, rfl, ds, [], _, [], p, [], hW', ?_, ?_, ?_, kept_below hB _, fun h => by cases h⟩
  · rw [hs.1, hrt]
    exact trodAll_mk1 (shut_bool hb _)
  · rw [hs.2.1]
    exact trodAll_below hl hB hread (fun x hx => hlt x (List.mem_append_left _ hx)) hA
  · rw [hs.2.2, hvars]
    exact rfl
end Go.L
/- L37: a run with some calls answered from what is known of them. -/
set_option linter.unusedVariables false
set_option linter.unusedSimpArgs false
namespace Go.L
open Go

variable {T T' : Tbl}

theorem codeN_callW (n : Nat) : ∀ {c : LCode} {s : RS} {r}, codeN (callW T) T.im T.impl n c s = some r → codeW T c s = some r
  | .skip, s, r, h => by rw [codeW_skip]; exact h
  | .region k ops draw, s, r, h => by
    cases draw with
    | true => rw [codeW_regionD]; exact h
    | false => rw [codeW_region]; exact h
  | .seq a b, s, r, h => by
    rw [codeW_seq]
    simp only [codeN, Option.bind_eq_some_iff] at h ⊢
    obtain ⟨⟨ex, s1⟩, h1, h2⟩ := h
    refine ⟨_, codeN_callW n h1, ?_⟩
    cases ex with
    | normal => exact codeN_callW n h2
    | _ => exact h2
  | .cond x a b, s, r, h => by
    rw [codeW_cond]
    simp only [codeN] at h
    refine bind_mono h fun v r h => ?_
    cases v with
    | bool t => cases t <;> exact codeN_callW n h
    | _ => cases h
  | .block id b, s, r, h => by
    rw [codeW_block]
    exact map_mono (x := codeN ..) h fun r h => codeN_callW n h
  | .loop b, s, r, h => by
    simp only [codeN] at h
    have : ∀ (m : Nat) (s : RS) (r : LExit × RS), loopN (codeN (callW T) T.im T.impl n b) m s = some r → codeW T (.loop b) s = some r := by
      intro m
      induction m with
      | zero => intro s r h; simp [loopN] at h
      | succ m ih =>
        intro s r h
        simp only [loopN, Option.bind_eq_some_iff] at h
        obtain ⟨⟨ex, s1⟩, h1, h2⟩ := h
        rw [codeW_loop, codeN_callW n h1]
        cases ex with
        | normal => exact ih _ _ h2
        | _ => exact h2
    exact this n s r h
  | .exit id, s, r, h => by rw [codeW_exit]; exact h
  | .ret, s, r, h => by rw [codeW_ret]; exact h
  | .dead, s, r, h => by simp [codeN] at h
  | .fence ks b, s, r, h => by
    rw [codeW_fence]
    simp only [codeN, Option.bind_eq_some_iff] at h ⊢
    obtain ⟨u, h1, h2⟩ := h
    exact ⟨u, codeN_callW n h1, h2⟩

/-- A table of which some functions are answered otherwise, yet as the first one answers them. -/
def Swaps (T T' : Tbl) : Prop := T'.im = T.im ∧ T'.impl = T.impl ∧
  ∀ f d, T'.fns f = some d → T.fns f = some d ∨ ∃ g, d = .hook g ∧ ∀ args st r, g args st = some r → callW T f args st = some r

theorem callN_swap (h : Swaps T T') : ∀ n, CLe (callN T' n) (callW T)
  | 0 => fun f args st r hc => by simp [callN] at hc
  | n + 1 => fun f args st r hc => by
    simp only [callN] at hc
    cases hf : T'.fns f with
    | none => simp [hf] at hc
    | some d =>
      simp only [hf] at hc
      rcases h.2.2 f d hf with hT | ⟨g, rfl, hg⟩
      · cases d with
        | hook g => rw [callW_hook hT]; exact hc
        | fn lf =>
          rw [callW_fn hT]
          refine runFun_mono (fun s r hr => ?_) hc
          rw [h.1, h.2.1] at hr
          exact codeN_callW n (codeN_mono (callN_swap h n) (Nat.le_refl n) hr)
      · exact hg _ _ _ hc
end Go.L
/- L38: what can be handed in, by the shape of its type. -/
set_option linter.unusedVariables false
set_option linter.unusedSimpArgs false
namespace Go.L
open Go
inductive Sh where
  | bool
  | int (k : IntKind)
  | str
  | slice (e : TypeId) (n : Nat) (agg : Bool)
  | fields (ts : List TypeId)
  | other
  deriving DecidableEq

def shapeT (P : Program) (t : TypeId) : Sh := match P.underlying t with
  | some .bool => .bool
  | some (.int k) => .int k
  | some .string => .str
  | some (.slice e) => .slice e (P.cellsOf e) (aggT P e)
  | some (.struct fs) => .fields (fs.toList.map (·.type))
  | some (.array n e) => .fields (List.replicate n e)
  | _ => .other

def RdSh (R : TypeId → List LVal → Prop) : Sh → List LVal → Prop
  | .bool, us => ∃ b, us = [.bool b]
  | .int k, us => ∃ n, us = [.int k n] ∧ (Lit.int k n).wf = true
  | .str, us => ∃ s, us = [.str s] ∧ s.length ≤ maxLen
  | .slice e n agg, us => ∃ b xs, us = [.vs b .sh n xs] ∧ (b = true → xs = []) ∧ xs.length ≤ maxLen ∧ ∀ x ∈ xs, x.isAgg = agg ∧ x.cells.length = n ∧ R e x.cells
  | .fields ts, us => RdAll R ts us
  | .other, _ => False

theorem Rd_shape {P : Program} {d : Nat} {t : TypeId} {us : List LVal} (h : Rd P (d + 1) t us) {s : Sh} (hs : shapeT P t = s) : RdSh (Rd P d) s us := by
  subst hs
  unfold Rd at h
  unfold shapeT
  split at h <;> simp_all [RdSh]

theorem args_one {P : Program} {d : Nat} {t : TypeId} : ∀ {largs : List LVal}, RdArgs P d [t] largs → ∃ u, largs = [u] ∧ ∃ cs, Rd P d t cs ∧ u = mkArg (aggT P t) cs
  | [], h => h.elim
  | [u], h => ⟨u, rfl, h.1⟩
  | u :: v :: r, h => h.2.elim
theorem args_two {P : Program} {d : Nat} {t t2 : TypeId} : ∀ {largs : List LVal}, RdArgs P d [t, t2] largs → ∃ u v, largs = [u, v] ∧ (∃ cs, Rd P d t cs ∧ u = mkArg (aggT P t) cs) ∧ ∃ cs, Rd P d t2 cs ∧ v = mkArg (aggT P t2) cs
  | [], h => h.elim
  | [u], h => h.2.elim
  | [u, v], h => ⟨u, v, rfl, h.1, h.2.1⟩
  | u :: v :: x :: r, h => h.2.2.elim
theorem args_three {P : Program} {d : Nat} {t t2 t3 : TypeId} : ∀ {largs : List LVal}, RdArgs P d [t, t2, t3] largs → ∃ u v x, largs = [u, v, x] ∧ (∃ cs, Rd P d t cs ∧ u = mkArg (aggT P t) cs) ∧ (∃ cs, Rd P d t2 cs ∧ v = mkArg (aggT P t2) cs) ∧ ∃ cs, Rd P d t3 cs ∧ x = mkArg (aggT P t3) cs
  | [], h => h.elim
  | [u], h => h.2.elim
  | [u, v], h => h.2.2.elim
  | [u, v, x], h => ⟨u, v, x, rfl, h.1, h.2.1, h.2.2.1⟩
  | u :: v :: x :: y :: r, h => h.2.2.2.elim
end Go.L
