/- HookB -/
import Derived.Test.YtbljgbojkifoiaaKHookA
import Derived.Test.YtbljgbojkifoiaaKTbl
import Derived.Shelf.Small.Strs
import Derived.Test.YtbljgbojkifoiaaKHookI
import Derived.Test.YtbljgbojkifoiaaKLH
import Derived.Shelf.Spec.SlicesGrow
import Derived.Ground.Names8Prog
import Derived.KernelRfl
set_option linter.unusedVariables false
set_option linter.unusedSimpArgs false
namespace Go.Proofs.Ytbljgbojkifoiaa
open Go Go.L Go.RowKit

variable {ρ : List Nat} {S : Nat → Nat → Prop} {G : Nat → Cl} {w w' : World} {st : List LObj}

theorem vl1 {v : LVal} {cargs : List Value} (h : VL w S ρ [v] cargs) : ∃ c, cargs = [c] ∧ V w S ρ v c := by
  cases h with | cons h1 h2 => cases h2; exact ⟨_, rfl, h1⟩
theorem vl2 {v u : LVal} {cargs : List Value} (h : VL w S ρ [v, u] cargs) : ∃ c d, cargs = [c, d] ∧ V w S ρ v c ∧ V w S ρ u d := by
  cases h with | cons h1 h2 => cases h2 with | cons h2 h3 => cases h3; exact ⟨_, _, rfl, h1, h2⟩

theorem emptyTup : At Try.prog w S G ρ noPkOk .pend (.tup []) (.tuple #[]) := ⟨[], rfl, rfl, fun c u hu => by simp at hu⟩

/-- An object's cell, as the block has it. -/
theorem cellAt {id b off : Nat} {t : TypeId} {c : List LVal} {v : LVal} (h : CRel Try.prog w S G ρ st) (hst : st[id]? = some (.cells t c)) (hb : ρ[id]? = some b) (hv : c[off]? = some v) :
    ∃ cc cv, w.heap[b]? = some (.cells cc t (0, 0)) ∧ G b = .box id ∧ c.length ≤ cc.size ∧ cc[off]? = some cv ∧ w.cell? ⟨b, off, none⟩ = some cv ∧ At1 Try.prog w S G ρ noPkOk (.cell id off, 0) v cv := by
  obtain ⟨b', cc, h1, h2, h3, h4, h5⟩ := h.st id _ hst
  obtain rfl : b = b' := by rw [hb] at h1; exact Option.some.inj h1
  obtain ⟨_, cv, h6, h7⟩ := h5 off v hv
  exact ⟨cc, cv, h2, h3, h4, h6, by rw [cellOfHeap h2]; exact h6, h7⟩

theorem hCopy_ok (args : List LVal) (st : List LObj) (v : LVal) (ost : Option (List LObj)) (h : D.hCopy args st = some (v, ost)) : Sound1 Try.prog 44 args st v ost := by
  refine ⟨by kernel_rfl, fun cargs w S G ρ hrel hcell hV hs => ?_⟩
  unfold D.hCopy at h
  split at h
  case h_2 => cases h
  rename_i id
  obtain ⟨c, rfl, hp⟩ := vl1 hV
  obtain ⟨b, hb, rfl⟩ := hp.ptr_inv
  split at h
  · rename_i t v' r hst
    split at h
    · rename_i ht
      injection h with h; injection h with e1 e2; subst e1; subst e2
      obtain ⟨cc, cv, k1, k2, k3, k4, k5, k6⟩ := cellAt hrel hst hb (off := 0) rfl
      have hcv := (At1.simple (v := .nilptr) rfl).1 k6
      have := hcv.nilptr_inv; subst this
      have ht' : t = 47 ∨ t = 49 := by simpa [D.isB] using ht
      have hn : 2 ≤ cc.size := by simp at k3; omega
      refine (copy_fresh b t cc.size w ht' hn k5 (by simp [World.shape?, k1]) (by simp [World.frozen?, k1])).mono ?_
      rintro e w' ⟨rfl, rfl⟩
      refine ⟨_, rfl, ?_⟩
      rw [setCell_eq_setRow w b 0 cc t (0, 0) _ k1]
      obtain ⟨b', cc', q1, q2, q3, q4, q5⟩ := hrel.st id _ hst
      obtain rfl : b = b' := by rw [hb] at q1; exact Option.some.inj q1
      rw [k1] at q2; injection q2 with q2; injection q2 with q2; subst q2
      obtain ⟨m1, m2⟩ := hrel.setRow (c' := .ptr id 0 :: v' :: r) (cc' := cc.setIfInBounds 0 (.pointer (some ⟨b, 0, none⟩))) hst hb k1 k2 (by simpa using k3) (fun o u hu => by
        cases o with
        | zero =>
          simp at hu; subst hu
          exact ⟨.inl rfl, _, by rw [Array.getElem?_setIfInBounds_self, if_pos (by omega)], (At1.simple rfl).2 (.ptr hb)⟩
        | succ o =>
          obtain ⟨z1, cv, z2, z3⟩ := q5 (o + 1) u (by simpa using hu)
          exact ⟨z1, cv, by rw [Array.getElem?_setIfInBounds_ne (by omega)]; exact z2, z3⟩)
      exact ⟨ρ, S, G, m1, emptyTup, m2, (fun e => by cases e), fun b l e x hg => .inl (hcell b l e x hg)⟩
    · cases h
  · rename_i t id' r hst
    split at h
    · rename_i hid
      subst hid
      injection h with h; injection h with e1 e2; subst e1; subst e2
      obtain ⟨cc, cv, k1, k2, k3, k4, k5, k6⟩ := cellAt hrel hst hb (off := 0) rfl
      obtain ⟨b', hb', rfl⟩ := ((At1.simple (v := .ptr id' 0) rfl).1 k6).ptr_inv
      obtain rfl : b = b' := by rw [hb] at hb'; exact Option.some.inj hb'
      refine (copy_used b w k5).mono ?_
      rintro e w' ⟨rfl, rfl⟩
      exact ⟨_, rfl, ρ, S, G, hrel, emptyTup, Pr.refl .., (fun e => by cases e), fun b l e x hg => .inl (hcell b l e x hg)⟩
    · cases h
  · cases h

theorem byteR_ok {v : LVal} {x : UInt8} (h : D.byteR v = some x) : v = .int .u8 x.toNat := by
  unfold D.byteR at h
  split at h
  · rename_i n
    split at h
    · rename_i hn
      injection h with h; subst h
      have : (UInt8.ofNat n.toNat).toNat = n.toNat := by simp; omega
      rw [this]; congr 1; omega
    · cases h
  · cases h
theorem bytesR_ok : ∀ {xs : List LVal} {l : List UInt8}, D.bytesR xs = some l → xs = l.map fun x => LVal.int .u8 x.toNat
  | [], l, h => by simp [D.bytesR] at h; subst h; rfl
  | v :: r, l, h => by
    simp only [D.bytesR, Option.bind_eq_some_iff, Option.map_eq_some_iff] at h
    obtain ⟨b, h1, l', h2, rfl⟩ := h
    rw [byteR_ok h1, bytesR_ok h2]; rfl

theorem bytesCells : ∀ (l : List UInt8), (l.map fun x => LVal.int .u8 x.toNat).flatMap LVal.cells = l.map fun x => LVal.int .u8 x.toNat
  | [] => rfl
  | a :: l => by
    simp only [List.map_cons, List.flatMap_cons, bytesCells l]; rfl

theorem hText_ok (args : List LVal) (st : List LObj) (v : LVal) (ost : Option (List LObj)) (h : D.hText args st = some (v, ost)) : Sound1 Try.prog 23 args st v ost := by
  refine ⟨by kernel_rfl, fun cargs w S G ρ hrel hcell hV hs => ?_⟩
  unfold D.hText at h
  split at h
  case h_2 => cases h
  rename_i id
  obtain ⟨c, rfl, hp⟩ := vl1 hV
  obtain ⟨b, hb, rfl⟩ := hp.ptr_inv
  have fin : ∀ {w' : World} {l : List UInt8}, Below w.heap.size w w' → CallPost Try.prog w S G ρ st (.str l) (some (st.set id .dead)) (.string ⟨l.toArray⟩) w' := by
    intro w' l hB
    obtain ⟨m1, m2⟩ := hrel.dead (w' := w') id hB.os hB.tape hB.output hB.size (fun b' hlt _ => hB.block b' hlt) (fun b' o hS => by
      have := hrel.swf.lt _ _ hS; unfold World.cell?; rw [hB.block b' this])
    exact ⟨ρ, S, _, m1, (At.simple rfl).2 (.str l), m2, (fun e => by cases e), gkill_cellish hcell⟩
  split at h
  · rename_i t p n hst
    injection h with h; injection h with e1 e2; subst e1; subst e2
    obtain ⟨cc, cv, k1, k2, k3, k4, k5, k6⟩ := cellAt hrel hst hb (off := 1) rfl
    have hcv := (At1.simple (v := .vs true .sh n []) rfl).1 k6
    cases hcv
    refine (text_nil b w k5).mono ?_
    rintro e w' ⟨rfl, rfl⟩
    exact ⟨_, rfl, fin (l := []) (Below.drew (Below.refl _ w))⟩
  · rename_i t p x xs hst
    simp only [Option.map_eq_some_iff] at h
    obtain ⟨l, hl, h⟩ := h
    injection h with e1 e2; subst e1; subst e2
    obtain ⟨cc, cv, k1, k2, k3, k4, k5, k6⟩ := cellAt hrel hst hb (off := 1) rfl
    obtain ⟨_, g, cap, cur, z1, z2, z3, z4, z5, z6, z7, z8, z9, z10⟩ := k6
    subst z1
    have hxs := bytesR_ok hl
    have hlen : xs.length = l.length := by rw [hxs]; simp
    have hblt : b < w.heap.size := hrel.rho id b hb
    by_cases h0 : l = []
    · subst h0
      rw [hlen] at k5
      by_cases hc0 : cap = 0
      · subst hc0
        refine (text_noroom b g cur w hblt k5 z2).mono ?_
        rintro e w' ⟨rfl, hB⟩
        exact ⟨_, rfl, fin (l := []) hB⟩
      · refine (text_room b g cap w hc0 k5).mono ?_
        rintro e w' ⟨rfl, rfl⟩
        exact ⟨_, rfl, fin (l := []) (Below.drew (Below.refl _ w))⟩
    · rw [hlen] at k5 z3
      have hcells : ∀ (j : Nat) (y : UInt8), l[j]? = some y → w.cell? ⟨g, j, none⟩ = some (.int .u8 y.toNat) := by
        intro j y hj
        have hx : (xs.flatMap LVal.cells)[j]? = some (.int .u8 y.toNat) := by
          have : xs.flatMap LVal.cells = xs := by rw [hxs]; exact bytesCells l
          rw [this, hxs]; simp [hj]
        obtain ⟨_, c, q1, q2, _⟩ := z10 j _ hx
        have := q2.int_inv
        subst this
        simpa using q1
      refine (text_own b g cap cur l w k5 z2 h0 z3 z4 (by simpa using z5) hcells).mono ?_
      rintro e w' ⟨rfl, rfl⟩
      refine ⟨_, rfl, ?_⟩
      have hfz : ∀ b', b' ≠ g → (w.drew.freeze ⟨g, 0, none⟩ l.length).heap[b']? = w.heap[b']? := by
        intro b' hb'
        unfold World.freeze
        split
        · rfl
        · show (w.heap.modify g _)[b']? = w.heap[b']?
          rw [Array.getElem?_modify]
          rw [if_neg (fun e => hb' e.symm)]
      have hcellz : ∀ b' o, (w.drew.freeze ⟨g, 0, none⟩ l.length).cell? ⟨b', o, none⟩ = w.cell? ⟨b', o, none⟩ := by
        intro b' o
        by_cases hb' : b' = g
        · subst hb'
          have : (w.drew.freeze ⟨b', 0, none⟩ l.length).heap[b']? = some (.cells cur 5 (0, 0 + l.length)) := by
            unfold World.freeze
            rw [if_neg (by simpa using h0)]
            show (w.heap.modify b' _)[b']? = _
            rw [Array.getElem?_modify]
            simp [z2]
          rw [cellOfHeap this, cellOfHeap z2]
        · unfold World.cell?
          rw [hfz b' hb']
      have hsz : (w.drew.freeze ⟨g, 0, none⟩ l.length).heap.size = w.heap.size := by
        unfold World.freeze
        split
        · rfl
        · show (w.heap.modify g _).size = _; simp
      have hpar : (w.drew.freeze ⟨g, 0, none⟩ l.length).os = w.os ∧ (w.drew.freeze ⟨g, 0, none⟩ l.length).tape = w.tape ∧ (w.drew.freeze ⟨g, 0, none⟩ l.length).output = w.output := by
        unfold World.freeze
        split <;> exact ⟨rfl, rfl, rfl⟩
      obtain ⟨m1, m2⟩ := hrel.dead (w' := w.drew.freeze ⟨g, 0, none⟩ l.length) id hpar.1 hpar.2.1 hpar.2.2 (by rw [hsz]; exact Nat.le_refl _) (fun b' hlt hg => by
        refine hfz b' (fun e => ?_)
        subst e
        rw [z8] at hg
        unfold gkill at hg
        rw [z8] at hg
        simp at hg) (fun b' o hS => hcellz b' o)
      exact ⟨ρ, S, _, m1, (At.simple rfl).2 (.str l), m2, (fun e => by cases e), gkill_cellish hcell⟩
  · cases h
end Go.Proofs.Ytbljgbojkifoiaa
