/- HookC -/
import Derived.Test.YtbljgbojkifoiaaKHookB
set_option linter.unusedVariables false
set_option linter.unusedSimpArgs false
namespace Go.Proofs.Ytbljgbojkifoiaa
open Go Go.L Go.RowKit
open Go.WideElems (Fit rd rg)
open Go.Proofs (encStr)

theorem hCmp_ok (args : List LVal) (st : List LObj) (v : LVal) (ost : Option (List LObj)) (h : D.hCmp args st = some (v, ost)) : Sound1 Try.prog 43 args st v ost := by
  refine ⟨by kernel_rfl, fun cargs w S G ρ hrel hcell hV hs => ?_⟩
  unfold D.hCmp at h
  split at h
  case h_2 => cases h
  rename_i a b
  obtain ⟨c, d, rfl, h1, h2⟩ := vl2 hV
  have := h1.str_inv; subst this
  have := h2.str_inv; subst this
  injection h with h; injection h with e1 e2; subst e1; subst e2
  refine (Any.bytealg_CompareString Try.lays213 ⟨⟨a⟩⟩ ⟨⟨b⟩⟩ w).mono ?_
  rintro e w' ⟨rfl, rfl⟩
  refine ⟨_, rfl, CallPost.grown hrel hcell (Below.refl _ _) rfl ?_⟩
  exact .int _ _

theorem hGrow_ok (args : List LVal) (st : List LObj) (v : LVal) (ost : Option (List LObj)) (h : D.hGrow args st = some (v, ost)) : Sound1 Try.prog 42 args st v ost := by
  refine ⟨by kernel_rfl, fun cargs w S G ρ hrel hcell hV hs => ?_⟩
  unfold D.hGrow at h
  split at h
  case h_2 => cases h
  rename_i n
  obtain ⟨c, d, rfl, h1, h2⟩ := vl2 hV
  cases h1
  have := h2.int_inv; subst this
  split at h
  · rename_i hn
    subst hn
    injection h with h; injection h with e1 e2; subst e1; subst e2
    refine (Any8.slices_Grow_room Try.grow42 none 0 0 0 w (by omega) (by omega) (by omega) (by omega)).mono ?_
    rintro e w' ⟨rfl, rfl⟩
    exact ⟨_, rfl, CallPost.grown hrel hcell (Below.refl _ _) rfl .nils⟩
  · split at h
    · rename_i hn0 hn
      injection h with h; injection h with e1 e2; subst e1; subst e2
      obtain ⟨m, rfl⟩ : ∃ m : Nat, n = m := ⟨n.toNat, by omega⟩
      obtain ⟨i0, hi0, hi1⟩ : ∃ i, Try.prog.info? 31 = some i ∧ (i.size, i.bytes, i.zero.isSome) = (31, 256, true) := Option.map_eq_some_iff.1 (show (Try.prog.info? 31).map (fun i => (i.size, i.bytes, i.zero.isSome)) = some (31, 256, true) by kernel_rfl)
      simp only [Prod.mk.injEq] at hi1
      obtain ⟨i1, i2, i3⟩ := hi1
      obtain ⟨z, hz⟩ := Option.isSome_iff_exists.1 i3
      have hzs : z.cells.size = 31 := by
        have : ((Try.prog.info? 31).bind (·.zero)).map (·.cells.size) = some 31 := by kernel_rfl
        rw [hi0] at this
        simpa [hz] using this
      refine (Any8.slices_Grow_grow Try.grow42 i0 z hi0 hz (by omega) none 0 0 m [] w (by omega) (by omega) (by rw [i2]; omega) (by omega) (by simp) (by simp) (by simp)).mono ?_
      rintro e w' ⟨rfl, rfl⟩
      refine ⟨_, rfl, ?_⟩
      have hge := grownCap_ge w (0 + m) 0 31
      refine CallPost.own hrel hcell (g := w.heap.size) ((Below.drew (Below.refl _ w)).alloc (Nat.le_refl _) _) (Nat.le_refl _) (by exact heap_alloc_at (w := w.drew)) (grownCap_le_maxLen w (0 + m) 0 31 (by unfold maxLen; omega)) ?_ (by kernel_rfl) (by omega)
      have hzc : ∀ k, (Builtin.zeroCells z.cells k).size = k * 31 := by intro k; simp [Builtin.zeroCells, hzs]
      simp only [Array.size_append, hzc]
      have : ([] : List Value).toArray.size = 0 := rfl
      rw [this]
      show 0 + (0 + m - 0) * 31 + (grownCap w (0 + m) 0 31 - (0 + m)) * 31 = grownCap w (0 + m) 0 31 * 31
      omega
    · cases h

theorem insK_perm (k : List UInt8) : ∀ l, (D.insK k l).Perm (k :: l)
  | [] => .refl _
  | x :: r => by
    unfold D.insK
    split
    · exact .refl _
    · exact ((insK_perm k r).cons x).trans (List.Perm.swap ..)
theorem sortK_perm : ∀ l, (D.sortK l).Perm l
  | [] => .refl _
  | k :: r => (insK_perm k _).trans ((sortK_perm r).cons k)
theorem insK_sorted (k : List UInt8) : ∀ l, l.Pairwise (· ≤ ·) → (D.insK k l).Pairwise (· ≤ ·)
  | [], _ => by simp [D.insK]
  | x :: r, h => by
    have hx := List.pairwise_cons.1 h
    unfold D.insK
    split
    · rename_i hk
      exact List.pairwise_cons.2 ⟨fun y hy => by
        rcases List.mem_cons.1 hy with rfl | hy
        · exact hk
        · exact List.le_trans hk (hx.1 y hy), h⟩
    · rename_i hk
      refine List.pairwise_cons.2 ⟨fun y hy => ?_, insK_sorted k r hx.2⟩
      rcases List.mem_cons.1 ((insK_perm k r).mem_iff.1 hy) with rfl | hy
      · exact (List.le_total x y).resolve_right hk
      · exact hx.1 y hy
theorem sortK_sorted : ∀ l, (D.sortK l).Pairwise (· ≤ ·)
  | [] => .nil
  | k :: r => insK_sorted k _ (sortK_sorted r)
theorem sortK_merge {l l' : List (List UInt8)} (h : l.Perm l') : l.mergeSort leB = D.sortK l' := by
  rw [mergeSort_of_perm (h.trans (sortK_perm l').symm)]
  have tr : ∀ a b c : List UInt8, leB a b = true → leB b c = true → leB a c = true := fun a b c h1 h2 => by simp only [leB, decide_eq_true_eq] at *; exact List.le_trans h1 h2
  have to : ∀ a b : List UInt8, (leB a b || leB b a) = true := fun a b => by simp only [leB, Bool.or_eq_true, decide_eq_true_eq]; exact List.le_total a b
  refine List.Perm.eq_of_pairwise (le := fun a b => leB a b = true) (fun a b _ _ h1 h2 => ?_) (List.pairwise_mergeSort tr to _) ((sortK_sorted l').imp fun h => by simpa [leB] using h) (List.mergeSort_perm _ leB)
  simp only [leB, decide_eq_true_eq] at h1 h2
  exact List.le_antisymm h1 h2
end Go.Proofs.Ytbljgbojkifoiaa
