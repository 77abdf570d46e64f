/- Cells that are taken and put down whole. -/
import Derived.Test.YtpfnlpakcldobaaGreatQ4
set_option linter.unusedVariables false
set_option linter.unusedSimpArgs false
namespace Go.Proofs.YtpfnlpakcldobaaGreat
open Go Go.L

theorem plain_own {v : LVal} (h : v.plain = true) : v.isOwn = false := by
  cases v with
  | vs b o n xs => cases o <;> simp_all [LVal.plain]
  | _ => rfl
theorem plain_down {v : LVal} (h : v.plain = true) : v.down = v := by
  cases v with
  | vs b o n xs => cases o <;> simp_all [LVal.plain, LVal.down]
  | _ => rfl
theorem plain_stay {v : LVal} (h : v.plain = true) : v.stay = v := by
  cases v with
  | vs b o n xs => cases o <;> simp_all [LVal.plain, LVal.stay]
  | _ => rfl
theorem plain_settled {v : LVal} (h : v.plain = true) : v.settled = true := by
  cases v with
  | vs b o n xs => cases o <;> simp_all [LVal.plain, LVal.settled]
  | _ => rfl
mutual
theorem pf_within {n : Nat} : ∀ (v : LVal), v.pf = true → v.within n = true
  | .ptr .., h => by simp [LVal.pf] at h
  | .ms .., h => by simp [LVal.pf] at h
  | .map _, h => by simp [LVal.pf] at h
  | .func _ caps, h => by simp only [LVal.pf] at h; simp only [LVal.within]; exact pfs_within caps h
  | .iface _ v, h => by simp only [LVal.pf] at h; simp only [LVal.within]; exact pf_within v h
  | .agg cs, h => by simp only [LVal.pf] at h; simp only [LVal.within]; exact pfs_within cs h
  | .tup l, h => by simp only [LVal.pf] at h; simp only [LVal.within]; exact pfs_within l h
  | .undef, _ => rfl
  | .bool _, _ => rfl
  | .int .., _ => rfl
  | .str _, _ => rfl
  | .ref _, _ => rfl
  | .nilptr, _ => rfl
  | .vs .., _ => rfl
  | .nilmap, _ => rfl
  | .nilfunc, _ => rfl
  | .niliface, _ => rfl
theorem pfs_within {n : Nat} : ∀ (l : List LVal), LVal.pfs l = true → LVal.withins n l = true
  | [], _ => rfl
  | v :: r, h => by
    simp only [LVal.pfs, Bool.and_eq_true] at h
    simp only [LVal.withins, Bool.and_eq_true]
    exact ⟨pf_within v h.1, pfs_within r h.2⟩
end

/-- Cells of their own, of so many. -/
structure Flat (n : Nat) (cs : List LVal) : Prop where
  len : cs.length = n
  plain : ∀ x ∈ cs, x.plain = true
  pfs : LVal.pfs cs = true

theorem Flat.fx {n : Nat} {cs : List LVal} (h : Flat n cs) : cs.length = n ∧ LVal.pfs cs = true ∧ (∀ x ∈ cs, x.plain = true) ∧ (∀ x ∈ cs, x.settled = true) ∧ (∀ x ∈ cs, x.plain = true ∨ x.isOwn = true) ∧ cs.any LVal.isOwn = false ∧
    cs.map LVal.down = cs ∧ cs.map LVal.stay = cs ∧ List.take n cs = cs ∧ (¬ ∃ x, x ∈ cs ∧ x.isOwn = true) ∧ (∀ k, LVal.withins k cs = true) := by
  refine ⟨h.len, h.pfs, h.plain, fun x hx => plain_settled (h.plain x hx), fun x hx => .inl (h.plain x hx), ?_, ?_, ?_, ?_, ?_, fun k => pfs_within _ h.pfs⟩
  · rw [List.any_eq_false]
    intro x hx
    rw [plain_own (h.plain x hx)]; simp
  · conv => rhs; rw [← List.map_id cs]
    exact List.map_congr_left fun x hx => plain_down (h.plain x hx)
  · conv => rhs; rw [← List.map_id cs]
    exact List.map_congr_left fun x hx => plain_stay (h.plain x hx)
  · exact List.take_of_length_le (by rw [h.len]; exact Nat.le_refl _)
  · rintro ⟨x, h1, h2⟩
    rw [plain_own (h.plain x h1)] at h2; cases h2

theorem ConfS.flat (c : ConfS) : Flat 9 c.cells := ⟨rfl, List.all_eq_true.1 rfl, rfl⟩
theorem StateS.flat {s : StateS} (h : s.o = .sh ∨ s.o = .full) : Flat 31 s.cells := by
  refine ⟨rfl, List.all_eq_true.1 ?_, rfl⟩
  simp only [StateS.cells]; rcases h with ho | ho <;> rw [ho] <;> rfl
end Go.Proofs.YtpfnlpakcldobaaGreat
