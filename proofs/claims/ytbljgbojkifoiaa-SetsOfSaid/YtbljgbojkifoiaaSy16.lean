/- One key just where endpoints are alike. -/
import Derived.Test.YtbljgbojkifoiaaSy11
set_option linter.unusedVariables false
set_option linter.unusedSimpArgs false
namespace Go.Proofs.Ytbljgbojkifoiaa
open Go Go.L

theorem split44 : ∀ {x y r r' : List UInt8}, (44 : UInt8) ∉ x → (44 : UInt8) ∉ y → x ++ 44 :: r = y ++ 44 :: r' → x = y ∧ r = r'
  | [], [], r, r', _, _, h => by simpa using h
  | [], b :: y, r, r', _, hy, h => by
    simp only [List.nil_append, List.cons_append, List.cons.injEq] at h
    exact absurd (List.mem_cons.2 (.inl h.1)) hy
  | a :: x, [], r, r', hx, _, h => by
    simp only [List.nil_append, List.cons_append, List.cons.injEq] at h
    exact absurd (List.mem_cons.2 (.inl h.1.symm)) hx
  | a :: x, b :: y, r, r', hx, hy, h => by
    simp only [List.cons_append, List.cons.injEq] at h
    obtain ⟨h1, h2⟩ := split44 (fun hm => hx (List.mem_cons_of_mem _ hm)) (fun hm => hy (List.mem_cons_of_mem _ hm)) h.2
    exact ⟨by rw [h.1, h1], h2⟩

theorem dig10 (m : Nat) (h : m < 10) : (dig m).toNat = 48 + m := by simp [dig, h]; omega
theorem dig16 : ∀ m : Nat, m < 16 → 48 ≤ (dig m).toNat ∧ ∀ k : Nat, k < 16 → dig m = dig k → m = k := by decide
theorem dec_mem : ∀ (n : Nat) (x : UInt8), x ∈ dec n → 48 ≤ x.toNat := by
  intro n
  induction n using Nat.strongRecOn with
  | ind n ih =>
    intro x hx
    rw [dec] at hx
    split at hx
    · simp at hx; subst hx; exact (dig16 n (by omega)).1
    · rcases List.mem_append.1 hx with hx | hx
      · exact ih (n / 10) (by omega) x hx
      · simp at hx; subst hx; exact (dig16 _ (by omega)).1
def val (l : List UInt8) : Nat := l.foldl (fun a b => a * 10 + (b.toNat - 48)) 0
theorem val_dec : ∀ n : Nat, val (dec n) = n := by
  intro n
  induction n using Nat.strongRecOn with
  | ind n ih =>
    rw [dec]
    split
    · rename_i h; simp [val, dig10 n h]
    · rename_i h
      have := ih (n / 10) (by omega)
      unfold val at this ⊢
      rw [List.foldl_append, this]
      simp only [List.foldl_cons, List.foldl_nil]
      rw [dig10 _ (by omega)]
      omega
theorem dec_inj {a b : Nat} (h : dec a = dec b) : a = b := by rw [← val_dec a, ← val_dec b, h]

def core (n : Int) : List UInt8 := if n < 0 then 45 :: dec n.natAbs else dec n.toNat
theorem numB_core (n : Int) : numB n = core n ++ [44] := by unfold numB core; split <;> simp
theorem not44 {l : List UInt8} (h : ∀ x ∈ l, 48 ≤ x.toNat) : (44 : UInt8) ∉ l := fun hm => by have := h _ hm; simp at this
theorem core44 (n : Int) : (44 : UInt8) ∉ core n := by
  unfold core
  split
  · intro hm
    rcases List.mem_cons.1 hm with h | h
    · cases h
    · exact not44 (dec_mem _) h
  · exact not44 (dec_mem _)
theorem core_inj {a b : Int} (h : core a = core b) : a = b := by
  unfold core at h
  have hne : ∀ (n : Nat) (l : List UInt8), dec n ≠ 45 :: l := fun n l e => by
    have := dec_mem n 45 (by rw [e]; exact List.mem_cons_self ..)
    simp at this
  split at h
  · split at h
    · have := dec_inj (List.cons.inj h).2; omega
    · exact absurd h.symm (hne _ _)
  · split at h
    · exact absurd h (hne _ _)
    · have := dec_inj h; omega

theorem num_inj {a b : Int} {r r' : List UInt8} (h : numB a ++ r = numB b ++ r') : a = b ∧ r = r' := by
  rw [numB_core, numB_core] at h
  simp only [List.append_assoc, List.cons_append, List.nil_append] at h
  obtain ⟨h1, h2⟩ := split44 (core44 _) (core44 _) h
  exact ⟨core_inj h1, h2⟩
theorem truth_inj {a b : Bool} {r r' : List UInt8} (h : truthB a ++ r = truthB b ++ r') : a = b ∧ r = r' := by
  cases a <;> cases b <;> simp [truthB] at h ⊢ <;> exact h
theorem hex_mem : ∀ (l : List UInt8) (x : UInt8), x ∈ hexB l → 48 ≤ x.toNat
  | [], x, h => by simp [hexB] at h
  | b :: l, x, h => by
    have hb : b.toNat < 256 := b.toNat_lt
    simp only [hexB, List.mem_cons] at h
    rcases h with rfl | rfl | h
    · exact (dig16 _ (by omega)).1
    · exact (dig16 _ (by omega)).1
    · exact hex_mem l x h
theorem hex_inj : ∀ {a b : List UInt8}, hexB a = hexB b → a = b
  | [], [], _ => rfl
  | [], b :: l, h => by simp [hexB] at h
  | a :: l, [], h => by simp [hexB] at h
  | a :: l, b :: m, h => by
    simp only [hexB, List.cons.injEq] at h
    have ha : a.toNat < 256 := a.toNat_lt
    have hb : b.toNat < 256 := b.toNat_lt
    have h1 := (dig16 _ (by omega)).2 _ (by omega) h.1
    have h2 := (dig16 _ (by omega)).2 _ (by omega) h.2.1
    have : a = b := UInt8.toNat_inj.1 (by omega)
    rw [this, hex_inj h.2.2]
theorem text_inj {a b r r' : List UInt8} (h : textB a ++ r = textB b ++ r') : a = b ∧ r = r' := by
  simp only [textB, List.append_assoc, List.cons_append, List.nil_append] at h
  obtain ⟨h1, h2⟩ := split44 (not44 (hex_mem _)) (not44 (hex_mem _)) h
  exact ⟨hex_inj h1, h2⟩
theorem link_inj {a b : LinkS} {r r' : List UInt8} (h : linkB a ++ r = linkB b ++ r') : a = b ∧ r = r' := by
  simp only [linkB, List.append_assoc] at h
  obtain ⟨h1, h⟩ := num_inj h
  obtain ⟨h2, h⟩ := num_inj h
  obtain ⟨h3, h⟩ := num_inj h
  obtain ⟨h4, h⟩ := truth_inj h
  obtain ⟨h5, h⟩ := truth_inj h
  obtain ⟨h6, h⟩ := num_inj h
  obtain ⟨h7, h⟩ := text_inj h
  exact ⟨link_ext.2 ⟨h1, h2, h3, h4, h5, h6, h7⟩, h⟩
theorem login_inj {a b : LoginS} {r r' : List UInt8} (h : loginB a ++ r = loginB b ++ r') : a = b ∧ r = r' := by
  simp only [loginB, List.append_assoc] at h
  obtain ⟨h1, h⟩ := num_inj h
  obtain ⟨h2, h⟩ := num_inj h
  obtain ⟨h3, h⟩ := truth_inj h
  obtain ⟨h4, h⟩ := truth_inj h
  obtain ⟨h5, h⟩ := truth_inj h
  obtain ⟨h6, h⟩ := num_inj h
  obtain ⟨h7, h⟩ := text_inj h
  obtain ⟨h8, h⟩ := truth_inj h
  obtain ⟨h9, h⟩ := num_inj h
  exact ⟨login_ext.2 ⟨h1, h2, h3, h4, h5, h6, h7, h8, h9⟩, h⟩
theorem due_inj {a b : DueS} {r r' : List UInt8} (h : dueB a ++ r = dueB b ++ r') : a = b ∧ r = r' := by
  simp only [dueB, List.append_assoc] at h
  obtain ⟨h1, h⟩ := num_inj h
  obtain ⟨h2, h⟩ := num_inj h
  obtain ⟨h3, h⟩ := num_inj h
  obtain ⟨h4, h⟩ := text_inj h
  exact ⟨due_ext.2 ⟨h1, h2, h3, h4⟩, h⟩
theorem dues_inj : ∀ {a b : List DueS}, a.length = b.length → duesB a = duesB b → a = b
  | [], [], _, _ => rfl
  | [], b :: l, h, _ => by simp at h
  | a :: l, [], h, _ => by simp at h
  | a :: l, b :: m, hl, h => by
    simp only [duesB] at h
    obtain ⟨h1, h2⟩ := due_inj h
    rw [h1, dues_inj (by simpa using hl) h2]
/-- ONE KEY JUST WHERE ALIKE. -/
theorem key_inj (a b : StateS) : keyB a = keyB b ↔ Alike a b := by
  constructor
  · intro h
    simp only [keyB] at h
    obtain ⟨h1, h⟩ := link_inj h
    obtain ⟨h2, h⟩ := link_inj h
    obtain ⟨h3, h⟩ := link_inj h
    obtain ⟨h4, h⟩ := login_inj h
    obtain ⟨h5, h⟩ := num_inj h
    exact ⟨⟨h1, h2, h3⟩, h4, dues_inj (by omega) h⟩
  · rintro ⟨⟨h1, h2, h3⟩, h4, h5⟩
    simp only [keyB, h1, h2, h3, h4, h5]
end Go.Proofs.Ytbljgbojkifoiaa
