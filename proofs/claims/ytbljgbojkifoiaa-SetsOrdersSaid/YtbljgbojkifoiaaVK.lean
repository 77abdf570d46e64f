/- Sets, plainly: the document's set and the program's have the same keys, in order. -/
import Derived.Test.YtbljgbojkifoiaaVJ
set_option linter.unusedVariables false
set_option linter.unusedSimpArgs false
namespace Go.Proofs.Ytbljgbojkifoiaa
open Go Go.L

abbrev SS (l : List (List UInt8)) : Prop := l.Pairwise (· < ·)

theorem lt_tri {a b : List UInt8} (h : ¬ a < b) (hne : a ≠ b) : b < a := by
  by_cases h' : b < a
  · exact h'
  · exact absurd (List.le_antisymm (List.not_lt.1 h') (List.not_lt.1 h)) hne
theorem lt_ne {a b : List UInt8} (h : a < b) : a ≠ b := fun e => by rw [e] at h; exact List.lt_irrefl _ h

theorem SS.eq : ∀ {a b : List (List UInt8)}, SS a → SS b → (∀ x, x ∈ a ↔ x ∈ b) → a = b
  | [], [], _, _, _ => rfl
  | [], y :: b, _, _, h => absurd ((h y).2 (List.mem_cons_self ..)) (by simp)
  | x :: a, [], _, _, h => absurd ((h x).1 (List.mem_cons_self ..)) (by simp)
  | x :: a, y :: b, ha, hb, h => by
    obtain ⟨a1, a2⟩ := List.pairwise_cons.1 ha
    obtain ⟨b1, b2⟩ := List.pairwise_cons.1 hb
    have hxy : x = y := by
      rcases List.mem_cons.1 ((h x).1 (List.mem_cons_self ..)) with h1 | h1
      · exact h1
      · rcases List.mem_cons.1 ((h y).2 (List.mem_cons_self ..)) with h2 | h2
        · exact h2.symm
        · exact absurd (List.lt_trans (a1 y h2) (b1 x h1)) (List.lt_irrefl _)
    subst hxy
    congr 1
    refine SS.eq a2 b2 fun z => ?_
    constructor
    · intro hz
      rcases List.mem_cons.1 ((h z).1 (List.mem_cons_of_mem _ hz)) with h1 | h1
      · exact absurd rfl (h1 ▸ lt_ne (a1 z hz))
      · exact h1
    · intro hz
      rcases List.mem_cons.1 ((h z).2 (List.mem_cons_of_mem _ hz)) with h1 | h1
      · exact absurd rfl (h1 ▸ lt_ne (b1 z hz))
      · exact h1

theorem isFrom_iff : ∀ {a : StateS} {l : List StateS}, isFrom a l = true ↔ SS ((a :: l).map keyB)
  | a, [] => by simp [isFrom]
  | a, b :: l => by
    have ih := isFrom_iff (a := b) (l := l)
    simp only [isFrom, Bool.and_eq_true, decide_eq_true_eq, ih]
    constructor
    · rintro ⟨h1, h2⟩
      refine List.pairwise_cons.2 ⟨?_, h2⟩
      intro x hx
      simp only [List.map_cons, List.mem_cons] at hx
      rcases hx with rfl | hx
      · exact h1
      · exact List.lt_trans h1 ((List.pairwise_cons.1 h2).1 x hx)
    · intro h
      obtain ⟨h1, h2⟩ := List.pairwise_cons.1 h
      exact ⟨h1 _ (by simp), h2⟩
theorem isS_iff {l : List StateS} : isS l = true ↔ SS (l.map keyB) := by
  cases l with
  | nil => simp [isS]
  | cons a l => exact isFrom_iff

/-- Where it belongs. -/
def insS (s : StateS) : List StateS → List StateS
  | [] => [s]
  | x :: l => if keyB x = keyB s then x :: l else if keyB s < keyB x then s :: x :: l else x :: insS s l

theorem scanW_true {s : StateS} : ∀ (l acc : List StateS), (∀ x ∈ l, keyB x ≠ keyB s) → scanW s l true acc = some (true, acc ++ l)
  | [], acc, _ => by simp [scanW]
  | x :: l, acc, h => by
    have h1 := h x (List.mem_cons_self ..)
    simp only [scanW, if_neg h1]
    rw [if_neg (by simp), scanW_true l _ (fun y hy => h y (List.mem_cons_of_mem _ hy))]
    simp

theorem scanW_false {s : StateS} : ∀ (l acc : List StateS), SS (l.map keyB) → (scanW s l false acc = none ∧ insS s l = l) ∨ (∃ o, scanW s l false acc = some (true, o) ∧ o = acc ++ insS s l) ∨ (∃ o, scanW s l false acc = some (false, o) ∧ o ++ [s] = acc ++ insS s l)
  | [], acc, _ => .inr (.inr ⟨acc, rfl, rfl⟩)
  | x :: l, acc, h => by
    obtain ⟨h1, h2⟩ := List.pairwise_cons.1 h
    simp only [scanW, insS]
    by_cases hx : keyB x = keyB s
    · exact .inl ⟨by simp [hx], by simp [hx]⟩
    · simp only [if_neg hx]
      by_cases hlt : keyB s < keyB x
      · refine .inr (.inl ⟨_, ?_, rfl⟩)
        simp only [hlt, and_self, if_true]
        rw [scanW_true]
        · simp
        · intro y hy
          have : keyB x < keyB y := h1 _ (List.mem_map.2 ⟨y, hy, rfl⟩)
          exact (lt_ne (List.lt_trans hlt this)).symm
      · simp only [hlt, and_false, if_false]
        rcases scanW_false l (acc ++ [x]) h2 with ⟨a1, a2⟩ | ⟨o, a1, a2⟩ | ⟨o, a1, a2⟩
        · exact .inl ⟨a1, by rw [a2]⟩
        · exact .inr (.inl ⟨o, a1, by rw [a2]; simp⟩)
        · exact .inr (.inr ⟨o, a1, by rw [a2]; simp⟩)

theorem withS_ins {l : List StateS} (s : StateS) (h : SS (l.map keyB)) : withS l s = insS s l := by
  simp only [withS]
  rcases scanW_false (s := s) l [] h with ⟨a1, a2⟩ | ⟨o, a1, a2⟩ | ⟨o, a1, a2⟩
  · rw [a1, a2]
  · rw [a1]
    simpa using a2
  · rw [a1]
    simpa using a2

theorem insS_mem {s : StateS} {k : List UInt8} : ∀ {l : List StateS}, k ∈ (insS s l).map keyB ↔ k = keyB s ∨ k ∈ l.map keyB
  | [] => by simp [insS]
  | x :: l => by
    have ih := insS_mem (s := s) (k := k) (l := l)
    simp only [insS]
    by_cases hx : keyB x = keyB s
    · rw [if_pos hx]
      simp only [List.map_cons, List.mem_cons, hx]
      constructor
      · exact fun h => .inr h
      · rintro (h | h)
        · exact .inl h
        · exact h
    · simp only [if_neg hx]
      by_cases hlt : keyB s < keyB x
      · simp only [if_pos hlt, List.map_cons, List.mem_cons]
      · simp only [if_neg hlt, List.map_cons, List.mem_cons, ih]
        constructor
        · rintro (h | h | h) <;> simp [h]
        · rintro (h | h | h) <;> simp [h]

theorem insS_SS {s : StateS} : ∀ {l : List StateS}, SS (l.map keyB) → SS ((insS s l).map keyB)
  | [], _ => by simp [insS]
  | x :: l, h => by
    obtain ⟨h1, h2⟩ := List.pairwise_cons.1 h
    have ih := insS_SS (s := s) h2
    simp only [insS]
    by_cases hx : keyB x = keyB s
    · simp only [if_pos hx]
      exact h
    · simp only [if_neg hx]
      by_cases hlt : keyB s < keyB x
      · simp only [if_pos hlt, List.map_cons]
        refine List.pairwise_cons.2 ⟨?_, h⟩
        intro y hy
        rcases List.mem_cons.1 hy with rfl | hy
        · exact hlt
        · exact List.lt_trans hlt (h1 y hy)
      · simp only [if_neg hlt, List.map_cons]
        refine List.pairwise_cons.2 ⟨?_, ih⟩
        intro y hy
        rcases insS_mem.1 hy with rfl | hy
        · exact lt_tri hlt (fun e => hx e.symm)
        · exact h1 y hy

theorem foldW_keys : ∀ (l acc : List StateS), SS (acc.map keyB) → SS ((l.foldl withS acc).map keyB) ∧ ∀ k, k ∈ (l.foldl withS acc).map keyB ↔ k ∈ acc.map keyB ∨ k ∈ l.map keyB
  | [], acc, h => ⟨h, by simp⟩
  | x :: l, acc, h => by
    have h1 : SS ((withS acc x).map keyB) := by rw [withS_ins x h]; exact insS_SS h
    obtain ⟨a1, a2⟩ := foldW_keys l (withS acc x) h1
    refine ⟨a1, fun k => ?_⟩
    rw [List.foldl_cons, a2 k, withS_ins x h, insS_mem]
    simp only [List.map_cons, List.mem_cons]
    constructor
    · rintro ((h | h) | h) <;> simp [h]
    · rintro (h | h | h) <;> simp [h]

theorem ofS_keys (l : List StateS) : SS ((ofS l).map keyB) ∧ ∀ k, k ∈ (ofS l).map keyB ↔ k ∈ l.map keyB := by
  obtain ⟨h1, h2⟩ := foldW_keys l [] List.Pairwise.nil
  exact ⟨h1, fun k => by rw [ofS, h2 k]; simp⟩

theorem insK_SS {k : List UInt8} : ∀ {l : List (List UInt8)}, SS l → k ∉ l → SS (D.insK k l)
  | [], _, _ => by simp [D.insK]
  | x :: l, h, hk => by
    obtain ⟨h1, h2⟩ := List.pairwise_cons.1 h
    simp only [List.mem_cons, not_or] at hk
    simp only [D.insK]
    by_cases hle : k ≤ x
    · simp only [if_pos hle]
      have hlt : k < x := lt_tri (List.not_lt.2 hle) (fun e => hk.1 e.symm)
      refine List.pairwise_cons.2 ⟨?_, h⟩
      intro y hy
      rcases List.mem_cons.1 hy with rfl | hy
      · exact hlt
      · exact List.lt_trans hlt (h1 y hy)
    · simp only [if_neg hle]
      have hlt : x < k := by
        by_cases hx : x < k
        · exact hx
        · exact absurd (List.not_lt.1 hx) hle
      refine List.pairwise_cons.2 ⟨?_, insK_SS h2 hk.2⟩
      intro y hy
      rcases mem_insK.1 hy with rfl | hy
      · exact hlt
      · exact h1 y hy
theorem sortK_SS : ∀ {l : List (List UInt8)}, l.Nodup → SS (D.sortK l)
  | [], _ => List.Pairwise.nil
  | k :: l, h => by
    obtain ⟨h1, h2⟩ := List.nodup_cons.1 h
    exact insK_SS (sortK_SS h2) (fun hm => h1 (mem_sortK.1 hm))

theorem putS_keys {s : StateS} {k : List UInt8} : ∀ {m : List StateS}, k ∈ (putS s m).map keyB ↔ k = keyB s ∨ k ∈ m.map keyB
  | [] => by simp [putS]
  | x :: m => by
    have ih := putS_keys (s := s) (k := k) (m := m)
    simp only [putS]
    by_cases hx : keyB s = keyB x
    · rw [if_pos hx]
      simp only [List.map_cons, List.mem_cons, hx]
      constructor
      · exact fun h => .inr h
      · rintro (h | h)
        · exact .inl h
        · exact h
    · simp only [if_neg hx, List.map_cons, List.mem_cons, ih]
      constructor
      · rintro (h | h | h) <;> simp [h]
      · rintro (h | h | h) <;> simp [h]
theorem putS_nodup {s : StateS} : ∀ {m : List StateS}, (m.map keyB).Nodup → ((putS s m).map keyB).Nodup
  | [], _ => by simp [putS]
  | x :: m, h => by
    obtain ⟨h1, h2⟩ := List.nodup_cons.1 h
    simp only [putS]
    by_cases hx : keyB s = keyB x
    · rw [if_pos hx]
      simp only [List.map_cons, hx]
      exact h
    · simp only [if_neg hx, List.map_cons]
      refine List.nodup_cons.2 ⟨?_, putS_nodup h2⟩
      intro hm
      rcases putS_keys.1 hm with e | e
      · exact hx e.symm
      · exact h1 e
theorem foldP_keys : ∀ (l acc : List StateS), (acc.map keyB).Nodup → ((l.foldl (fun m s => putS s m) acc).map keyB).Nodup ∧ ∀ k, k ∈ (l.foldl (fun m s => putS s m) acc).map keyB ↔ k ∈ acc.map keyB ∨ k ∈ l.map keyB
  | [], acc, h => ⟨h, by simp⟩
  | x :: l, acc, h => by
    obtain ⟨a1, a2⟩ := foldP_keys l (putS x acc) (putS_nodup h)
    refine ⟨a1, fun k => ?_⟩
    rw [List.foldl_cons, a2 k, putS_keys]
    simp only [List.map_cons, List.mem_cons]
    constructor
    · rintro ((h | h) | h) <;> simp [h]
    · rintro (h | h | h) <;> simp [h]

theorem setS_keys (l : List StateS) : (setS l).map keyB = (ofS l).map keyB := by
  obtain ⟨h1, h2⟩ := ofS_keys l
  obtain ⟨h3, h4⟩ := foldP_keys l [] List.nodup_nil
  refine SS.eq ?_ h1 fun k => ?_
  · rw [setS, byKeyS_keys]
    exact sortK_SS h3
  · rw [setS, byKeyS_keys, mem_sortK, h2 k, mapS, h4 k]
    simp

/-- What the law asks. -/
theorem setsOf_law (l : List StateS) : sameS (setS l) (ofS l) = true ∧ isS l = sameS l (ofS l) ∧ isS (ofS l) = true := by
  obtain ⟨h1, h2⟩ := ofS_keys l
  refine ⟨by simp [sameS, setS_keys], ?_, isS_iff.2 h1⟩
  rw [Bool.eq_iff_iff, isS_iff]
  simp only [sameS, beq_iff_eq]
  constructor
  · intro h
    exact SS.eq h h1 fun k => (h2 k).symm
  · intro h
    rw [h]
    exact h1
end Go.Proofs.Ytbljgbojkifoiaa
