/- Texts 17. -/
import Derived.Test.YtbljgbojkifoiaaKVE
import Derived.Test.YtbljgbojkifoiaaKVD
import Derived.Test.YtbljgbojkifoiaaKVB
import Derived.Test.YtbljgbojkifoiaaKVC
import Derived.Test.YtbljgbojkifoiaaKLH
import Derived.Test.YtbljgbojkifoiaaKTblOk
import Derived.Test.YtbljgbojkifoiaaRows
set_option linter.unusedVariables false
set_option linter.unusedSimpArgs false
set_option maxRecDepth 100000
namespace Go.Proofs.Ytbljgbojkifoiaa
open Go Go.L

/-- A state as it is handed in. -/
def StateS.given (s : StateS) : Prop := s.ok ∧ s.o = .sh ∧ s.m = 4
theorem wf_i64 {n : Int} (h : (Lit.int .i64 n).wf = true) : i64 n := by
  simp only [Lit.wf, Bool.and_eq_true, decide_eq_true_eq, IntKind.min, IntKind.max, IntKind.signed, IntKind.bits] at h
  simp at h
  exact ⟨by omega, by omega⟩

theorem sh3 : shapeT Try.prog 3 = .int .i64 := by kernel_rfl
theorem sh4 : shapeT Try.prog 4 = .bool := by kernel_rfl
theorem sh9 : shapeT Try.prog 9 = .str := by kernel_rfl
theorem sh23 : shapeT Try.prog 23 = .fields [3, 3] := by kernel_rfl
theorem sh25 : shapeT Try.prog 25 = .fields [23, 3, 4, 4, 3, 9] := by kernel_rfl
theorem sh26 : shapeT Try.prog 26 = .fields [25, 25, 25] := by kernel_rfl
theorem sh28 : shapeT Try.prog 28 = .fields [3, 3, 4, 4, 4, 3, 9, 4, 3] := by kernel_rfl
theorem sh29 : shapeT Try.prog 29 = .slice 43 4 true := by kernel_rfl
theorem sh31 : shapeT Try.prog 31 = .fields [26, 28, 29] := by kernel_rfl
theorem sh34 : shapeT Try.prog 34 = .slice 31 31 true := by kernel_rfl
theorem sh43 : shapeT Try.prog 43 = .fields [3, 3, 3, 9] := by kernel_rfl

theorem rd_int {d : Nat} {us : List LVal} (h : Rd Try.prog (d + 1) 3 us) : ∃ n, us = [.int .i64 n] ∧ i64 n := by
  obtain ⟨n, h1, h2⟩ := Rd_shape h sh3
  exact ⟨n, h1, wf_i64 h2⟩
theorem rd_bool {d : Nat} {us : List LVal} (h : Rd Try.prog (d + 1) 4 us) : ∃ b, us = [.bool b] := Rd_shape h sh4
theorem rd_str {d : Nat} {us : List LVal} (h : Rd Try.prog (d + 1) 9 us) : ∃ s, us = [.str s] ∧ s.length ≤ maxLen := Rd_shape h sh9
theorem rd_link {d : Nat} {us : List LVal} (h : Rd Try.prog (d + 3) 25 us) : ∃ l : LinkS, us = l.cells ∧ l.ok := by
  obtain ⟨a, _, rfl, ha, b, _, rfl, hb, c, _, rfl, hc, e, _, rfl, he, f, _, rfl, hf, g, _, rfl, hg, rfl⟩ := Rd_shape h sh25
  obtain ⟨a1, _, rfl, ha1, a2, _, rfl, ha2, rfl⟩ := Rd_shape ha sh23
  obtain ⟨n1, rfl, k1⟩ := rd_int ha1
  obtain ⟨n2, rfl, k2⟩ := rd_int ha2
  obtain ⟨n3, rfl, k3⟩ := rd_int hb
  obtain ⟨n4, rfl⟩ := rd_bool hc
  obtain ⟨n5, rfl⟩ := rd_bool he
  obtain ⟨n6, rfl, k6⟩ := rd_int hf
  obtain ⟨n7, rfl, k7⟩ := rd_str hg
  exact ⟨⟨n1, n2, n3, n4, n5, n6, n7⟩, rfl, k1, k2, k3, k6⟩
theorem rd_login {d : Nat} {us : List LVal} (h : Rd Try.prog (d + 2) 28 us) : ∃ l : LoginS, us = l.cells ∧ l.ok := by
  obtain ⟨a, _, rfl, ha, b, _, rfl, hb, c, _, rfl, hc, e, _, rfl, he, f, _, rfl, hf, g, _, rfl, hg, i, _, rfl, hi, j, _, rfl, hj, k, _, rfl, hk, rfl⟩ := Rd_shape h sh28
  obtain ⟨n1, rfl, k1⟩ := rd_int ha
  obtain ⟨n2, rfl, k2⟩ := rd_int hb
  obtain ⟨n3, rfl⟩ := rd_bool hc
  obtain ⟨n4, rfl⟩ := rd_bool he
  obtain ⟨n5, rfl⟩ := rd_bool hf
  obtain ⟨n6, rfl, k6⟩ := rd_int hg
  obtain ⟨n7, rfl, k7⟩ := rd_str hi
  obtain ⟨n8, rfl⟩ := rd_bool hj
  obtain ⟨n9, rfl, k9⟩ := rd_int hk
  exact ⟨⟨n1, n2, n3, n4, n5, n6, n7, n8, n9⟩, rfl, k1, k2, k6, k9⟩
theorem rd_due {d : Nat} {us : List LVal} (h : Rd Try.prog (d + 2) 43 us) : ∃ l : DueS, us = l.cells ∧ l.ok := by
  obtain ⟨a, _, rfl, ha, b, _, rfl, hb, c, _, rfl, hc, e, _, rfl, he, rfl⟩ := Rd_shape h sh43
  obtain ⟨n1, rfl, k1⟩ := rd_int ha
  obtain ⟨n2, rfl, k2⟩ := rd_int hb
  obtain ⟨n3, rfl, k3⟩ := rd_int hc
  obtain ⟨n4, rfl, k4⟩ := rd_str he
  exact ⟨⟨n1, n2, n3, n4⟩, rfl, k1, k2, k3⟩
theorem rd_dues {d : Nat} : ∀ {xs : List LVal}, (∀ x ∈ xs, x.isAgg = true ∧ x.cells.length = 4 ∧ Rd Try.prog (d + 2) 43 x.cells) → ∃ l : List DueS, xs = duesL l ∧ ∀ e ∈ l, e.ok
  | [], _ => ⟨[], rfl, fun e he => by simp at he⟩
  | x :: xs, h => by
    obtain ⟨h1, h2, h3⟩ := h x (List.mem_cons_self ..)
    obtain ⟨e, k1, k2⟩ := rd_due h3
    obtain ⟨l, m1, m2⟩ := rd_dues (fun y hy => h y (List.mem_cons_of_mem _ hy))
    refine ⟨e :: l, ?_, fun y hy => ?_⟩
    · cases x <;> simp [LVal.isAgg] at h1
      rw [m1]
      simp only [LVal.cells] at k1
      rw [k1]; rfl
    · rcases List.mem_cons.1 hy with rfl | hy
      · exact k2
      · exact m2 y hy
theorem rd_state {d : Nat} {us : List LVal} (h : Rd Try.prog (d + 5) 31 us) : ∃ s : StateS, us = s.cells ∧ s.given := by
  obtain ⟨a, _, rfl, ha, b, _, rfl, hb, c, _, rfl, hc, rfl⟩ := Rd_shape h sh31
  obtain ⟨a1, _, rfl, ha1, a2, _, rfl, ha2, a3, _, rfl, ha3, rfl⟩ := Rd_shape ha sh26
  obtain ⟨l0, rfl, k0⟩ := rd_link ha1
  obtain ⟨l1, rfl, k1⟩ := rd_link ha2
  obtain ⟨l2, rfl, k2⟩ := rd_link ha3
  obtain ⟨lg, rfl, k3⟩ := rd_login (d := d + 2) hb
  obtain ⟨n, xs, rfl, k4, k5, k6⟩ := Rd_shape hc sh29
  obtain ⟨l, rfl, k7⟩ := rd_dues (d := d + 1) k6
  refine ⟨⟨l0, l1, l2, lg, n, .sh, 4, l⟩, rfl, ⟨k0, k1, k2, k3, k7, fun hn => ?_, .inl rfl, fun _ => rfl⟩, rfl, rfl⟩
  have := k4 hn
  simpa [duesL] using this
end Go.Proofs.Ytbljgbojkifoiaa
