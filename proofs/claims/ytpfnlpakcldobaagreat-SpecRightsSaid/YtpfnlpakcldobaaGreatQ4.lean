/- Endpoints and configs that are handed in. -/
import Derived.Test.YtpfnlpakcldobaaGreatQ3
import Derived.Test.YtpfnlpakcldobaaGreatLH
import Derived.Test.YtpfnlpakcldobaaGreatRows
import Derived.Test.YtpfnlpakcldobaaGreatProg
import Derived.KernelRfl
set_option linter.unusedVariables false
set_option linter.unusedSimpArgs false
set_option maxRecDepth 100000
namespace Go.Proofs.YtpfnlpakcldobaaGreat
open Go Go.L

/-- A state as it is handed in. -/
def StateS.given (s : StateS) : Prop := s.ok ∧ s.o = .sh ∧ s.m = 4
theorem wf_i64 {n : Int} (h : (Lit.int .i64 n).wf = true) : i64 n := by
  simp only [Lit.wf, Bool.and_eq_true, decide_eq_true_eq, IntKind.min, IntKind.max, IntKind.signed, IntKind.bits] at h
  simp at h
  exact ⟨by omega, by omega⟩

theorem sh3 : shapeT Tryz.prog 3 = .int .i64 := by kernel_rfl
theorem sh4 : shapeT Tryz.prog 4 = .bool := by kernel_rfl
theorem sh9 : shapeT Tryz.prog 9 = .str := by kernel_rfl
theorem sh22 : shapeT Tryz.prog 22 = .int .u32 := by kernel_rfl
theorem sh24 : shapeT Tryz.prog 24 = .fields [3, 3, 3, 3, 9, 9, 3, 22, 4] := by kernel_rfl
theorem sh26 : shapeT Tryz.prog 26 = .fields [3, 3] := by kernel_rfl
theorem sh28 : shapeT Tryz.prog 28 = .fields [26, 3, 4, 4, 3, 9] := by kernel_rfl
theorem sh29 : shapeT Tryz.prog 29 = .fields [28, 28, 28] := by kernel_rfl
theorem sh31 : shapeT Tryz.prog 31 = .fields [3, 3, 4, 4, 4, 3, 9, 4, 3] := by kernel_rfl
theorem sh32 : shapeT Tryz.prog 32 = .slice 51 4 true := by kernel_rfl
theorem sh34 : shapeT Tryz.prog 34 = .fields [29, 31, 32] := by kernel_rfl
theorem sh51 : shapeT Tryz.prog 51 = .fields [3, 3, 3, 9] := by kernel_rfl

theorem rd_int {d : Nat} {us : List LVal} (h : Rd Tryz.prog (d + 1) 3 us) : ∃ n, us = [.int .i64 n] ∧ i64 n := by
  obtain ⟨n, h1, h2⟩ := Rd_shape h sh3
  exact ⟨n, h1, wf_i64 h2⟩
theorem rd_u32 {d : Nat} {us : List LVal} (h : Rd Tryz.prog (d + 1) 22 us) : ∃ n, us = [.int .u32 n] := by
  obtain ⟨n, h1, h2⟩ := Rd_shape h sh22
  exact ⟨n, h1⟩
theorem rd_bool {d : Nat} {us : List LVal} (h : Rd Tryz.prog (d + 1) 4 us) : ∃ b, us = [.bool b] := Rd_shape h sh4
theorem rd_str {d : Nat} {us : List LVal} (h : Rd Tryz.prog (d + 1) 9 us) : ∃ s, us = [.str s] ∧ s.length ≤ maxLen := Rd_shape h sh9
theorem rd_conf {d : Nat} {us : List LVal} (h : Rd Tryz.prog (d + 2) 24 us) : ∃ c : ConfS, us = c.cells ∧ i64 c.mc ∧ i64 c.mt ∧ i64 c.mf ∧ i64 c.mru := by
  obtain ⟨a, _, rfl, ha, b, _, rfl, hb, c, _, rfl, hc, e, _, rfl, he, f, _, rfl, hf, g, _, rfl, hg, i, _, rfl, hi, j, _, rfl, hj, k, _, rfl, hk, rfl⟩ := Rd_shape h sh24
  obtain ⟨n1, rfl, k1⟩ := rd_int ha
  obtain ⟨n2, rfl, k2⟩ := rd_int hb
  obtain ⟨n3, rfl, k3⟩ := rd_int hc
  obtain ⟨n4, rfl, k4⟩ := rd_int he
  obtain ⟨n5, rfl, _⟩ := rd_str hf
  obtain ⟨n6, rfl, _⟩ := rd_str hg
  obtain ⟨n7, rfl, _⟩ := rd_int hi
  obtain ⟨n8, rfl⟩ := rd_u32 hj
  obtain ⟨n9, rfl⟩ := rd_bool hk
  exact ⟨⟨n1, n2, n3, n4, n5, n6, n7, n8, n9⟩, rfl, k1, k2, k3, k4⟩
theorem rd_link {d : Nat} {us : List LVal} (h : Rd Tryz.prog (d + 3) 28 us) : ∃ l : LinkS, us = l.cells ∧ l.ok := by
  obtain ⟨a, _, rfl, ha, b, _, rfl, hb, c, _, rfl, hc, e, _, rfl, he, f, _, rfl, hf, g, _, rfl, hg, rfl⟩ := Rd_shape h sh28
  obtain ⟨a1, _, rfl, ha1, a2, _, rfl, ha2, rfl⟩ := Rd_shape ha sh26
  obtain ⟨n1, rfl, k1⟩ := rd_int ha1
  obtain ⟨n2, rfl, k2⟩ := rd_int ha2
  obtain ⟨n3, rfl, k3⟩ := rd_int hb
  obtain ⟨n4, rfl⟩ := rd_bool hc
  obtain ⟨n5, rfl⟩ := rd_bool he
  obtain ⟨n6, rfl, k6⟩ := rd_int hf
  obtain ⟨n7, rfl, k7⟩ := rd_str hg
  exact ⟨⟨n1, n2, n3, n4, n5, n6, n7⟩, rfl, k1, k2, k3, k6⟩
theorem rd_login {d : Nat} {us : List LVal} (h : Rd Tryz.prog (d + 2) 31 us) : ∃ l : LoginS, us = l.cells ∧ l.ok := by
  obtain ⟨a, _, rfl, ha, b, _, rfl, hb, c, _, rfl, hc, e, _, rfl, he, f, _, rfl, hf, g, _, rfl, hg, i, _, rfl, hi, j, _, rfl, hj, k, _, rfl, hk, rfl⟩ := Rd_shape h sh31
  obtain ⟨n1, rfl, k1⟩ := rd_int ha
  obtain ⟨n2, rfl, k2⟩ := rd_int hb
  obtain ⟨n3, rfl⟩ := rd_bool hc
  obtain ⟨n4, rfl⟩ := rd_bool he
  obtain ⟨n5, rfl⟩ := rd_bool hf
  obtain ⟨n6, rfl, k6⟩ := rd_int hg
  obtain ⟨n7, rfl, k7⟩ := rd_str hi
  obtain ⟨n8, rfl⟩ := rd_bool hj
  obtain ⟨n9, rfl, k9⟩ := rd_int hk
  exact ⟨⟨n1, n2, n3, n4, n5, n6, n7, n8, n9⟩, rfl, k1, k2, k6, k9⟩
theorem rd_due {d : Nat} {us : List LVal} (h : Rd Tryz.prog (d + 2) 51 us) : ∃ l : DueS, us = l.cells ∧ l.ok := by
  obtain ⟨a, _, rfl, ha, b, _, rfl, hb, c, _, rfl, hc, e, _, rfl, he, rfl⟩ := Rd_shape h sh51
  obtain ⟨n1, rfl, k1⟩ := rd_int ha
  obtain ⟨n2, rfl, k2⟩ := rd_int hb
  obtain ⟨n3, rfl, k3⟩ := rd_int hc
  obtain ⟨n4, rfl, k4⟩ := rd_str he
  exact ⟨⟨n1, n2, n3, n4⟩, rfl, k1, k2, k3⟩
theorem rd_dues {d : Nat} : ∀ {xs : List LVal}, (∀ x ∈ xs, x.isAgg = true ∧ x.cells.length = 4 ∧ Rd Tryz.prog (d + 2) 51 x.cells) → ∃ l : List DueS, xs = duesL l ∧ ∀ e ∈ l, e.ok
  | [], _ => ⟨[], rfl, fun e he => by simp at he⟩
  | x :: xs, h => by
    obtain ⟨h1, h2, h3⟩ := h x (List.mem_cons_self ..)
    obtain ⟨e, k1, k2⟩ := rd_due h3
    obtain ⟨l, m1, m2⟩ := rd_dues (fun y hy => h y (List.mem_cons_of_mem _ hy))
    refine ⟨e :: l, ?_, fun y hy => ?_⟩
    · cases x <;> simp [LVal.isAgg] at h1
      rw [m1]
      simp only [LVal.cells] at k1
      rw [k1]; rfl
    · rcases List.mem_cons.1 hy with rfl | hy
      · exact k2
      · exact m2 y hy
theorem rd_state {d : Nat} {us : List LVal} (h : Rd Tryz.prog (d + 5) 34 us) : ∃ s : StateS, us = s.cells ∧ s.given := by
  obtain ⟨a, _, rfl, ha, b, _, rfl, hb, c, _, rfl, hc, rfl⟩ := Rd_shape h sh34
  obtain ⟨a1, _, rfl, ha1, a2, _, rfl, ha2, a3, _, rfl, ha3, rfl⟩ := Rd_shape ha sh29
  obtain ⟨l0, rfl, k0⟩ := rd_link ha1
  obtain ⟨l1, rfl, k1⟩ := rd_link ha2
  obtain ⟨l2, rfl, k2⟩ := rd_link ha3
  obtain ⟨lg, rfl, k3⟩ := rd_login (d := d + 2) hb
  obtain ⟨n, xs, rfl, k4, k5, k6⟩ := Rd_shape hc sh32
  obtain ⟨l, rfl, k7⟩ := rd_dues (d := d + 1) k6
  refine ⟨⟨l0, l1, l2, lg, n, .sh, 4, l⟩, rfl, ⟨k0, k1, k2, k3, k7, fun hn => ?_, .inl rfl, fun _ => rfl⟩, rfl, rfl⟩
  have := k4 hn
  simpa [duesL] using this
end Go.Proofs.YtpfnlpakcldobaaGreat
