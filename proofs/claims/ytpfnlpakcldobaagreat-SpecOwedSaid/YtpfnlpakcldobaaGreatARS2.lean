/- Texts of the proof: RS2. -/
import Derived.Test.YtpfnlpakcldobaaGreatARS1
import Derived.Test.YtpfnlpakcldobaaGreatARC
set_option linter.unusedVariables false
set_option linter.unusedSimpArgs false
set_option linter.unusedSectionVars false
namespace Go.Proofs.YtpfnlpakcldobaaGreat
open Go Go.L
theorem grow_eq (n : Nat) (h0 : 0 < n) (h1 : n ≤ 1000000) : zq D.M 106 [.vs true .sh 0 [], .int .i64 n] [] = some (.vs false (.own 5 true) 1 [], none) := by
 refine xJ.2 ⟨1, ?_⟩
 have h2 : (0 : Int) < n ∧ (n : Int) ≤ 1000000 := by omega
 simp only [yG, fnM106, D.hGrow]
 rw [if_pos h2]
set_option maxHeartbeats 80000000 in
theorem concat_eq (l1 l2 : List UInt8) (b : Bool) (m : Nat) (l3 : List UInt8) (h0 : 1 ≤ l1.length) (h1 : l1.length ≤ 70000) (h2 : l2.length ≤ 70000) (hw : Wb b m l3) (h3 : l3.length ≤ 70000) :
 zq D.M 96 [.vs false .sh 1 [.vs false .sh 1 (zy l1), .vs false .sh 1 (zy l2), .vs b .sh m (zy l3)]] [] = some (.vs false (.own 5 true) 1 (zy (l1 ++ l2 ++ l3)), none) := by
 have e1 := ze l1
 have e2 := ze l2
 have e3 := ze l3
 have a1 := zG 0 l1
 have a2 := zG 0 l2
 have a3 := zG 0 l3
 have p1 := zx l1
 have p2 := zx l2
 have p3 := zx l3
 have ea : zy (l1 ++ l2 ++ l3) = zy l1 ++ (zy l2 ++ zy l3) := by simp [zy]
 have kg := grow_eq (l1.length + l2.length + l3.length) (by omega) (by omega)
 simp only [Int.natCast_add] at kg
 have pa := zx (l1 ++ l2 ++ l3)
 rw [ea] at pa ⊢
 have w1 : IntKind.i64.wrap (l1.length : Int) = l1.length := vG (by omega) (by omega)
 have w2 : IntKind.i64.wrap ((l1.length : Int) + l2.length) = (l1.length : Int) + l2.length := vG (by omega) (by omega)
 have w3 : IntKind.i64.wrap ((l1.length : Int) + l2.length + l3.length) = (l1.length : Int) + l2.length + l3.length := vG (by omega) (by omega)
 have c1 : ¬ (l1.length : Int) < 0 := by omega
 have c2 : ¬ ((l1.length : Int) + l2.length) < 0 := by omega
 have c3 : ¬ ((l1.length : Int) + l2.length + l3.length) < 0 := by omega
 have wk1 : IntKind.i64.wrap 1 = 1 ∧ IntKind.i64.wrap 2 = 2 ∧ IntKind.i64.wrap 3 = 3 := ⟨rfl, rfl, rfl⟩
 have n1 : ¬ zy l1 = [] := fun e => by rw [← e1, e] at h0; simp at h0
 have s1 : l1.length ≤ 140737488355328 := by omega
 have s2 : l1.length + l2.length ≤ 140737488355328 := by omega
 have s3 : l1.length + (l2.length + l3.length) ≤ 140737488355328 := by omega
 have s4 : l1.length + l2.length + l3.length ≤ 140737488355328 := by omega
 by_cases n2 : l2 = []
 ·subst n2
  by_cases n3 : l3 = []
  ·subst n3
   simp only [List.length_nil, Int.natCast_zero, Int.add_zero, xz, List.append_nil] at *
   have F := an e1 (an a1 (an p1 (an pa (an kg (an w1 (an c1 (an wk1 (an n1 (an s1 mb')))))))))
   refine Ret.eq ?_
   exact Ret.of wkl ⟨rfl, rfl⟩
  ·obtain ⟨rfl, rfl⟩ := hw.ne n3
   have nb3 : ¬ zy l3 = [] := fun e => n3 (List.map_eq_nil_iff.1 e)
   simp only [List.length_nil, Int.natCast_zero, Int.add_zero, xz, List.append_nil, List.nil_append, Nat.zero_add] at *
   have F := an e1 (an e3 (an a1 (an a3 (an p1 (an p3 (an pa (an kg (an w1 (an w3 (an c1 (an c3 (an wk1 (an n1 (an nb3 (an s1 (an s3 mb'))))))))))))))))
   refine Ret.eq ?_
   exact Ret.of wkl ⟨rfl, rfl⟩
 ·have nb2 : ¬ zy l2 = [] := fun e => n2 (List.map_eq_nil_iff.1 e)
  by_cases n3 : l3 = []
  ·subst n3
   simp only [List.length_nil, Int.natCast_zero, Int.add_zero, xz, List.append_nil] at *
   have F := an e1 (an e2 (an a1 (an a2 (an p1 (an p2 (an pa (an kg (an w1 (an w2 (an c1 (an c2 (an wk1 (an n1 (an nb2 (an s1 (an s2 mb'))))))))))))))))
   refine Ret.eq ?_
   exact Ret.of wkl ⟨rfl, rfl⟩
  ·obtain ⟨rfl, rfl⟩ := hw.ne n3
   have nb3 : ¬ zy l3 = [] := fun e => n3 (List.map_eq_nil_iff.1 e)
   have F := an e1 (an e2 (an e3 (an a1 (an a2 (an a3 (an p1 (an p2 (an p3 (an pa (an kg (an w1 (an w2 (an w3 (an c1 (an c2 (an c3 (an wk1 (an n1 (an nb2 (an nb3 (an s1 (an s2 (an s3 (an s4 mb'))))))))))))))))))))))))
   refine Ret.eq ?_
   exact Ret.of wkl ⟨rfl, rfl⟩
end Go.Proofs.YtpfnlpakcldobaaGreat
