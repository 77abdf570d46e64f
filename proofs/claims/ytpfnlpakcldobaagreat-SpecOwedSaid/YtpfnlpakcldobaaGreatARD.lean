/- Texts of the proof: RD. -/
import Derived.Test.YtpfnlpakcldobaaGreatARC
set_option linter.unusedVariables false
set_option linter.unusedSimpArgs false
set_option linter.unusedSectionVars false
namespace Go.Proofs.YtpfnlpakcldobaaGreat
open Go Go.L
theorem fn29 : D.W.fns 29 = some (.fn D.l29) := rfl
theorem fn53 : D.W.fns 53 = some (.fn D.l53) := rfl
theorem fn44 : D.W.fns 44 = some (.fn D.l44) := rfl
theorem fn54 : D.W.fns 54 = some (.fn D.l54) := rfl
theorem fn46 : D.W.fns 46 = some (.fn D.l46) := rfl
theorem fn32 : D.W.fns 32 = some (.fn D.l32) := rfl
theorem fn16 : D.W.fns 16 = some (.fn D.l16) := rfl
theorem rY : zq D.W 29 [] [] = some (.agg [.int .i64 49185, .int .i64 32801, .int .i64 32855], none) := by
 rw [yF fn29]
 simp [D.l29, D.c29, go_sem]
def vX (p : Int) : Int := if p = 49185 then 0 else if p = 32801 then 1 else if p = 32855 then 2 else -1
set_option maxHeartbeats 4000000 in
theorem index_eq (p : Int) : zq D.W 53 [.vs false .sh 1 [.int .i64 49185, .int .i64 32801, .int .i64 32855], .int .i64 p] [] = some (.int .i64 (vX p), none) := by
 have w1 : IntKind.i64.wrap 1 = 1 := rfl
 have w2 : IntKind.i64.wrap 2 = 2 := rfl
 have w3 : IntKind.i64.wrap 3 = 3 := rfl
 refine Ret.eq ?_
 unfold vX
 by_cases h0 : p = 49185
 ·subst h0
  have F := an w1 (an w2 w3)
  refine Ret.of wkl ?_
  exact ⟨rfl, rfl⟩
 ·by_cases h1 : p = 32801
  ·subst h1
   have F := an w1 (an w2 w3)
   refine Ret.of wkl ?_
   exact ⟨rfl, rfl⟩
  ·by_cases h2 : p = 32855
   ·subst h2
    have F := an w1 (an w2 w3)
    refine Ret.of wkl ?_
    exact ⟨rfl, rfl⟩
   ·have F := an w1 (an w2 (an w3 (an h0 (an h1 h2))))
    refine Ret.of wkl ?_
    simp [h0, h1, h2]
theorem ta (p : Int) : zq D.W 44 [.int .i64 p] [] = some (.int .i64 (vX p), none) := by
 have k := index_eq p
 rw [yF fn44]
 simp [D.l44, D.c44, go_sem, rY, k]
set_option maxHeartbeats 4000000 in
theorem hmay_ex (p : Int) : ∃ b : Bool, zq D.W 54 [.int .i64 p] [] = some (.bool b, none) ∧ (b = true → 1 ≤ p ∧ p ≤ 65535) := by
 suffices h : Ret D.W 54 [.int .i64 p] [] (fun v o => o = none ∧ ∃ b : Bool, v = .bool b ∧ (b = true → 1 ≤ p ∧ p ≤ 65535)) by
  obtain ⟨v, k, b, rfl, h⟩ := h.ex
  exact ⟨b, k, h⟩
 refine yU fn54 rfl (fun _ => ?_) ?_
 ·simp [LVal.pfs, LVal.pf]
 simp only [Go.L.zc, List.map_cons, List.map_nil, Option.bind_some, Option.bind_none, Option.getD_some, Option.getD_none, List.getElem?_cons_zero, List.getElem?_cons_succ, zY.zH, if_true, Bool.false_eq_true, if_false, ite_self]
 unfold D.c54
 by_cases h1 : 1 ≤ p
 ·by_cases h2 : p ≤ 65535
  ·have F := an h1 h2
   refine agw ?_ ?_ ?_ ?_ ?_ ?_ ?_ ?_
   all_goals first | exact ⟨rfl, _, rfl, fun _ => ⟨h1, h2⟩⟩ | exact trivial
  ·have F := an h1 h2
   refine agw ?_ ?_ ?_ ?_ ?_ ?_ ?_ ?_
   all_goals first | exact ⟨rfl, _, rfl, fun e => by cases e⟩ | exact trivial
 ·have F := h1
  refine agw ?_ ?_ ?_ ?_ ?_ ?_ ?_ ?_
  all_goals first | exact ⟨rfl, _, rfl, fun e => by cases e⟩ | exact trivial
structure wN where
 dir : Int
 zd : Int
 nil : Bool
 m : Nat
 data : List UInt8
def wN.cells (x : wN) : List LVal := [.int .i64 x.dir, .int .i64 x.zd, .vs x.nil .sh x.m (zy x.data)]
def wN.ok (x : wN) : Prop := i64 x.dir ∧ i64 x.zd ∧ Wb x.nil x.m x.data
set_option maxHeartbeats 4000000 in
theorem may_ex (x : wN) : ∃ b : Bool, zq D.W 46 [.agg x.cells] [] = some (.bool b, none) ∧ (b = true → 1 ≤ x.zd ∧ x.zd ≤ 65535 ∧ x.data.length ≤ 65531) := by
 obtain ⟨hb, k, hk⟩ := hmay_ex x.zd
 have e6 := ze x.data
 suffices h : Ret D.W 46 [.agg x.cells] [] (fun v o => o = none ∧ ∃ b : Bool, v = .bool b ∧ (b = true → 1 ≤ x.zd ∧ x.zd ≤ 65535 ∧ x.data.length ≤ 65531)) by
  obtain ⟨v, k, b, rfl, h⟩ := h.ex
  exact ⟨b, k, h⟩
 unfold wN.cells
 refine yU fn46 rfl (fun _ => ?_) ?_
 ·simp [LVal.pfs, LVal.pf]
 simp only [Go.L.zc, List.map_cons, List.map_nil, Option.bind_some, Option.bind_none, Option.getD_some, Option.getD_none, List.getElem?_cons_zero, List.getElem?_cons_succ, zY.zH, if_true, Bool.false_eq_true, if_false, ite_self]
 unfold D.c46
 unfold D.r46_0
 cases hb with
 | false =>
  have F := an k e6
  refine agw ?_ ?_ ?_ ?_ ?_ ?_ ?_ ?_
  all_goals first | exact ⟨rfl, _, rfl, fun e => by cases e⟩ | exact trivial
 | true =>
  by_cases hl : (x.data.length : Int) ≤ 65531
  ·have F := an k (an e6 hl)
   refine agw ?_ ?_ ?_ ?_ ?_ ?_ ?_ ?_
   all_goals first | exact ⟨rfl, _, rfl, fun e => ⟨(hk rfl).1, (hk rfl).2, by omega⟩⟩ | exact trivial
  ·have F := an k (an e6 hl)
   refine agw ?_ ?_ ?_ ?_ ?_ ?_ ?_ ?_
   all_goals first | exact ⟨rfl, _, rfl, fun e => by cases e⟩ | exact trivial
def zl.done (l : zl) : Bool := (l.ours == 0 || l.pI) && (l.uR == 0 || l.sr)
def zD.net (s : zD) : Bool := s.l0.st == 9 && s.uM.done
set_option maxHeartbeats 4000000 in
theorem done_eq (l : zl) : zq D.W 32 [.agg l.cells] [] = some (.bool l.done, none) := by
 refine Ret.eq ?_
 unfold zl.cells zl.done
 refine yU fn32 rfl (fun _ => ?_) ?_
 ·simp [LVal.pfs, LVal.pf]
 simp only [Go.L.zc, List.map_cons, List.map_nil, Option.bind_some, Option.bind_none, Option.getD_some, Option.getD_none, List.getElem?_cons_zero, List.getElem?_cons_succ, zY.zH, if_true, Bool.false_eq_true, if_false, ite_self]
 unfold D.c32
 unfold D.r32_0
 by_cases h1 : l.ours = 0 <;> by_cases h2 : l.uR = 0
 all_goals
  (have F := an h1 h2; repeat' (first | apply wG | apply za.n | apply za.r | apply za.e | apply xH | apply Blk.n | apply Blk.r | apply Blk.e | (apply Blk.x; focus rfl) | apply uC | apply uB | apply xG | apply wc | apply vf | apply wa | apply we | apply xO | apply ve | (apply wb; focus (first | (simp [go_sem, F]; done) | (simp [go_sem, F]; rfl))) | (apply ud; focus (simp [RS.zu, F]; done)) | (apply ub; focus (simp [RS.zu, F]; done)) | (apply uf <;> first | (intro hGO; first | (exfalso; revert hGO; simp [F]; done) | skip) | (first | exact rfl | (simp [RS.zu, F]; done) | (simp [RS.zu, F]; rfl))) | (apply vR <;> first | (intro hGO; first | (exfalso; revert hGO; simp [F]; done) | skip) | (first | exact rfl | (simp [RS.zu, F]; done) | (simp [RS.zu, F]; rfl))) | (apply vU <;> first | (intro hGO; first | (exfalso; revert hGO; simp [F]; done) | skip) | (first | exact rfl | (simp [RS.zu, F]; done) | (simp [RS.zu, F]; rfl))) | (apply vQ <;> first | (intro hGO; first | (exfalso; revert hGO; simp [F]; done) | skip) | (first | exact rfl | (simp [RS.zu, F]; done) | (simp [RS.zu, F]; rfl))) | (apply vr <;> first | (intro hGO; first | (exfalso; revert hGO; simp [F]; done) | skip) | (first | exact rfl | (simp [RS.zu, F]; done) | (simp [RS.zu, F]; rfl))) | (apply xC; focus (first | (simp [go_sem, F]; done) | (simp [go_sem, F]; rfl))) | (apply yZ; focus (first | (simp [go_sem, F]; done) | (simp [go_sem, F]; rfl))) | (apply um; focus (first | (simp [go_sem, F]; done) | (simp [go_sem, F]; rfl)))))
 all_goals
  (have F : True := trivial; refine fnw ?_)
  simp_all
set_option maxHeartbeats 4000000 in
theorem jA (s : zD) (ho : s.o = .sh) : zq D.W 16 [.agg s.cells] [] = some (.bool s.net, none) := by
 have k := done_eq s.uM
 have hl : s.uM.cells = [.int .i64 s.uM.ours, .int .i64 s.uM.uR, .bool s.uM.pI, .bool s.uM.sr, .bool s.uM.open_, .int .i64 s.uM.id, .str s.uM.value, .bool s.uM.asked, .int .i64 s.uM.qq] := rfl
 rw [hl] at k
 have hp : LVal.pfs s.cells = true := rfl
 refine Ret.eq ?_
 refine yU fn16 rfl (fun _ => ?_) ?_
 ·simp [LVal.pfs, LVal.pf, hp]
 simp only [Go.L.zc, List.map_cons, List.map_nil, Option.bind_some, Option.bind_none, Option.getD_some, Option.getD_none, List.getElem?_cons_zero, List.getElem?_cons_succ, zY.zH, if_true, Bool.false_eq_true, if_false, ite_self]
 unfold D.c16
 unfold zD.cells zD.net zA.cells zl.cells
 simp only [List.cons_append, List.nil_append]
 by_cases h1 : s.l0.st = 9
 ·(have F := an h1 (an k ho); repeat' (first | apply wG | apply za.n | apply za.r | apply za.e | apply xH | apply Blk.n | apply Blk.r | apply Blk.e | (apply Blk.x; focus rfl) | apply uC | apply uB | apply xG | apply wc | apply vf | apply wa | apply we | apply xO | apply ve | (apply wb; focus (first | (simp [go_sem, F]; done) | (simp [go_sem, F]; rfl))) | (apply ud; focus (simp [RS.zu, F]; done)) | (apply ub; focus (simp [RS.zu, F]; done)) | (apply uf <;> first | (intro hGO; first | (exfalso; revert hGO; simp [F]; done) | skip) | (first | exact rfl | (simp [RS.zu, F]; done) | (simp [RS.zu, F]; rfl))) | (apply vR <;> first | (intro hGO; first | (exfalso; revert hGO; simp [F]; done) | skip) | (first | exact rfl | (simp [RS.zu, F]; done) | (simp [RS.zu, F]; rfl))) | (apply vU <;> first | (intro hGO; first | (exfalso; revert hGO; simp [F]; done) | skip) | (first | exact rfl | (simp [RS.zu, F]; done) | (simp [RS.zu, F]; rfl))) | (apply vQ <;> first | (intro hGO; first | (exfalso; revert hGO; simp [F]; done) | skip) | (first | exact rfl | (simp [RS.zu, F]; done) | (simp [RS.zu, F]; rfl))) | (apply vr <;> first | (intro hGO; first | (exfalso; revert hGO; simp [F]; done) | skip) | (first | exact rfl | (simp [RS.zu, F]; done) | (simp [RS.zu, F]; rfl))) | (apply xC; focus (first | (simp [go_sem, F]; done) | (simp [go_sem, F]; rfl))) | (apply yZ; focus (first | (simp [go_sem, F]; done) | (simp [go_sem, F]; rfl))) | (apply um; focus (first | (simp [go_sem, F]; done) | (simp [go_sem, F]; rfl)))))
  all_goals
   (have F : True := trivial; refine fnw ?_)
   simp_all
 ·(have F := an h1 (an k ho); repeat' (first | apply wG | apply za.n | apply za.r | apply za.e | apply xH | apply Blk.n | apply Blk.r | apply Blk.e | (apply Blk.x; focus rfl) | apply uC | apply uB | apply xG | apply wc | apply vf | apply wa | apply we | apply xO | apply ve | (apply wb; focus (first | (simp [go_sem, F]; done) | (simp [go_sem, F]; rfl))) | (apply ud; focus (simp [RS.zu, F]; done)) | (apply ub; focus (simp [RS.zu, F]; done)) | (apply uf <;> first | (intro hGO; first | (exfalso; revert hGO; simp [F]; done) | skip) | (first | exact rfl | (simp [RS.zu, F]; done) | (simp [RS.zu, F]; rfl))) | (apply vR <;> first | (intro hGO; first | (exfalso; revert hGO; simp [F]; done) | skip) | (first | exact rfl | (simp [RS.zu, F]; done) | (simp [RS.zu, F]; rfl))) | (apply vU <;> first | (intro hGO; first | (exfalso; revert hGO; simp [F]; done) | skip) | (first | exact rfl | (simp [RS.zu, F]; done) | (simp [RS.zu, F]; rfl))) | (apply vQ <;> first | (intro hGO; first | (exfalso; revert hGO; simp [F]; done) | skip) | (first | exact rfl | (simp [RS.zu, F]; done) | (simp [RS.zu, F]; rfl))) | (apply vr <;> first | (intro hGO; first | (exfalso; revert hGO; simp [F]; done) | skip) | (first | exact rfl | (simp [RS.zu, F]; done) | (simp [RS.zu, F]; rfl))) | (apply xC; focus (first | (simp [go_sem, F]; done) | (simp [go_sem, F]; rfl))) | (apply yZ; focus (first | (simp [go_sem, F]; done) | (simp [go_sem, F]; rfl))) | (apply um; focus (first | (simp [go_sem, F]; done) | (simp [go_sem, F]; rfl)))))
  all_goals
   (have F : True := trivial; refine fnw ?_)
   simp_all
end Go.Proofs.YtpfnlpakcldobaaGreat
