/- Texts of the proof: RK1. -/
import Derived.Test.YtpfnlpakcldobaaGreatARD
set_option linter.unusedVariables false
set_option linter.unusedSimpArgs false
set_option linter.unusedSectionVars false
namespace Go.Proofs.YtpfnlpakcldobaaGreat
open Go Go.L
theorem fn45 : D.W.fns 45 = some (.fn D.l45) := rfl
structure yp where
 kind : Int
 zd : Int
 item : wN
 vo : Bool
def yp.cells (l : yp) : List LVal := [.int .i64 l.kind, .int .i64 l.zd, .int .i64 l.item.dir, .int .i64 l.item.zd, .vs l.item.nil .sh l.item.m (zy l.item.data), .bool l.vo]
set_option maxHeartbeats 16000000 in
theorem plain_ex (l : yp) : ∃ q : Bool, zq D.W 45 [.agg l.cells] [] = some (.bool q, none) := by
 suffices h : Ret D.W 45 [.agg l.cells] [] (fun v o => o = none ∧ ∃ q : Bool, v = .bool q) by
  obtain ⟨v, k, q, rfl⟩ := h.ex
  exact ⟨q, k⟩
 have e1 := zx l.item.data
 have e2 := ze l.item.data
 have hr0 : ∀ (v2 v3 v4 : LVal) (Q : yS → RS → Prop), (∀ q : Bool, Q .normal ⟨[.agg l.cells, .ptr 0 0, v2, v3, v4, .bool q], [.cells 44 l.cells], []⟩) → Wp D.W D.r45_0 ⟨[.agg l.cells, .ptr 0 0, v2, v3, v4, .undef], [.cells 44 l.cells], []⟩ Q := by
  intro v2 v3 v4 Q h
  unfold yp.cells at *
  unfold D.r45_0
  (have F := an e1 e2; repeat' (first | apply wG | apply za.n | apply za.r | apply za.e | apply xH | apply Blk.n | apply Blk.r | apply Blk.e | (apply Blk.x; focus rfl) | apply uC | apply uB | apply xG | apply wc | apply vf | apply wa | apply we | apply xO | apply ve | (apply wb; focus (first | (simp [go_sem, F]; done) | (simp [go_sem, F]; rfl))) | (apply ud; focus (simp [RS.zu, F]; done)) | (apply ub; focus (simp [RS.zu, F]; done)) | (apply uf <;> first | (intro hGO; first | (exfalso; revert hGO; simp [F]; done) | skip) | (first | exact rfl | (simp [RS.zu, F]; done) | (simp [RS.zu, F]; rfl))) | (apply vR <;> first | (intro hGO; first | (exfalso; revert hGO; simp [F]; done) | skip) | (first | exact rfl | (simp [RS.zu, F]; done) | (simp [RS.zu, F]; rfl))) | (apply vU <;> first | (intro hGO; first | (exfalso; revert hGO; simp [F]; done) | skip) | (first | exact rfl | (simp [RS.zu, F]; done) | (simp [RS.zu, F]; rfl))) | (apply vQ <;> first | (intro hGO; first | (exfalso; revert hGO; simp [F]; done) | skip) | (first | exact rfl | (simp [RS.zu, F]; done) | (simp [RS.zu, F]; rfl))) | (apply vr <;> first | (intro hGO; first | (exfalso; revert hGO; simp [F]; done) | skip) | (first | exact rfl | (simp [RS.zu, F]; done) | (simp [RS.zu, F]; rfl))) | (apply xC; focus (first | (simp [go_sem, F]; done) | (simp [go_sem, F]; rfl))) | (apply yZ; focus (first | (simp [go_sem, F]; done) | (simp [go_sem, F]; rfl))) | (apply um; focus (first | (simp [go_sem, F]; done) | (simp [go_sem, F]; rfl)))))
  all_goals exact h _
 have hr1 : ∀ (q3 q4 q5 : Bool) (Q : yS → RS → Prop), (∀ q : Bool, Q .normal ⟨[.agg l.cells, .ptr 0 0, .bool q, .bool q3, .bool q4, .bool q5], [.cells 44 l.cells], []⟩) → Wp D.W D.r45_1 ⟨[.agg l.cells, .ptr 0 0, .bool false, .bool q3, .bool q4, .bool q5], [.cells 44 l.cells], []⟩ Q := by
  intro q3 q4 q5 Q h
  unfold yp.cells at *
  unfold D.r45_1
  (have F := an e1 e2; repeat' (first | apply wG | apply za.n | apply za.r | apply za.e | apply xH | apply Blk.n | apply Blk.r | apply Blk.e | (apply Blk.x; focus rfl) | apply uC | apply uB | apply xG | apply wc | apply vf | apply wa | apply we | apply xO | apply ve | (apply wb; focus (first | (simp [go_sem, F]; done) | (simp [go_sem, F]; rfl))) | (apply ud; focus (simp [RS.zu, F]; done)) | (apply ub; focus (simp [RS.zu, F]; done)) | (apply uf <;> first | (intro hGO; first | (exfalso; revert hGO; simp [F]; done) | skip) | (first | exact rfl | (simp [RS.zu, F]; done) | (simp [RS.zu, F]; rfl))) | (apply vR <;> first | (intro hGO; first | (exfalso; revert hGO; simp [F]; done) | skip) | (first | exact rfl | (simp [RS.zu, F]; done) | (simp [RS.zu, F]; rfl))) | (apply vU <;> first | (intro hGO; first | (exfalso; revert hGO; simp [F]; done) | skip) | (first | exact rfl | (simp [RS.zu, F]; done) | (simp [RS.zu, F]; rfl))) | (apply vQ <;> first | (intro hGO; first | (exfalso; revert hGO; simp [F]; done) | skip) | (first | exact rfl | (simp [RS.zu, F]; done) | (simp [RS.zu, F]; rfl))) | (apply vr <;> first | (intro hGO; first | (exfalso; revert hGO; simp [F]; done) | skip) | (first | exact rfl | (simp [RS.zu, F]; done) | (simp [RS.zu, F]; rfl))) | (apply xC; focus (first | (simp [go_sem, F]; done) | (simp [go_sem, F]; rfl))) | (apply yZ; focus (first | (simp [go_sem, F]; done) | (simp [go_sem, F]; rfl))) | (apply um; focus (first | (simp [go_sem, F]; done) | (simp [go_sem, F]; rfl)))))
  all_goals exact h _
 refine yU fn45 rfl (fun _ => ?_) ?_
 ·simp [LVal.pfs, LVal.pf, yp.cells]
 simp only [Go.L.zc, List.map_cons, List.map_nil, Option.bind_some, Option.bind_none, Option.getD_some, Option.getD_none, List.getElem?_cons_zero, List.getElem?_cons_succ, zY.zH, if_true, Bool.false_eq_true, if_false, ite_self]
 unfold D.c45
 generalize hR0 : D.r45_0 = R0 at *
 generalize hR1 : D.r45_1 = R1 at *
 unfold yp.cells at *
 (have F := an e1 e2; repeat' (first | apply wG | apply za.n | apply za.r | apply za.e | apply xH | apply Blk.n | apply Blk.r | apply Blk.e | (apply Blk.x; focus rfl) | apply uC | apply uB | apply xG | apply wc | apply vf | apply wa | apply we | apply xO | apply ve | (apply wb; focus (first | (simp [go_sem, F]; done) | (simp [go_sem, F]; rfl))) | (apply ud; focus (simp [RS.zu, F]; done)) | (apply ub; focus (simp [RS.zu, F]; done)) | (apply uf <;> first | (intro hGO; first | (exfalso; revert hGO; simp [F]; done) | skip) | (first | exact rfl | (simp [RS.zu, F]; done) | (simp [RS.zu, F]; rfl))) | (apply vR <;> first | (intro hGO; first | (exfalso; revert hGO; simp [F]; done) | skip) | (first | exact rfl | (simp [RS.zu, F]; done) | (simp [RS.zu, F]; rfl))) | (apply vU <;> first | (intro hGO; first | (exfalso; revert hGO; simp [F]; done) | skip) | (first | exact rfl | (simp [RS.zu, F]; done) | (simp [RS.zu, F]; rfl))) | (apply vQ <;> first | (intro hGO; first | (exfalso; revert hGO; simp [F]; done) | skip) | (first | exact rfl | (simp [RS.zu, F]; done) | (simp [RS.zu, F]; rfl))) | (apply vr <;> first | (intro hGO; first | (exfalso; revert hGO; simp [F]; done) | skip) | (first | exact rfl | (simp [RS.zu, F]; done) | (simp [RS.zu, F]; rfl))) | (apply xC; focus (first | (simp [go_sem, F]; done) | (simp [go_sem, F]; rfl))) | (apply yZ; focus (first | (simp [go_sem, F]; done) | (simp [go_sem, F]; rfl))) | (apply um; focus (first | (simp [go_sem, F]; done) | (simp [go_sem, F]; rfl)))))
 all_goals
  refine hr0 _ _ _ _ (fun q => ?_)
  (have F := an e1 e2; refine gow ?_)
  refine hr1 _ _ _ _ (fun q => ?_)
  (have F := an e1 e2; refine gow ?_)
  (have F : True := trivial; refine fnw ?_)
  exact ⟨rfl, _, rfl⟩
def MoveV (l : yp) (v : LVal) : Prop :=
 v = .yX ∨ (v = .iface 90 (.agg l.item.cells) ∧ l.kind = 2 ∧ 1 ≤ l.item.zd ∧ l.item.zd ≤ 65535 ∧ l.item.data.length ≤ 65531) ∨
 (v = .iface 98 (.agg [.int .i64 l.item.dir, .int .i64 l.item.zd, .vs l.item.nil .sh l.item.m (zy l.item.data), .bool l.vo]) ∧ l.kind = 1 ∧ 1 ≤ l.item.zd ∧ l.item.zd ≤ 65535 ∧ l.item.data.length ≤ 65531) ∨
 ∃ (i e : Nat), v = .iface 100 (.agg [.int .i64 l.kind, .int .i64 i, .int .i64 e]) ∧ l.kind ≠ 2 ∧ i < 3 ∧ (e = 0 ∨ e = 3 ∨ e = 4 ∨ (i = 0 ∧ (e = 1 ∨ e = 2)))
end Go.Proofs.YtpfnlpakcldobaaGreat
