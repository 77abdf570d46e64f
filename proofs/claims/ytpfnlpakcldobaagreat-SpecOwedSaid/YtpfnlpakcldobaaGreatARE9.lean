/- Texts of the proof: RE9. -/
import Derived.Test.YtpfnlpakcldobaaGreatARE5
import Derived.Test.YtpfnlpakcldobaaGreatARE7
import Derived.Test.YtpfnlpakcldobaaGreatARW
set_option linter.unusedVariables false
set_option linter.unusedSimpArgs false
set_option linter.unusedSectionVars false
namespace Go.Proofs.YtpfnlpakcldobaaGreat
open Go Go.L
theorem fn144 : D.W.fns 144 = some (.fn D.l144) := rfl
theorem fn151 : D.W.fns 151 = some (.fn D.l151) := rfl
set_option maxHeartbeats 4000000 in
theorem qF (kind zd : Int) (p : zE) (n : Nat) (hp : p.wf n) (b : Bool) (m : Nat) (l : List UInt8) (hw : Wb b m l) :
 zq D.W 151 [.int .i64 kind, .int .i64 zd, .agg p.cells, .vs b .sh m (zy l)] [] = some (.vs false .sh 4 (zL [⟨kind, zd, p.id, l⟩]), none) := by
 have e1 := zx p.data
 have e4 := zx l
 have e5 := yq l
 rw [yF fn151]
 rcases hw with ⟨rfl, rfl⟩ | ⟨rfl, rfl⟩
 ·simp [D.l151, D.c151, go_sem, zE.cells, yu.cells, zL, e1, e4, e5]
 ·simp [D.l151, D.c151, go_sem, zE.cells, yu.cells, zL, e1, xz, wX]
def lj (x : Int) (ds : List yu) : Prop := ds = [] ∨ ∃ d : yu, ds = [d] ∧ (d.kind = 9 ∨ d.kind = 10 ∨ d.kind = 11) ∧ d.zd = x ∧ d.data.length ≤ 70000
def Wd (b : Bool) (m : Nat) (l : List yu) : Prop := (b = false ∧ m = 4) ∨ (b = true ∧ l = [])
set_option maxHeartbeats 8000000 in
theorem mine_lem (g : zl) (p : zE) (x : Int) (st2 : zt) (v0 v2 v5 v6 v8 v9 v10 v11 v12 v13 v14 v15 v16 v17 v18 v19 v20 v21 v22 : LVal) (Q : yS → RS → Prop)
 (h : ∀ q : Bool, Q .normal ⟨[v0, .int .i64 x, v2, .ptr 0 0, .ptr 1 0, v5, v6, .bool q, v8, v9, v10, v11, v12, v13, v14, v15, v16, v17, v18, v19, v20, v21, v22], [.cells 31 g.cells, .cells 57 p.cells, st2], []⟩) :
 Wp D.W D.r144_0 ⟨[v0, .int .i64 x, v2, .ptr 0 0, .ptr 1 0, v5, v6, .undef, v8, v9, v10, v11, v12, v13, v14, v15, v16, v17, v18, v19, v20, v21, v22], [.cells 31 g.cells, .cells 57 p.cells, st2], []⟩ Q := by
 unfold zl.cells zE.cells at *
 unfold D.r144_0
 (have F : True := trivial; repeat' (first | apply wG | apply za.n | apply za.r | apply za.e | apply xH | apply Blk.n | apply Blk.r | apply Blk.e | (apply Blk.x; focus rfl) | apply uC | apply uB | apply xG | apply wc | apply vf | apply wa | apply we | apply xO | apply ve | (apply wb; focus (first | (simp [go_sem, F]; done) | (simp [go_sem, F]; rfl))) | (apply ud; focus (simp [RS.zu, F]; done)) | (apply ub; focus (simp [RS.zu, F]; done)) | (apply uf <;> first | (intro hGO; first | (exfalso; revert hGO; simp [F]; done) | skip) | (first | exact rfl | (simp [RS.zu, F]; done) | (simp [RS.zu, F]; rfl))) | (apply vR <;> first | (intro hGO; first | (exfalso; revert hGO; simp [F]; done) | skip) | (first | exact rfl | (simp [RS.zu, F]; done) | (simp [RS.zu, F]; rfl))) | (apply vU <;> first | (intro hGO; first | (exfalso; revert hGO; simp [F]; done) | skip) | (first | exact rfl | (simp [RS.zu, F]; done) | (simp [RS.zu, F]; rfl))) | (apply vQ <;> first | (intro hGO; first | (exfalso; revert hGO; simp [F]; done) | skip) | (first | exact rfl | (simp [RS.zu, F]; done) | (simp [RS.zu, F]; rfl))) | (apply vr <;> first | (intro hGO; first | (exfalso; revert hGO; simp [F]; done) | skip) | (first | exact rfl | (simp [RS.zu, F]; done) | (simp [RS.zu, F]; rfl))) | (apply xC; focus (first | (simp [go_sem, F]; done) | (simp [go_sem, F]; rfl))) | (apply yZ; focus (first | (simp [go_sem, F]; done) | (simp [go_sem, F]; rfl))) | (apply um; focus (first | (simp [go_sem, F]; done) | (simp [go_sem, F]; rfl)))))
 all_goals exact h _
set_option maxHeartbeats 16000000 in
theorem hear_ex (g : zl) (x : Int) (p : zE) (n : Nat) (hp : p.wf n) (hn : n ≤ 70000) :
 ∃ (g' : zl) (b : Bool) (m : Nat) (ds : List yu), zq D.W 144 [.agg g.cells, .int .i64 x, .agg p.cells] [] = some (.tup [.agg g'.cells, .vs b .sh m (zL ds)], none) ∧ g'.value = g.value ∧ Wd b m ds ∧ lj x ds := by
 suffices h : Ret D.W 144 [.agg g.cells, .int .i64 x, .agg p.cells] [] (fun v o => o = none ∧ ∃ a1 a2 a3 a4 a5 a6 a7 a8 a9, ∃ (b : Bool) (m : Nat) (ds : List yu), v = .tup [.agg [.int .i64 a1, .int .i64 a2, .bool a3, .bool a4, .bool a5, .int .i64 a6, .str a7, .bool a8, .int .i64 a9], .vs b .sh m (zL ds)] ∧ a7 = g.value ∧ Wd b m ds ∧ lj x ds) by
  obtain ⟨v, k, a1, a2, a3, a4, a5, a6, a7, a8, a9, b, m, ds, rfl, h⟩ := h.ex
  exact ⟨⟨a1, a2, a3, a4, a5, a6, a7, a8, a9⟩, b, m, ds, k, h⟩
 obtain ⟨s1, k1⟩ := ask_ex p n hp hn
 obtain ⟨s2, k2⟩ := say_ex p n hp hn
 obtain ⟨b, m, v, ok, k3, hw, hv⟩ := oU p n hp hn
 have hv' : v.length ≤ 70000 := by have := hp.2.2.2.2.2; omega
 have k4 := qF 9 x p n hp true 0 [] Wb.nil
 have k5 := qF 11 x p n hp b m v hw
 have k6 := qF 10 x p n hp b m v hw
 have d4 : lj x [⟨9, x, p.id, []⟩] := .inr ⟨_, rfl, .inl rfl, rfl, Nat.zero_le _⟩
 have d5 : lj x [⟨11, x, p.id, v⟩] := .inr ⟨_, rfl, .inr (.inr rfl), rfl, hv'⟩
 have d6 : lj x [⟨10, x, p.id, v⟩] := .inr ⟨_, rfl, .inr (.inl rfl), rfl, hv'⟩
 have e1 := zx p.data
 have e4 := zx v
 have e5 := wV
 have e6 := ze v
 rw [xz] at k4
 unfold zE.cells zl.cells at *
 simp only [zL, yu.cells, List.map_cons, List.map_nil] at k4 k5 k6
 have hd : ∀ k y i l, zL [⟨k, y, i, l⟩] = [.agg [.int .i64 k, .int .i64 y, .int .i64 i, .str l]] := fun _ _ _ _ => rfl
 refine yU fn144 rfl (fun _ => ?_) ?_
 ·simp [LVal.pfs, LVal.pf, e1]
 simp only [Go.L.zc, List.map_cons, List.map_nil, Option.bind_some, Option.bind_none, Option.getD_some, Option.getD_none, List.getElem?_cons_zero, List.getElem?_cons_succ, zY.zH, if_true, Bool.false_eq_true, if_false, ite_self]
 unfold D.c144
 have hgc : zl.cells g = [.int .i64 g.ours, .int .i64 g.uR, .bool g.pI, .bool g.sr, .bool g.open_, .int .i64 g.id, .str g.value, .bool g.asked, .int .i64 g.qq] := rfl
 generalize hR : D.r144_0 = R
 (have F := e1; refine gow ?_)
 subst hR
 refine mine_lem g p x _ _ _ _ _ _ _ _ _ _ _ _ _ _ _ _ _ _ _ _ _ (fun mn => ?_)
 unfold zE.cells zl.cells
 by_cases hx : x = 49187
 ·rw [hx] at k4 k5 k6 d4 d5 d6
  by_cases c1 : p.code = 1
  ·try rw [c1] at k1 k2 k3 k4 k5 k6
   have F := an k1 (an k2 (an k3 (an k4 (an k5 (an k6 (an e1 (an e4 (an e6 (an hx c1)))))))))
   refine agw ?_ ?_ ?_ ?_ ?_ ?_ ?_ ?_
   all_goals first | (first | exact ⟨rfl, _, _, _, _, _, _, _, _, _, true, 0, [], rfl, rfl, .inr ⟨rfl, rfl⟩, .inl rfl⟩ | exact ⟨rfl, _, _, _, _, _, _, _, _, _, false, 4, [⟨9, 49187, p.id, []⟩], rfl, rfl, .inl ⟨rfl, rfl⟩, by rw [hx]; exact d4⟩) | exact trivial
  ·by_cases c2 : p.code = 2
   ·rw [c2] at k1 k2 k3 k4 k5 k6
    have F := an k1 (an k2 (an k3 (an k4 (an k5 (an k6 (an e1 (an e4 (an e6 (an hx c2)))))))))
    refine agw ?_ ?_ ?_ ?_ ?_ ?_ ?_ ?_
    all_goals first | exact ⟨rfl, _, _, _, _, _, _, _, _, _, true, 0, [], rfl, rfl, .inr ⟨rfl, rfl⟩, .inl rfl⟩ | exact trivial
   ·by_cases c3 : p.code = 3
    ·rw [c3] at k1 k2 k3 k4 k5 k6
     have F := an k1 (an k2 (an k3 (an k4 (an k5 (an k6 (an e1 (an e4 (an e6 (an hx c3)))))))))
     refine agw ?_ ?_ ?_ ?_ ?_ ?_ ?_ ?_
     all_goals first | exact ⟨rfl, _, _, _, _, _, _, _, _, _, true, 0, [], rfl, rfl, .inr ⟨rfl, rfl⟩, .inl rfl⟩ | exact trivial
    ·have F := an k1 (an k2 (an k3 (an k4 (an k5 (an k6 (an e1 (an e4 (an e6 (an hx (an c1 (an c2 c3)))))))))))
     refine agw ?_ ?_ ?_ ?_ ?_ ?_ ?_ ?_
     all_goals first | exact ⟨rfl, _, _, _, _, _, _, _, _, _, true, 0, [], rfl, rfl, .inr ⟨rfl, rfl⟩, .inl rfl⟩ | exact trivial
 ·by_cases hy : x = 49699
  ·rw [hy] at k4 k5 k6 d4 d5 d6
   by_cases c1 : p.code = 1
   ·try rw [c1] at k1 k2 k3 k4 k5 k6
    have F := an k1 (an k2 (an k3 (an k4 (an k5 (an k6 (an e1 (an e4 (an e6 (an hx (an hy c1))))))))))
    refine agw ?_ ?_ ?_ ?_ ?_ ?_ ?_ ?_
    all_goals first | (first | exact ⟨rfl, _, _, _, _, _, _, _, _, _, true, 0, [], rfl, rfl, .inr ⟨rfl, rfl⟩, .inl rfl⟩ | exact ⟨rfl, _, _, _, _, _, _, _, _, _, false, 4, [⟨11, 49699, p.id, v⟩], rfl, rfl, .inl ⟨rfl, rfl⟩, by rw [hy]; exact d5⟩) | exact trivial
   ·by_cases c2 : p.code = 2
    ·rw [c2] at k1 k2 k3 k4 k5 k6
     have F := an k1 (an k2 (an k3 (an k4 (an k5 (an k6 (an e1 (an e4 (an e6 (an hx (an hy c2))))))))))
     refine agw ?_ ?_ ?_ ?_ ?_ ?_ ?_ ?_
     all_goals first | (first | exact ⟨rfl, _, _, _, _, _, _, _, _, _, true, 0, [], rfl, rfl, .inr ⟨rfl, rfl⟩, .inl rfl⟩ | exact ⟨rfl, _, _, _, _, _, _, _, _, _, false, 4, [⟨10, 49699, p.id, v⟩], rfl, rfl, .inl ⟨rfl, rfl⟩, by rw [hy]; exact d6⟩) | exact trivial
    ·by_cases c3 : p.code = 3
     ·rw [c3] at k1 k2 k3 k4 k5 k6
      have F := an k1 (an k2 (an k3 (an k4 (an k5 (an k6 (an e1 (an e4 (an e6 (an hx (an hy c3))))))))))
      refine agw ?_ ?_ ?_ ?_ ?_ ?_ ?_ ?_
      all_goals first | exact ⟨rfl, _, _, _, _, _, _, _, _, _, true, 0, [], rfl, rfl, .inr ⟨rfl, rfl⟩, .inl rfl⟩ | exact trivial
     ·by_cases c4 : p.code = 4
      ·rw [c4] at k1 k2 k3 k4 k5 k6
       have F := an k1 (an k2 (an k3 (an k4 (an k5 (an k6 (an e1 (an e4 (an e6 (an hx (an hy c4))))))))))
       refine agw ?_ ?_ ?_ ?_ ?_ ?_ ?_ ?_
       all_goals first | exact ⟨rfl, _, _, _, _, _, _, _, _, _, true, 0, [], rfl, rfl, .inr ⟨rfl, rfl⟩, .inl rfl⟩ | exact trivial
      ·have F := an k1 (an k2 (an k3 (an k4 (an k5 (an k6 (an e1 (an e4 (an e6 (an hx (an hy (an c1 (an c2 (an c3 c4)))))))))))))
       refine agw ?_ ?_ ?_ ?_ ?_ ?_ ?_ ?_
       all_goals first | exact ⟨rfl, _, _, _, _, _, _, _, _, _, true, 0, [], rfl, rfl, .inr ⟨rfl, rfl⟩, .inl rfl⟩ | exact trivial
  ·have F := an k1 (an k2 (an k3 (an k4 (an k5 (an k6 (an e1 (an e4 (an e6 (an hx hy)))))))))
   refine agw ?_ ?_ ?_ ?_ ?_ ?_ ?_ ?_
   all_goals first | exact ⟨rfl, _, _, _, _, _, _, _, _, _, true, 0, [], rfl, rfl, .inr ⟨rfl, rfl⟩, .inl rfl⟩ | exact trivial
end Go.Proofs.YtpfnlpakcldobaaGreat
