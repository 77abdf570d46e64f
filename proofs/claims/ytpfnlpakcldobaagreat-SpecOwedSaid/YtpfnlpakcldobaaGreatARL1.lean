/- Texts of the proof: RK3 RL1. -/
import Derived.Test.YtpfnlpakcldobaaGreatARJ13
import Derived.Test.YtpfnlpakcldobaaGreatARC
import Derived.Test.YtpfnlpakcldobaaGreatARS1
set_option linter.unusedVariables false
set_option linter.unusedSimpArgs false
set_option linter.unusedSectionVars false
namespace Go.Proofs.YtpfnlpakcldobaaGreat
open Go Go.L
theorem stA (st : List zt) : (∀ ext : List zt, (st ++ ext).length = st.length + ext.length) ∧ (∀ (ext : List zt) (i : Nat), (st ++ ext)[st.length + i]? = ext[i]?) ∧ (∀ ext : List zt, (st ++ ext)[st.length]? = ext[0]?) ∧
 (∀ (ext : List zt) (i : Nat) (V : zt), (st ++ ext).set (st.length + i) V = st ++ ext.set i V) ∧ (∀ (ext : List zt) (V : zt), (st ++ ext).set st.length V = st ++ ext.set 0 V) ∧ (∀ ext o : List zt, st ++ ext ++ o = st ++ (ext ++ o)) ∧
 (∀ (ext : List zt) (i : Nat) (h : st.length + i < (st ++ ext).length), (st ++ ext)[st.length + i]'h = ext[i]'(by simp at h; exact h)) := by
 refine ⟨fun ext => by simp, fun ext i => ?_, fun ext => ?_, fun ext i V => ?_, fun ext V => ?_, fun _ _ => List.append_assoc .., fun ext i h => ?_⟩
 ·rw [List.getElem?_append_right (by omega)]; congr 1; omega
 ·rw [List.getElem?_append_right (by omega)]; congr 1; omega
 ·rw [List.set_append_right _ _ (by omega)]; congr 2; omega
 ·rw [List.set_append_right _ _ (by omega)]; congr 2; omega
 ·rw [List.getElem_append_right (by omega)]; congr 1; omega
def zD.w (s : zD) (c : zg) : AW := ⟨c, s.l0, s.l1, s.l2, s.uM, s.due, 0⟩
theorem ok5 (st : List zt) (hst : ∀ x ∈ st, zt.within st.length x = true) (hst' : ∀ x ∈ st, x.settle = x) (B0 B1 B2 W B4 : zt) (hB : ∀ x ∈ [B0, B1, B2, B4], (∀ n, zt.within n x = true) ∧ x.settle = x) (hW : ∀ n, zt.within n W = true) :
 xA (st.length + 5) (st.length + 3) (st ++ [B0, B1, B2, W, B4]) where
 len := by simp
 lt := by omega
 within := by
  intro x hx
  rcases List.mem_append.1 hx with h | h
  ·exact o_mono (by omega) (hst x h)
  ·simp only [List.mem_cons, List.mem_nil_iff, or_false] at h
   rcases h with h | h | h | h | h
   ·subst h; exact (hB _ (by simp)).1 _
   ·subst h; exact (hB _ (by simp)).1 _
   ·subst h; exact (hB _ (by simp)).1 _
   ·subst h; exact hW _
   ·subst h; exact (hB _ (by simp)).1 _
 settled := by
  intro i x hi hx
  by_cases hl : i < st.length
  ·rw [List.getElem?_append_left hl] at hx
   exact hst' x (List.mem_of_getElem? hx)
  ·obtain ⟨k, rfl⟩ : ∃ k, i = st.length + k := ⟨i - st.length, by omega⟩
   rw [List.getElem?_append_right (by omega), show st.length + k - st.length = k by omega] at hx
   match k, hx with
   | 0, hx => injection hx with hx; subst hx; exact (hB _ (by simp)).2
   | 1, hx => injection hx with hx; subst hx; exact (hB _ (by simp)).2
   | 2, hx => injection hx with hx; subst hx; exact (hB _ (by simp)).2
   | 3, hx => omega
   | 4, hx => injection hx with hx; subst hx; exact (hB _ (by simp)).2
   | k + 5, hx => simp at hx
theorem jh (s : zD) (ho : s.o = .sh) : (∀ n, zt.within n (.cells 34 s.cells) = true) ∧ (zt.cells 34 s.cells).settle = .cells 34 s.cells := by
 constructor
 ·intro n
  simp [zD.cells, zA.cells, zl.cells, LVal.zb, LVal.within]
 ·simp [zD.cells, zA.cells, zl.cells, ho]
set_option maxHeartbeats 80000000 in
theorem run_eq (st : List zt) (hst : ∀ x ∈ st, zt.within st.length x = true) (hst' : ∀ x ∈ st, x.settle = x) (c : zg) (s : zD) (l : yp) (ho : s.o = .sh) (hd : Wd s.nil s.m s.due) (ha : (s.w c).ok 80000) (hn : ∀ i, 0 ≤ ((s.w c).link i).zT) (hw : Wb l.item.nil l.item.m l.item.data) :
 ∃ (q : Bool) (a' : AW) (dv' cv' : LVal), rS (s.w c) l q a' ∧ zK dv' a'.ds ∧ zN cv' a'.n ∧
  zq D.W 28 [.agg c.cells, .agg s.cells, .agg l.cells] st = some (.tup [.ptr (st.length + 3) 0, .bool q], some (st ++ [.cells 24 c.cells, .cells 34 s.cells, .cells 44 l.cells, (a'.mk' dv' cv').obj, .cells 44 l.cells])) := by
 have F0 := stA st
 have hdl : s.due.length ≤ 100000 := by have := ha.due; simp only [zD.w] at this; omega
 have kc := nO s.nil s.m s.due hd hdl
 have hcd := m8 s.nil s.m s.due hd
 have hcv : zN (.vs true .sh 0 []) 0 := .inl ⟨rfl, rfl⟩
 obtain ⟨mv, hmv, km⟩ := move_eq (st ++ [.cells 24 c.cells, .cells 34 s.cells, .cells 44 l.cells, ((s.w c).mk' (wZ s.nil s.due) (.vs true .sh 0 [])).obj]) l hw
 have hl44 : (∀ n, zt.within n (.cells 44 l.cells) = true) ∧ (zt.cells 44 l.cells).settle = .cells 44 l.cells := by
  constructor
  ·intro n; simp [yp.cells, LVal.zb, LVal.within]
  ·simp [yp.cells]
 have hc24 : (∀ n, zt.within n (.cells 24 c.cells) = true) ∧ (zt.cells 24 c.cells).settle = .cells 24 c.cells := by
  constructor
  ·intro n; simp [zg.cells, LVal.zb, LVal.within]
  ·simp [zg.cells]
 have hok := ok5 st hst hst' (.cells 24 c.cells) (.cells 34 s.cells) (.cells 44 l.cells) ((s.w c).mk' (wZ s.nil s.due) (.vs true .sh 0 [])).obj (.cells 44 l.cells) (by
  intro x hx
  simp only [List.mem_cons, List.mem_nil_iff, or_false] at hx
  rcases hx with rfl | rfl | rfl | rfl
  ·exact hc24
  ·exact jh s ho
  ·exact hl44
  ·exact hl44) (fun n => zw.within _ hcd hcv n)
 have hK : (st ++ [zt.cells 24 c.cells, .cells 34 s.cells, .cells 44 l.cells, ((s.w c).mk' (wZ s.nil s.due) (.vs true .sh 0 [])).obj, .cells 44 l.cells])[st.length + 3]? = some ((s.w c).mk' (wZ s.nil s.due) (.vs true .sh 0 [])).obj := by rw [F0.2.1]; rfl
 obtain ⟨v, a', dv', cv', x1, x2, ks, q, rfl, hS⟩ := step_eq hok (s.w c) ha hn (wZ s.nil s.due) (.vs true .sh 0 []) hcd hcv hK l mv hmv hw
 rw [F0.2.2.2.1] at ks
 have ks' : zq D.W 38 [.ptr (st.length + 3) 0, mv] (st ++ [zt.cells 24 c.cells, .cells 34 s.cells, .cells 44 l.cells, ((s.w c).mk' (wZ s.nil s.due) (.vs true .sh 0 [])).obj, .cells 44 l.cells]) = some (.bool q, some (st ++ [zt.cells 24 c.cells, .cells 34 s.cells, .cells 44 l.cells, (a'.mk' dv' cv').obj, .cells 44 l.cells])) := ks
 refine ⟨q, a', dv', cv', hS, x1, x2, ?_⟩
 rw [List.append_assoc] at km
 have e1 := zx l.item.data
 have er := uE s.due
 have ew := wV
 have hform : (wZ s.nil s.due = .vs true .sh 0 []) ∨ (wZ s.nil s.due = .vs false .full 4 []) ∨ (wZ s.nil s.due = .vs false (.own 51 true) 4 (zL s.due)) := by
  unfold wZ
  split
  ·exact .inl rfl
  ·split
   ·exact .inr (.inl rfl)
   ·exact .inr (.inr rfl)
 refine Ret.eq ?_
 clear ks hok hK
 generalize hW1 : (a'.mk' dv' cv').obj = W1 at *
 rcases hform with h | h | h
 all_goals
  rw [h] at kc km ks'
  rcases hmv with rfl | ⟨rfl, _⟩ | ⟨rfl, _⟩ | ⟨i, e, rfl, _⟩
 all_goals
  try unfold wN.cells at *
  unfold zD.w AW.mk' zw.obj zw.cells zg.cells zD.cells zA.cells zl.cells yp.cells at *
  simp only [List.cons_append, List.nil_append, ho] at *
  have F := an F0 (an e1 (an er (an ew (an mb' (an kc (an km (an ks' ho)))))))
  exact Ret.of wk ⟨rfl, rfl⟩
set_option maxHeartbeats 80000000 in
theorem Step_eq (c : zg) (s : zD) (l : yp) (ho : s.o = .sh) (hd : Wd s.nil s.m s.due) (ha : (s.w c).ok 80000) (hn : ∀ i, 0 ≤ ((s.w c).link i).zT) (hw : Wb l.item.nil l.item.m l.item.data) :
 ∃ (q : Bool) (s' : zD), s'.o = .sh ∧ Wd s'.nil s'.m s'.due ∧ (q = true → ∃ a', rS (s.w c) l true a' ∧ s'.w c = { a' with n := 0, c := c }) ∧
  zq D.W 14 [.agg c.cells, .agg s.cells, .agg l.cells] [] = some (.tup [.agg s'.cells, .bool q], none) := by
 have hZ : zt.cells 34 (zD.cells ⟨⟨0, 0, 0, false, false, 0, []⟩, ⟨0, 0, 0, false, false, 0, []⟩, ⟨0, 0, 0, false, false, 0, []⟩, .zero, true, .sh, 0, []⟩) = .cells 34 [.int .i64 0, .int .i64 0, .int .i64 0, .bool false, .bool false, .int .i64 0, .str [], .int .i64 0, .int .i64 0, .int .i64 0, .bool false, .bool false, .int .i64 0, .str [], .int .i64 0, .int .i64 0, .int .i64 0, .bool false, .bool false, .int .i64 0, .str [], .int .i64 0, .int .i64 0, .bool false, .bool false, .bool false, .int .i64 0, .str [], .bool false, .int .i64 0, .vs true .sh 0 []] := rfl
 have hw24 : ∀ x ∈ [zt.cells 24 c.cells, .cells 34 s.cells, .cells 44 l.cells, .cells 34 (zD.cells ⟨⟨0, 0, 0, false, false, 0, []⟩, ⟨0, 0, 0, false, false, 0, []⟩, ⟨0, 0, 0, false, false, 0, []⟩, .zero, true, .sh, 0, []⟩)], (∀ n, zt.within n x = true) ∧ x.settle = x := by
  intro x hx
  simp only [List.mem_cons, List.mem_nil_iff, or_false] at hx
  rcases hx with rfl | rfl | rfl | rfl
  ·exact ⟨fun n => by simp [zg.cells, LVal.zb, LVal.within], by simp [zg.cells]⟩
  ·exact jh s ho
  ·exact ⟨fun n => by simp [yp.cells, LVal.zb, LVal.within], by simp [yp.cells]⟩
  ·exact ⟨fun n => rfl, rfl⟩
 obtain ⟨q, a', dv', cv', hS, h1, h2, kr⟩ := run_eq _ (fun x hx => (hw24 x hx).1 _) (fun x hx => (hw24 x hx).2) c s l ho hd ha hn hw
 rw [hZ] at kr
 obtain ⟨b, m, hda, hwd⟩ := pS h1
 have er := uE s.due
 have er' := uE a'.ds
 have ew := wV
 have e1 := zx l.item.data
 cases q with
 | false =>
  refine ⟨false, ⟨⟨0, 0, 0, false, false, 0, []⟩, ⟨0, 0, 0, false, false, 0, []⟩, ⟨0, 0, 0, false, false, 0, []⟩, .zero, true, .sh, 0, []⟩, rfl, .inr ⟨rfl, rfl⟩, (fun e => by cases e), ?_⟩
  refine Ret.eq ?_
  generalize (a'.mk' dv' cv').obj = W1 at *
  unfold zg.cells zD.cells zA.cells zl.cells yp.cells at *
  simp only [List.cons_append, List.nil_append, ho] at *
  have F := an e1 (an er (an er' (an ew (an mb' (an kr ho)))))
  exact Ret.of wk ⟨rfl, rfl⟩
 | true =>
  refine ⟨true, ⟨a'.l0, a'.l1, a'.l2, a'.g, b, .sh, m, a'.ds⟩, rfl, hwd, fun _ => ⟨a', hS, rfl⟩, ?_⟩
  refine Ret.eq ?_
  unfold AW.mk' zw.obj zw.cells zg.cells zD.cells zA.cells zl.cells yp.cells at *
  simp only [List.cons_append, List.nil_append, ho] at *
  cases hio : dv'.zr
  all_goals
   have F := an e1 (an er (an er' (an ew (an mb' (an kr (an ho (an hda hio)))))))
   exact Ret.of wk ⟨rfl, rfl⟩
end Go.Proofs.YtpfnlpakcldobaaGreat
namespace Go.Proofs.YtpfnlpakcldobaaGreat
open Go Go.L
structure mg (c : zg) (s : zD) (k : Nat) : Prop where
 o : s.o = .sh
 d : Wd s.nil s.m s.due
 ok : (s.w c).ok k
 inv : Inv c (max c.mc c.mt) (s.w c).net (s.w c)
theorem mg.n {c : zg} {s : zD} {k : Nat} (h : mg c s k) (i : Nat) : 0 ≤ ((s.w c).link i).zT := (h.inv.k i).2.2.1
theorem jn {c : zg} (hg : qf c = true) (h1 : c.s1.length ≤ 200) (h2 : c.s2.length ≤ 200) : mg c (lB c) 10 := by
 obtain ⟨g1, g2, g3⟩ := goodB_ok hg
 have hf : zA.fit ⟨0, 0, c.mf, false, false, 0, []⟩ := ⟨by dsimp only; omega, by dsimp only; omega, ⟨by dsimp only; omega, by dsimp only; omega⟩, by dsimp only; omega, by dsimp only; omega, Nat.zero_le _⟩
 have hk : Lk (max c.mc c.mt) c.mf ⟨0, 0, c.mf, false, false, 0, []⟩ := ⟨by dsimp only; omega, by dsimp only; omega, by dsimp only; omega, by dsimp only; omega⟩
 refine ⟨rfl, .inr ⟨rfl, rfl⟩, ⟨Nat.zero_le _, Nat.zero_le _, ?_, ?_, ?_, by show c.s1.length ≤ 70000; omega, by show c.s2.length ≤ 70000; omega, hf, hf, hf, Nat.zero_le _, fun d hd => by cases hd⟩, ⟨rfl, by omega, by omega, hk, hk, hk, ?_, ?_⟩⟩
 ·exact ⟨by show 0 ≤ c.mc; omega, by show c.mc ≤ 65536; omega⟩
 ·exact ⟨by show 0 ≤ c.mt; omega, by show c.mt ≤ 65536; omega⟩
 ·exact ⟨by show 0 ≤ c.mf; omega, by show c.mf ≤ 65536; omega⟩
 ·show (2 : Int) ≤ 0 ↔ false = true; simp
 ·show (2 : Int) ≤ 0 ↔ false = true; simp
theorem w_net (s : zD) (c : zg) : (s.w c).net = s.net := rfl
theorem mg.step {c : zg} {s s' : zD} {k : Nat} {l : yp} {a' : AW} (h : mg c s k) (ho : s'.o = .sh) (hd : Wd s'.nil s'.m s'.due) (hS : rS (s.w c) l true a') (hs' : s'.w c = { a' with n := 0, c := c }) : mg c s' (k + 9) := by
 obtain ⟨h1, h2⟩ := stepA_inv h.inv h.ok h.n hS
 have hc : a'.c = c := h1.cc
 have hw : s'.w c = { a' with n := 0 } := by rw [hs']; cases a'; dsimp only at hc; subst hc; rfl
 refine ⟨ho, hd, ?_, ?_⟩
 ·rw [hw]
  exact ⟨h2.due, Nat.zero_le _, h2.mc, h2.mt, h2.mf, h2.s1, h2.s2, h2.a0, h2.a1, h2.a2, h2.g, h2.ds⟩
 ·have hn : (s'.w c).net = a'.net := by rw [hw]; rfl
  rw [hn, hw]
  exact h1.rest a'.g a'.ds 0
theorem jr {c : zg} {s : zD} {k : Nat} (h : mg c s k) (hk : k ≤ 70000) (l : yp) (hw : Wb l.item.nil l.item.m l.item.data) :
 ∃ (q : Bool) (s' : zD), s'.o = .sh ∧ zq D.W 14 [.agg c.cells, .agg s.cells, .agg l.cells] [] = some (.tup [.agg s'.cells, .bool q], none) ∧ (q = true → mg c s' (k + 9) ∧ ∃ a', rS (s.w c) l true a' ∧ s'.w c = { a' with n := 0, c := c }) := by
 obtain ⟨q, s', h1, h2, h3, h4⟩ := Step_eq c s l h.o h.d (h.ok.mono (by omega)) h.n hw
 exact ⟨q, s', h1, h4, fun hq => by
  obtain ⟨a', h5, h6⟩ := h3 hq
  exact ⟨h.step h1 h2 h5 h6, a', h5, h6⟩⟩
end Go.Proofs.YtpfnlpakcldobaaGreat
