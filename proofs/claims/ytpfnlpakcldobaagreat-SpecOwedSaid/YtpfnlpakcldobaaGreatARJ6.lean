/- Texts of the proof: RJ6. -/
import Derived.Test.YtpfnlpakcldobaaGreatARJ1
set_option linter.unusedVariables false
set_option linter.unusedSimpArgs false
set_option linter.unusedSectionVars false
namespace Go.Proofs.YtpfnlpakcldobaaGreat
open Go Go.L
def LogA (a : AW) (x : Int) (a' : AW) : Prop := a' = a ∨ ∃ g' ds, g'.value = a.g.value ∧ lj x ds ∧ a' = { a with g := g', ds := a.ds ++ ds }
set_option maxHeartbeats 40000000 in
theorem login_eq {N K : Nat} {st : List zt} (hs : xA N K st) (a : AW) (ha : a.ok 90000) (dv cv : LVal) (hdv : zK dv a.ds) (hcv : zN cv a.n) (hK : st[K]? = some (a.mk' dv cv).obj) (x : Int) (b : Bool) (m : Nat) (l : List UInt8) (hw : Wb b m l) (hl : l.length ≤ 65531) :
 Leaves 136 [.ptr K 0, .int .i64 x, .vs b .sh m (zy l)] st K (fun v a' => v = .tup [] ∧ LogA a x a') := by
 suffices h : Ret D.W 136 [.ptr K 0, .int .i64 x, .vs b .sh m (zy l)] st (fun v o => ∃ a' dv' cv', zK dv' a'.ds ∧ zN cv' a'.n ∧ o = some (st.set K (a'.mk' dv' cv').obj) ∧ v = .tup [] ∧ LogA a x a') by
  obtain ⟨v, o, k, a', dv', cv', x1, x2, rfl, x3⟩ := h
  exact ⟨v, a', dv', cv', x1, x2, k, x3⟩
 have hlt := hs.lt
 have hlt' : K < N + 1 := by omega
 have hlt'' : K < N + 2 := by omega
 have F0 := sF hs
 obtain ⟨p, e, kg, hp, _, _, _⟩ := get47 b m l hw (by omega)
 have e1 := zx p.data
 obtain ⟨g', b2, m2, ds, kh, hv, hwd, hh⟩ := hear_ex a.g x p l.length hp (by omega)
 have hdl : ds.length ≤ 1 := by
  rcases hh with rfl | ⟨d, rfl, _⟩
  ·exact Nat.zero_le _
  ·exact Nat.le_refl _
 have e2 := xI ds
 have e3 := xI a.ds
 have hdue := ha.due
 have e4 : a.ds.length + ds.length ≤ 140737488355328 := by omega
 have e5 : (a.ds.length + ds.length) * 40 ≤ 140737488355328 := by omega
 have e6 : a.ds.length + 1 ≤ 140737488355328 := by omega
 have e7 : (a.ds.length + 1) * 40 ≤ 140737488355328 := by omega
 have al : ∀ (a : AW) (dv cv : LVal), zK dv a.ds → zN cv a.n → ∀ x ∈ stW st K (a.mk' dv cv).obj [], zt.within N x = true := fun a dv cv x y => xm hs (zw.within _ x y N)
 have al0 := al a dv cv hdv hcv
 rw [zC hK]
 by_cases he : e = 0
 case neg =>
  have he' : (e != 0) = true := by simpa using he
  generalize hW0 : (a.mk' dv cv).obj = W0 at *
  unfold zE.cells at *
  have F := an F0 (an e1 (an kg (an he (an he' (eq_true al0)))))
  refine Ret.of wk ?_
  exact ⟨a, dv, cv, hdv, hcv, by rw [zz hs, hW0], rfl, .inl rfl⟩
 subst he
 have hx : ∀ dv', zK dv' (a.ds ++ ds) → LogA a x { a with g := g', ds := a.ds ++ ds } := fun _ _ => .inr ⟨g', ds, hv, hh, rfl⟩
 have hap : zL a.ds ++ zL ds = zL (a.ds ++ ds) := by simp [zL]
 have al1 := fun dv' (h : zK dv' (a.ds ++ ds)) => al { a with g := g', ds := a.ds ++ ds } dv' cv.stay h hcv.stay
 have hwd' : (b2 = false ∧ m2 = 4) ∨ (b2 = true ∧ ds = []) := hwd
 unfold AW.mk' zw.obj zw.cells zg.cells zA.cells zl.cells zE.cells at *
 simp only [List.cons_append, List.nil_append] at *
 have hz : (ds.length = 0 ∧ zL ds = []) ∨ (ds.length = 1 ∧ m2 = 4 ∧ ¬ zL ds = []) := by
  rcases hwd' with ⟨_, h⟩ | ⟨_, h⟩
  ·rcases hh with hh | ⟨d, hh, _⟩
   ·exact .inl ⟨by rw [hh]; rfl, by rw [hh]; rfl⟩
   ·exact .inr ⟨by rw [hh]; rfl, h, by rw [hh]; simp [zL]⟩
  ·exact .inl ⟨by rw [h]; rfl, by rw [h]; rfl⟩
 rcases hdv with ⟨rfl, h0⟩ | ⟨rfl, h0⟩ | ⟨x0, rfl⟩
 ·rcases hz with ⟨hz, hz1⟩ | ⟨hz, hm, hz1⟩
  ·have hn : ds = [] := List.eq_nil_of_length_eq_zero hz
   have hD : zK (.vs true .sh 0 []) (a.ds ++ ds) := .inl ⟨rfl, by rw [h0, hn]; rfl⟩
   have f1 := al1 _ hD
   have F := an F0 (an e1 (an kg (an kh (an e2 (an e3 (an e4 (an e5 (an e6 (an e7 (an hap (an hz (an hz1 (eq_true f1)))))))))))))
   refine Ret.of wk ?_
   exact ⟨{ a with g := g', ds := a.ds ++ ds }, _, cv.stay, hD, hcv.stay, by rw [zz hs], rfl, hx _ hD⟩
  ·have hD : zK (.vs false (.own 51 true) 4 (zL ds)) (a.ds ++ ds) := by rw [h0, List.nil_append]; exact .inr (.inr ⟨_, rfl⟩)
   have f1 := al1 _ hD
   have F := an F0 (an e1 (an kg (an kh (an e2 (an e3 (an e4 (an e5 (an e6 (an e7 (an hap (an hz (an hz1 (an hm (eq_true f1))))))))))))))
   refine Ret.of wk ?_
   exact ⟨{ a with g := g', ds := a.ds ++ ds }, _, cv.stay, hD, hcv.stay, by rw [zz hs], rfl, hx _ hD⟩
 ·rcases hz with ⟨hz, hz1⟩ | ⟨hz, hm, hz1⟩
  ·have hn : ds = [] := List.eq_nil_of_length_eq_zero hz
   have hD : zK (.vs false .full 4 []) (a.ds ++ ds) := .inr (.inl ⟨rfl, by rw [h0, hn]; rfl⟩)
   have f1 := al1 _ hD
   have F := an F0 (an e1 (an kg (an kh (an e2 (an e3 (an e4 (an e5 (an e6 (an e7 (an hap (an hz (an hz1 (eq_true f1)))))))))))))
   refine Ret.of wk ?_
   exact ⟨{ a with g := g', ds := a.ds ++ ds }, _, cv.stay, hD, hcv.stay, by rw [zz hs], rfl, hx _ hD⟩
  ·have hD : zK (.vs false (.own 51 true) 4 (zL ds)) (a.ds ++ ds) := by rw [h0, List.nil_append]; exact .inr (.inr ⟨_, rfl⟩)
   have f1 := al1 _ hD
   have F := an F0 (an e1 (an kg (an kh (an e2 (an e3 (an e4 (an e5 (an e6 (an e7 (an hap (an hz (an hz1 (an hm (eq_true f1))))))))))))))
   refine Ret.of wk ?_
   exact ⟨{ a with g := g', ds := a.ds ++ ds }, _, cv.stay, hD, hcv.stay, by rw [zz hs], rfl, hx _ hD⟩
 ·rcases hz with ⟨hz, hz1⟩ | ⟨hz, hm, hz1⟩
  ·have hn : ds = [] := List.eq_nil_of_length_eq_zero hz
   have hD : zK (.vs false (.own 51 false) 4 (zL a.ds)) (a.ds ++ ds) := by rw [hn, List.append_nil]; exact .inr (.inr ⟨_, rfl⟩)
   have f1 := al1 _ hD
   have F := an F0 (an e1 (an kg (an kh (an e2 (an e3 (an e4 (an e5 (an e6 (an e7 (an hap (an hz (an hz1 (eq_true f1)))))))))))))
   refine Ret.of wk ?_
   exact ⟨{ a with g := g', ds := a.ds ++ ds }, _, cv.stay, hD, hcv.stay, by rw [zz hs], rfl, hx _ hD⟩
  ·have hD : zK (.vs false (.own 51 false) 4 (zL (a.ds ++ ds))) (a.ds ++ ds) := .inr (.inr ⟨_, rfl⟩)
   have f1 := al1 _ hD
   have F := an F0 (an e1 (an kg (an kh (an e2 (an e3 (an e4 (an e5 (an e6 (an e7 (an hap (an hz (an hz1 (an hm (eq_true f1))))))))))))))
   refine Ret.of wk ?_
   exact ⟨{ a with g := g', ds := a.ds ++ ds }, _, cv.stay, hD, hcv.stay, by rw [zz hs], rfl, hx _ hD⟩
end Go.Proofs.YtpfnlpakcldobaaGreat
