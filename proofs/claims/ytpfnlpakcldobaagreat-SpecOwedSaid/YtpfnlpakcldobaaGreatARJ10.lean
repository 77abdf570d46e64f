/- Texts of the proof: RJ10. -/
import Derived.Test.YtpfnlpakcldobaaGreatARJ7z
import Derived.Test.YtpfnlpakcldobaaGreatARE8
import Derived.Test.YtpfnlpakcldobaaGreatARC
set_option linter.unusedVariables false
set_option linter.unusedSimpArgs false
set_option linter.unusedSectionVars false
namespace Go.Proofs.YtpfnlpakcldobaaGreat
open Go Go.L
theorem fn37 : D.W.fns 37 = some (.fn D.l37) := rfl
def wZ (b : Bool) (l : List yu) : LVal := if b = true then .vs true .sh 0 [] else if l = [] then .vs false .full 4 [] else .vs false (.own 51 true) 4 (zL l)
theorem m8 (b : Bool) (m : Nat) (l : List yu) (h : Wd b m l) : zK (wZ b l) l := by
 unfold wZ
 rcases h with ⟨rfl, _⟩ | ⟨rfl, rfl⟩
 ·by_cases hl : l = []
  ·subst hl; exact .inr (.inl ⟨by simp, rfl⟩)
  ·exact .inr (.inr ⟨true, by simp [hl]⟩)
 ·exact .inl ⟨by simp, rfl⟩
theorem uE : ∀ l : List yu, LVal.pfs (zL l) = true
 | [] => rfl
 | d :: r => by simp only [zL, List.map_cons, LVal.pfs, LVal.pf, yu.cells, Bool.and_self, Bool.true_and]; exact uE r
set_option maxHeartbeats 4000000 in
theorem nO (b : Bool) (m : Nat) (l : List yu) (h : Wd b m l) (hl : l.length ≤ 100000) : zq D.W 37 [.vs b .sh m (zL l)] [] = some (wZ b l, none) := by
 have e1 := wV 0 l
 have e2 := uE l
 have e3 := xI l
 have e4 : l.length ≤ 140737488355328 := by omega
 have e5 : l.length * 40 ≤ 140737488355328 := by omega
 rw [yF fn37]
 unfold wZ
 rcases h with ⟨rfl, rfl⟩ | ⟨rfl, rfl⟩
 ·by_cases h : l = []
  ·subst h; simp [D.l37, D.c37, go_sem, e1, e2, e3, zL]
  ·have h' : ¬ zL l = [] := fun e => h (List.map_eq_nil_iff.1 e)
   simp [h', D.l37, D.c37, go_sem, e1, e2, e3, e4, e5, h, mb']
 ·simp [D.l37, D.c37, go_sem, e1, e2, e3, zL]
theorem stayV_full (b n xs) : LVal.stay (.vs b .full n xs) = .vs b .full n xs := rfl
theorem stayV_own (b e x n xs) : LVal.stay (.vs b (.own e x) n xs) = .vs b (.own e false) n xs := rfl
theorem stW_e3 {N K : Nat} {st : List zt} (h : xA N K st) (W o o1 o2 o3 : zt) (r : List zt) (hl : N + 3 < (stW st K W (o :: o1 :: o2 :: o3 :: r)).length) : (stW st K W (o :: o1 :: o2 :: o3 :: r))[N + 3]'hl = o3 := by
 have := List.getElem?_eq_getElem hl
 rw [qA h W (o :: o1 :: o2 :: o3 :: r) 3] at this
 exact (Option.some.inj this).symm
def OwedA (a : AW) (d : yu) (r : List yu) (x : wN) (q : Bool) (a' : AW) : Prop :=
 (q = false ∧ a' = { a with ds := r }) ∨
 (∃ k p, k < 3 ∧ tq k = x.zd ∧ pd x.data p ∧ p.wf 70000 ∧ xr { a with ds := r } k p q a') ∨
 (9 ≤ d.kind ∧ x.zd = d.zd ∧ ∃ g', g'.value = a.g.value ∧ a' = { a with ds := r, g := g' })
theorem AW.ok.tail {a : AW} {k : Nat} {d : yu} {r : List yu} (h : a.ok k) (hd : a.ds = d :: r) : AW.ok { a with ds := r } k :=
 ⟨by have := h.due; rw [hd] at this; simp only [List.length_cons] at this; exact Nat.le_of_succ_le this, h.cel, h.mc, h.mt, h.mf, h.s1, h.s2, h.a0, h.a1, h.a2, h.g, fun x hx => h.ds x (by rw [hd]; exact List.mem_cons_of_mem _ hx)⟩
set_option maxHeartbeats 80000000 in
theorem owed_eq {N K : Nat} {st : List zt} (hs : xA N K st) (a : AW) (ha : a.ok 90000) (dv cv : LVal) (hdv : zK dv a.ds) (hcv : zN cv a.n) (hK : st[K]? = some (a.mk' dv cv).obj) (d : yu) (r : List yu) (hds : a.ds = d :: r) (x : wN) (hxw : Wb x.nil x.m x.data) (hxl : x.data.length ≤ 65531) :
 Leaves 41 [.ptr K 0, .agg x.cells] st K (fun v a' => ∃ q : Bool, v = .bool q ∧ OwedA a d r x q a') := by
 suffices h : Ret D.W 41 [.ptr K 0, .agg x.cells] st (fun v o => ∃ (a' : AW) (dv' cv' : LVal) (q : Bool), zK dv' a'.ds ∧ zN cv' a'.n ∧ o = some (st.set K (a'.mk' dv' cv').obj) ∧ v = .bool q ∧ OwedA a d r x q a') by
  obtain ⟨v, o, k, a', dv', cv', q, x1, x2, rfl, x3, x4⟩ := h
  exact ⟨v, a', dv', cv', x1, x2, k, q, x3, x4⟩
 have hlt := hs.lt
 have hlt1 : K < N + 1 := by omega
 have hlt2 : K < N + 2 := by omega
 have hlt3 : K < N + 3 := by omega
 have hlt4 : K < N + 4 := by omega
 have F0 := sF hs
 obtain ⟨x0, rfl⟩ : ∃ x0, dv = .vs false (.own 51 x0) 4 (zL a.ds) := by
  rcases hdv with ⟨_, h⟩ | ⟨_, h⟩ | ⟨x0, h⟩
  ·rw [hds] at h; cases h
  ·rw [hds] at h; cases h
  ·exact ⟨x0, h⟩
 have hdl := ha.due
 have hdl' : r.length ≤ 100000 := by rw [hds] at hdl; simp only [List.length_cons] at hdl; omega
 have hdk := ha.ds d (by rw [hds]; exact List.mem_cons_self ..)
 have hok1 := ha.tail hds
 have g0 : zL a.ds = .agg d.cells :: zL r := by rw [hds]; rfl
 have kc := nO false 4 r (.inl ⟨rfl, rfl⟩) hdl'
 have hcd := m8 false 4 r (.inl ⟨rfl, rfl⟩)
 have er := uE r
 have hb1 : (1 : Int) ≤ ((zL r).length : Int) + 1 := by omega
 obtain ⟨p, e, kg, hp, _, _, hgot⟩ := get47 x.nil x.m x.data hxw (by omega)
 have hpw := hp.mono (m := 70000) (by omega)
 have e1 := zx x.data
 have e2 := zx p.data
 have al : ∀ (a : AW) (dv cv : LVal), zK dv a.ds → zN cv a.n → ∀ x ∈ stW st K (a.mk' dv cv).obj [], zt.within N x = true := fun a dv cv x y => xm hs (zw.within _ x y N)
 have al1 := al { a with ds := r } (wZ false r) cv.stay hcd hcv.stay
 have hB : ∀ n, ∀ y ∈ [zt.cells 42 x.cells, .cells 51 d.cells, .cells 57 p.cells], zt.within n y = true := by
  intro n y hy
  simp only [List.mem_cons, List.mem_nil_iff, or_false] at hy
  rcases hy with rfl | rfl | rfl
  ·simp [wN.cells, LVal.zb, LVal.within]
  ·simp [yu.cells, LVal.zb, LVal.within]
  ·simp [zE.cells, LVal.zb, LVal.within]
 have hB' : ∀ y ∈ [zt.cells 42 x.cells, .cells 51 d.cells, .cells 57 p.cells], y.settle = y := by
  intro y hy
  simp only [List.mem_cons, List.mem_nil_iff, or_false] at hy
  rcases hy with rfl | rfl | rfl
  ·simp [wN.cells]
  ·simp [yu.cells]
  ·simp [zE.cells]
 have hform : (wZ false r = .vs false .full 4 [] ∧ zL r = []) ∨ (wZ false r = .vs false (.own 51 true) 4 (zL r)) := by
  unfold wZ
  by_cases h : r = []
  ·subst h; exact .inl ⟨by simp, rfl⟩
  ·exact .inr (by simp [h])
 rw [zC hK]
 by_cases hbad : e ≠ 0 ∨ x.zd ≠ d.zd
 case pos =>
  rcases hform with ⟨hv, hnil⟩ | hv
  all_goals
   rw [hv] at kc hcd al1
   first | rw [hnil] at kc er g0 | skip
   unfold AW.mk' zw.obj zw.cells zg.cells zA.cells zl.cells wN.cells yu.cells zE.cells at *
   simp only [List.cons_append, List.nil_append] at *
   by_cases he : e = 0
   ·have hpx : ¬ x.zd = d.zd := by rcases hbad with h | h; exact absurd he h; exact h
    have hb : (x.zd != d.zd) = true := by simpa using hpx
    have F := an F0 (an e1 (an e2 (an er (an hb1 (an g0 (an kc (an kg (an he (an hpx (an hb (eq_true al1)))))))))))
    refine Ret.of wk ?_
    exact ⟨{ a with ds := r }, _, cv.stay, false, hcd, hcv.stay, by rw [zz hs], rfl, .inl ⟨rfl, rfl⟩⟩
   ·have hb : (e != 0) = true := by simpa using he
    have F := an F0 (an e1 (an e2 (an er (an hb1 (an g0 (an kc (an kg (an he (an hb (eq_true al1))))))))))
    refine Ret.of wk ?_
    exact ⟨{ a with ds := r }, _, cv.stay, false, hcd, hcv.stay, by rw [zz hs], rfl, .inl ⟨rfl, rfl⟩⟩
 have he : e = 0 := Classical.byContradiction fun h => hbad (.inl h)
 have hpx : x.zd = d.zd := Classical.byContradiction fun h => hbad (.inr h)
 subst he
 have hgot' := hgot rfl
 have hkp' : ∀ k : Nat, tq k = d.zd → tq k = x.zd := fun k h => h.trans hpx.symm
 by_cases hk : d.kind < 9
 ·have hk8 : (1 ≤ d.kind ∧ d.kind ≤ 8) ∧ (d.zd = 49185 ∨ d.zd = 32801 ∨ d.zd = 32855) := by
   rcases hdk.2 with ⟨h1, h2, h3⟩ | ⟨h1, _⟩
   ·exact ⟨⟨h1, h2⟩, h3⟩
   ·omega
  obtain ⟨k, hk3, hkp, v, a', dv', cv', x1, x2, k48, q, rfl, hA⟩ := answers_eq (qp hs { a with ds := r } (wZ false r) cv.stay hcd hcv.stay _ (hB _) hB') { a with ds := r } hok1 (wZ false r) cv.stay hcd hcv.stay (xM hs _ _) d hk8.1 hk8.2 hdk.1 p hpw
  rw [zz hs] at k48
  have al2 := al a' dv' cv' x1 x2
  generalize hW1 : (a'.mk' dv' cv').obj = W1 at *
  rcases hform with ⟨hv, hnil⟩ | hv
  all_goals
   rw [hv] at kc hcd al1 k48
   first | rw [hnil] at kc er g0 | skip
   unfold AW.mk' zw.obj zw.cells zg.cells zA.cells zl.cells wN.cells yu.cells zE.cells at *
   simp only [List.cons_append, List.nil_append] at *
   have hpb : (x.zd != d.zd) = false := by rw [hpx]; simp
   have F := an F0 (an e1 (an e2 (an er (an hb1 (an g0 (an kc (an kg (an hpb (an hk (an k48 (eq_true al2)))))))))))
   refine Ret.of wk ?_
   exact ⟨a', dv', cv', q, x1, x2, by rw [zz hs, ← hW1], rfl, .inr (.inl ⟨k, p, hk3, hkp' k hkp, hgot', hpw, hA⟩)⟩
 ·obtain ⟨g', q, k49, hgv⟩ := answer49_ex a.c a.g d x.zd p 70000 hpw (Nat.le_refl _) ha.s1 ha.s2 ha.g hdk.1
  have hcd2 := hcd.stay
  have al3 := al { a with ds := r, g := g' } (wZ false r).stay cv.stay hcd2 hcv.stay
  rcases hform with ⟨hv, hnil⟩ | hv
  all_goals
   rw [hv] at kc hcd al1 hcd2 al3
   simp only [stayV_full, stayV_own] at hcd2 al3
   first | rw [hnil] at kc er g0 | skip
   unfold AW.mk' zw.obj zw.cells zg.cells zA.cells zl.cells wN.cells yu.cells zE.cells at *
   simp only [List.cons_append, List.nil_append] at *
   have hpb : (x.zd != d.zd) = false := by rw [hpx]; simp
   have F := an F0 (an (stW_e3 hs) (an hlt4 (an e1 (an e2 (an er (an hb1 (an g0 (an kc (an kg (an hpb (an hk (an k49 (eq_true al3)))))))))))))
   refine Ret.of wk ?_
   exact ⟨{ a with ds := r, g := g' }, _, cv.stay, q, hcd2, hcv.stay, by rw [zz hs], rfl, .inr (.inr ⟨by omega, hpx, g', hgv, rfl⟩)⟩
end Go.Proofs.YtpfnlpakcldobaaGreat
