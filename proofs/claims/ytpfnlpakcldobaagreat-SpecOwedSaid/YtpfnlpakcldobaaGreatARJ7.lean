/- Texts of the proof: RJ3 RJ7. -/
import Derived.Test.YtpfnlpakcldobaaGreatARJ1
import Derived.Test.YtpfnlpakcldobaaGreatARP1
import Derived.Test.YtpfnlpakcldobaaGreatARG1
import Derived.Test.YtpfnlpakcldobaaGreatARC
set_option linter.unusedVariables false
set_option linter.unusedSimpArgs false
set_option linter.unusedSectionVars false
namespace Go.Proofs.YtpfnlpakcldobaaGreat
open Go Go.L
theorem B57 (N : Nat) (p : zE) : ∀ x ∈ [zt.cells 57 p.cells], zt.within (N + [zt.cells 57 p.cells].length) x = true := by simp [zE.cells, LVal.zb, LVal.within]
theorem B57' (p : zE) : ∀ x ∈ [zt.cells 57 p.cells], x.settle = x := by simp [zE.cells]
theorem oO {N K : Nat} {st : List zt} (hs : xA N K st) (a : AW) (ha : a.ok 90000) (dv cv : LVal) (hdv : zK dv a.ds) (hcv : zN cv a.n) (p : zE) (i : Nat) (hi : i < 3) (e : Nat) (he : e < 17) (id : Int) (data : List UInt8) :
 ∃ dv' cv', zK dv' (zk a i e id data).1.ds ∧ zN cv' (zk a i e id data).1.n ∧ zq D.W 52 [.ptr K 0, .int .i64 i, .int .i64 e, .int .i64 id, .str data] (stW st K (a.mk' dv cv).obj [.cells 57 p.cells]) = some (.bool (zk a i e id data).2, some (stW st K ((zk a i e id data).1.mk' dv' cv').obj [.cells 57 p.cells])) := by
 obtain ⟨dv', cv', x1, x2, k⟩ := uq (qp hs a dv cv hdv hcv [.cells 57 p.cells] (B57 N p) (B57' p)) a ha dv cv hdv hcv (xM hs _ _) i hi e he id data
 rw [zz hs] at k
 exact ⟨dv', cv', x1, x2, k⟩
set_option maxHeartbeats 40000000 in
theorem echo_eq {N K : Nat} {st : List zt} (hs : xA N K st) (a : AW) (ha : a.ok 90000) (dv cv : LVal) (hdv : zK dv a.ds) (hcv : zN cv a.n) (hK : st[K]? = some (a.mk' dv cv).obj) (p : zE) (n : Nat) (hp : p.wf n) (hn : n ≤ 70000) :
 Leaves 141 [.ptr K 0, .agg p.cells] st K (fun v a' => v = .tup [] ∧ (a' = a ∨ ∃ r : List UInt8, r.length ≤ n ∧ a' = (zk a 0 16 p.id r).1)) := by
 suffices h : Ret D.W 141 [.ptr K 0, .agg p.cells] st (fun v o => ∃ a' dv' cv', zK dv' a'.ds ∧ zN cv' a'.n ∧ o = some (st.set K (a'.mk' dv' cv').obj) ∧ v = .tup [] ∧ (a' = a ∨ ∃ r : List UInt8, r.length ≤ n ∧ a' = (zk a 0 16 p.id r).1)) by
  obtain ⟨v, o, k, a', dv', cv', x1, x2, rfl, x3⟩ := h
  exact ⟨v, a', dv', cv', x1, x2, k, x3⟩
 have hlt := hs.lt
 have hlt' : K < N + 1 := by omega
 have F0 := sF hs
 have e1 := zx p.data
 obtain ⟨x, b, m, r, ok, k1, hw, hr, _⟩ := ra p n hp hn
 have e2 := zx r
 have e3 := yq r
 have hw1 : m = 1 ∨ zy r = [] := by rcases hw with ⟨_, h⟩ | ⟨_, h⟩; exact .inl h; exact .inr (by rw [h]; rfl)
 have hw2 : m = 1 ∨ r = [] := by rcases hw with ⟨_, h⟩ | ⟨_, h⟩; exact .inl h; exact .inr h
 have e4 := ze r
 obtain ⟨dv', cv', x1, x2, k⟩ := oO hs a ha dv cv hdv hcv p 0 (by decide) 16 (by decide) p.id r
 have al : ∀ (a : AW) (dv cv : LVal), zK dv a.ds → zN cv a.n → ∀ x ∈ stW st K (a.mk' dv cv).obj [], zt.within N x = true := fun a dv cv x y => xm hs (zw.within _ x y N)
 have al0 := al a dv cv hdv hcv
 have al1 := al _ dv' cv' x1 x2
 have hrn : r.length ≤ n := by have := hp.2.2.2.2.2; omega
 rw [zC hK]
 have k' : zq D.W 52 [.ptr K 0, .int .i64 0, .int .i64 16, .int .i64 p.id, .str r] _ = _ := k
 clear k
 generalize (zk a 0 16 p.id r).2 = q at *
 generalize hA : (zk a 0 16 p.id r).1 = a1 at *
 generalize hW0 : (a.mk' dv cv).obj = W0 at *
 generalize hW1 : (a1.mk' dv' cv').obj = W1 at *
 unfold zE.cells at *
 by_cases h9 : p.code = 9
 ·rw [h9] at k1 k'
  cases ok with
  | true =>
   have F := an F0 (an e1 (an k1 (an k' (an e2 (an e3 (an e4 (an hw1 (an hw2 (an h9 (eq_true al1))))))))))
   refine Ret.of wk ?_
   exact ⟨a1, dv', cv', x1, x2, by rw [zz hs, hW1], rfl, .inr ⟨r, hrn, hA.symm⟩⟩
  | false =>
   have F := an F0 (an e1 (an k1 (an k' (an e2 (an e3 (an e4 (an hw1 (an hw2 (an h9 (eq_true al0))))))))))
   refine Ret.of wk ?_
   exact ⟨a, dv, cv, hdv, hcv, by rw [zz hs, hW0], rfl, .inl rfl⟩
 ·cases ok with
  | true =>
   have F := an F0 (an e1 (an k1 (an k' (an e2 (an e3 (an e4 (an hw1 (an hw2 (an h9 (eq_true al0))))))))))
   refine Ret.of wk ?_
   exact ⟨a, dv, cv, hdv, hcv, by rw [zz hs, hW0], rfl, .inl rfl⟩
  | false =>
   have F := an F0 (an e1 (an k1 (an k' (an e2 (an e3 (an e4 (an hw1 (an hw2 (an h9 (eq_true al0))))))))))
   refine Ret.of wk ?_
   exact ⟨a, dv, cv, hdv, hcv, by rw [zz hs, hW0], rfl, .inl rfl⟩
def Refd (a : AW) (id : Int) (a' : AW) : Prop := a' = a ∨ a' = (zk a 0 14 id []).1 ∨ a' = (zk a 0 15 id []).1 ∨ (a.net = true ∧ ∃ i, (i = 1 ∨ i = 2) ∧ a' = (zk a i 15 id []).1)
theorem oo (x : Int) : vX x = -1 ∨ vX x = 0 ∨ vX x = 1 ∨ vX x = 2 := by
 unfold vX; split
 ·exact .inr (.inl rfl)
 ·split
  ·exact .inr (.inr (.inl rfl))
  ·split
   ·exact .inr (.inr (.inr rfl))
   ·exact .inl rfl
set_option maxHeartbeats 40000000 in
theorem refused_eq {N K : Nat} {st : List zt} (hs : xA N K st) (a : AW) (ha : a.ok 90000) (dv cv : LVal) (hdv : zK dv a.ds) (hcv : zN cv a.n) (hK : st[K]? = some (a.mk' dv cv).obj) (p : zE) (n : Nat) (hp : p.wf n) (hn : n ≤ 70000) :
 Leaves 140 [.ptr K 0, .agg p.cells] st K (fun v a' => v = .tup [] ∧ Refd a p.id a') := by
 suffices h : Ret D.W 140 [.ptr K 0, .agg p.cells] st (fun v o => ∃ a' dv' cv', zK dv' a'.ds ∧ zN cv' a'.n ∧ o = some (st.set K (a'.mk' dv' cv').obj) ∧ v = .tup [] ∧ Refd a p.id a') by
  obtain ⟨v, o, k, a', dv', cv', x1, x2, rfl, x3⟩ := h
  exact ⟨v, a', dv', cv', x1, x2, k, x3⟩
 have hlt := hs.lt
 have hlt' : K < N + 1 := by omega
 have F0 := sF hs
 have e1 := zx p.data
 obtain ⟨x, b, m, r, ok, k1, hw⟩ := kY p n hp hn
 have e2 := zx r
 have k2 := ta x
 obtain ⟨b', m', hda, hwd⟩ := pS hdv
 have k16 := rb a b' m'
 have al : ∀ (a : AW) (dv cv : LVal), zK dv a.ds → zN cv a.n → ∀ x ∈ stW st K (a.mk' dv cv).obj [], zt.within N x = true := fun a dv cv x y => xm hs (zw.within _ x y N)
 have al0 := al a dv cv hdv hcv
 have main : ∀ (i e : Nat) (z w : Int) (dv cv : LVal), (i : Int) = z → (e : Int) = w → i < 3 → e < 17 → zK dv a.ds → zN cv a.n → ∃ a1 dv' cv' q, a1 = (zk a i e p.id []).1 ∧ zK dv' a1.ds ∧ zN cv' a1.n ∧ zq D.W 52 [.ptr K 0, .int .i64 z, .int .i64 w, .int .i64 p.id, .str []] (stW st K (a.mk' dv cv).obj [.cells 57 p.cells]) = some (.bool q, some (stW st K (a1.mk' dv' cv').obj [.cells 57 p.cells])) := by
  intro i e z w dv cv hz hw hi he h1 h2
  subst hz; subst hw
  obtain ⟨dv', cv', x1, x2, k⟩ := oO hs a ha dv cv h1 h2 p i hi e he p.id []
  exact ⟨_, dv', cv', _, rfl, x1, x2, k⟩
 obtain ⟨a14, d14, c14, q14, h14, x14, y14, k14⟩ := main 0 14 0 14 dv cv rfl rfl (by decide) (by decide) hdv hcv
 obtain ⟨a15, d15, c15, q15, h15, x15, y15, k15⟩ := main 0 15 0 15 dv cv rfl rfl (by decide) (by decide) hdv hcv
 have al14 := al a14 d14 c14 x14 y14
 have al15 := al a15 d15 c15 x15 y15
 obtain ⟨dv1, cv1, hdv1, hcv1, hld⟩ : ∃ dv1 cv1, zK dv1 a.ds ∧ zN cv1 a.n ∧ ((dv.zr = true ∧ dv1 = dv.stay ∧ cv1 = cv.stay) ∨ (dv.zr = false ∧ dv1 = dv ∧ cv1 = cv)) := by
  cases h : dv.zr with
  | true => exact ⟨_, _, hdv.stay, hcv.stay, .inl ⟨rfl, rfl, rfl⟩⟩
  | false => exact ⟨_, _, hdv, hcv, .inr ⟨rfl, rfl, rfl⟩⟩
 have al1 := al a dv1 cv1 hdv1 hcv1
 obtain ⟨a1, d1, c1, q1, g1, x1, y1, kh1⟩ := main 1 15 1 15 dv1 cv1 rfl rfl (by decide) (by decide) hdv1 hcv1
 obtain ⟨a2, d2, c2, q2, g2, x2, y2, kh2⟩ := main 2 15 2 15 dv1 cv1 rfl rfl (by decide) (by decide) hdv1 hcv1
 have alh1 := al a1 d1 c1 x1 y1
 have alh2 := al a2 d2 c2 x2 y2
 have hnet : a.net = (a.l0.st == 9 && a.g.done) := rfl
 rw [zC hK]
 clear main al
 generalize hW14 : (a14.mk' d14 c14).obj = W14 at *
 generalize hW15 : (a15.mk' d15 c15).obj = W15 at *
 generalize hW1 : (a1.mk' d1 c1).obj = W1 at *
 generalize hW2 : (a2.mk' d2 c2).obj = W2 at *
 unfold zD.cells at k16
 unfold AW.mk' zw.obj zw.cells zg.cells zA.cells zl.cells zE.cells at *
 simp only [List.cons_append, List.nil_append] at *
 cases ok with
 | false =>
  have F := an F0 (an e1 (an e2 (an k1 (an k2 (eq_true al0)))))
  refine Ret.of wk ?_
  exact ⟨a, dv, cv, hdv, hcv, by rw [zz hs], rfl, .inl rfl⟩
 | true =>
  by_cases h9 : a.l0.st = 9
  ·have hb9 : (a.l0.st != 9) = false := by rw [h9]; rfl
   rcases oo x with hx | hx | hx | hx
   ·rw [hx] at k2
    have F := an F0 (an e1 (an e2 (an k1 (an k2 (an hb9 (an k14 (eq_true al14)))))))
    refine Ret.of wk ?_
    exact ⟨a14, d14, c14, x14, y14, by rw [zz hs, ← hW14], rfl, .inr (.inl h14)⟩
   ·rw [hx] at k2
    have F := an F0 (an e1 (an e2 (an k1 (an k2 (an hb9 (an k15 (eq_true al15)))))))
    refine Ret.of wk ?_
    exact ⟨a15, d15, c15, x15, y15, by rw [zz hs, ← hW15], rfl, .inr (.inr (.inl h15))⟩
   ·rw [hx] at k2
    cases hn : a.net with
    | false =>
     rw [hn] at k16
     rcases hld with ⟨hio, rfl, rfl⟩ | ⟨hio, rfl, rfl⟩
     ·have F := an F0 (an e1 (an e2 (an k1 (an k2 (an hb9 (an k16 (an hio (an hda (eq_true al1)))))))))
      refine Ret.of wk ?_
      exact ⟨a, _, _, hdv1, hcv1, by rw [zz hs], rfl, .inl rfl⟩
     ·have F := an F0 (an e1 (an e2 (an k1 (an k2 (an hb9 (an k16 (an hio (an hda (eq_true al1)))))))))
      refine Ret.of wk ?_
      exact ⟨a, _, _, hdv1, hcv1, by rw [zz hs], rfl, .inl rfl⟩
    | true =>
     rw [hn] at k16
     rcases hld with ⟨hio, rfl, rfl⟩ | ⟨hio, rfl, rfl⟩
     ·have F := an F0 (an e1 (an e2 (an k1 (an k2 (an hb9 (an k16 (an hio (an hda (an kh1 (eq_true alh1))))))))))
      refine Ret.of wk ?_
      exact ⟨a1, d1, c1, x1, y1, by rw [zz hs, ← hW1], rfl, .inr (.inr (.inr ⟨hn, 1, .inl rfl, g1⟩))⟩
     ·have F := an F0 (an e1 (an e2 (an k1 (an k2 (an hb9 (an k16 (an hio (an hda (an kh1 (eq_true alh1))))))))))
      refine Ret.of wk ?_
      exact ⟨a1, d1, c1, x1, y1, by rw [zz hs, ← hW1], rfl, .inr (.inr (.inr ⟨hn, 1, .inl rfl, g1⟩))⟩
   ·rw [hx] at k2
    cases hn : a.net with
    | false =>
     rw [hn] at k16
     rcases hld with ⟨hio, rfl, rfl⟩ | ⟨hio, rfl, rfl⟩
     ·have F := an F0 (an e1 (an e2 (an k1 (an k2 (an hb9 (an k16 (an hio (an hda (eq_true al1)))))))))
      refine Ret.of wk ?_
      exact ⟨a, _, _, hdv1, hcv1, by rw [zz hs], rfl, .inl rfl⟩
     ·have F := an F0 (an e1 (an e2 (an k1 (an k2 (an hb9 (an k16 (an hio (an hda (eq_true al1)))))))))
      refine Ret.of wk ?_
      exact ⟨a, _, _, hdv1, hcv1, by rw [zz hs], rfl, .inl rfl⟩
    | true =>
     rw [hn] at k16
     rcases hld with ⟨hio, rfl, rfl⟩ | ⟨hio, rfl, rfl⟩
     ·have F := an F0 (an e1 (an e2 (an k1 (an k2 (an hb9 (an k16 (an hio (an hda (an kh2 (eq_true alh2))))))))))
      refine Ret.of wk ?_
      exact ⟨a2, d2, c2, x2, y2, by rw [zz hs, ← hW2], rfl, .inr (.inr (.inr ⟨hn, 2, .inr rfl, g2⟩))⟩
     ·have F := an F0 (an e1 (an e2 (an k1 (an k2 (an hb9 (an k16 (an hio (an hda (an kh2 (eq_true alh2))))))))))
      refine Ret.of wk ?_
      exact ⟨a2, d2, c2, x2, y2, by rw [zz hs, ← hW2], rfl, .inr (.inr (.inr ⟨hn, 2, .inr rfl, g2⟩))⟩
  ·have hb : (a.l0.st != 9) = true := by simpa using h9
   have F := an F0 (an e1 (an e2 (an k1 (an k2 (an h9 (an hb (eq_true al0)))))))
   refine Ret.of wk ?_
   exact ⟨a, dv, cv, hdv, hcv, by rw [zz hs], rfl, .inl rfl⟩
end Go.Proofs.YtpfnlpakcldobaaGreat
namespace Go.Proofs.YtpfnlpakcldobaaGreat
open Go Go.L
theorem Wb.ors {b : Bool} {m : Nat} {l : List UInt8} (h : Wb b m l) : (m = 1 ∨ zy l = []) ∧ (m = 1 ∨ l = []) := by
 rcases h with ⟨_, h⟩ | ⟨_, h⟩
 ·exact ⟨.inl h, .inl h⟩
 ·exact ⟨.inr (by rw [h]; rfl), .inr h⟩
def xr (a : AW) (k : Nat) (p : zE) (q : Bool) (a' : AW) : Prop :=
 ∃ l' : zA, a' = a.xa k l' ∧ l'.st = (a.link k).st ∧ l'.rest = (a.link k).rest ∧ (l'.opts = (a.link k).opts ∨ l'.opts = p.data) ∧ (l'.zT = (a.link k).zT ∨ l'.zT = a.c.mf ∨ l'.zT = (a.link k).zT - 1) ∧
  (q = true → (p.code = 2 ∧ l'.zT = a.c.mf) ∨ (p.code = 3 ∧ l'.zT = (a.link k).zT - 1 ∧ 0 ≤ l'.zT) ∨ ((p.code ≠ 2 ∧ p.code ≠ 3) ∧ l'.zT = (a.link k).zT))
theorem setL_link (a : AW) (k : Nat) : a.xa k (a.link k) = a := by
 unfold AW.xa AW.link
 split
 ·rfl
 ·split <;> rfl
theorem xr.same {a : AW} {k : Nat} {p : zE} {q : Bool} (h : q = true → p.code ≠ 2 ∧ p.code ≠ 3) : xr a k p q a :=
 ⟨a.link k, (setL_link a k).symm, rfl, rfl, .inl rfl, .inl rfl, fun e => .inr (.inr ⟨h e, rfl⟩)⟩
end Go.Proofs.YtpfnlpakcldobaaGreat
