/- Texts of the proof: RJ5. -/
import Derived.Test.YtpfnlpakcldobaaGreatARJ2
import Derived.Test.YtpfnlpakcldobaaGreatARJ7
set_option linter.unusedVariables false
set_option linter.unusedSimpArgs false
set_option linter.unusedSectionVars false
namespace Go.Proofs.YtpfnlpakcldobaaGreat
open Go Go.L
def qb (a : AW) (i : Nat) (a' : AW) : Prop :=
 a' = a ∨ (∃ e id data, (e = 7 ∨ e = 8 ∨ e = 11 ∨ e = 12 ∨ e = 13 ∨ e = 14 ∨ e = 15) ∧ data.length ≤ 70000 ∧ a' = (zk a i e id data).1) ∨
 (i = 0 ∧ ∃ (t : Int) (id : Int) (data : List UInt8), data.length ≤ 70000 ∧ a' = { (zk a 0 7 id data).1 with g := { (zk a 0 7 id data).1.g with uR := t } }) ∨
 (∃ id, Ansd a i id a') ∨ (i = 0 ∧ ∃ id, Refd a id a') ∨ (i = 0 ∧ ∃ id r, r.length ≤ 70000 ∧ a' = (zk a 0 16 id r).1)
def Hi (p : zE) : Prop := p.code ≠ 1 ∧ p.code ≠ 5 ∧ p.code ≠ 6 ∧ p.code ≠ 7 ∧ ¬ (2 ≤ p.code ∧ p.code ≤ 4)
set_option maxHeartbeats 80000000 in
theorem comesHi {N K : Nat} {st : List zt} (hs : xA N K st) (a : AW) (ha : a.ok 90000) (dv cv : LVal) (hdv : zK dv a.ds) (hcv : zN cv a.n) (hK : st[K]? = some (a.mk' dv cv).obj) (i : Nat) (hi : i < 3) (b : Bool) (m : Nat) (l : List UInt8) (hl : l.length ≤ 65531) (vo : Bool)
 (p : zE) (kg : zq D.W 47 [.vs b .sh m (zy l)] [] = some (.tup [.agg p.cells, .int .i64 0], none)) (hp : p.wf l.length) (hh : Hi p) :
 Ret D.W 135 [.ptr K 0, .int .i64 i, .vs b .sh m (zy l), .bool vo] st (fun v o => ∃ a' dv' cv', zK dv' a'.ds ∧ zN cv' a'.n ∧ o = some (st.set K (a'.mk' dv' cv').obj) ∧ (∃ q, v = .bool q) ∧ qb a i a') := by
 have hlt := hs.lt
 have hlt' : K < N + 1 := by omega
 have F0 := sF hs
 have e1 := zx p.data
 have e3 := ze l
 have al : ∀ (a : AW) (dv cv : LVal), zK dv a.ds → zN cv a.n → ∀ x ∈ stW st K (a.mk' dv cv).obj [], zt.within N x = true := fun a dv cv x y => xm hs (zw.within _ x y N)
 have hsB : ∀ (a : AW) (dv cv : LVal), zK dv a.ds → zN cv a.n → xA (N + 1) K (stW st K (a.mk' dv cv).obj [.cells 57 p.cells]) := fun a dv cv x y => qp hs a dv cv x y [.cells 57 p.cells] (B57 N p) (B57' p)
 obtain ⟨h1, h5, h6, h7, h24⟩ := hh
 rw [zC hK]
 by_cases hA : i = 0 ∧ p.code = 8
 ·obtain ⟨h0, h8⟩ := hA
  have hi0 : (i : Int) = 0 := by omega
  have g2 : 2 ≤ p.code := by omega
  have g4 : ¬ p.code ≤ 4 := by omega
  have b8 : (p.code == 8) = true := by rw [h8]; rfl
  obtain ⟨v, a', dv', cv', x1, x2, k, hv, hr⟩ := refused_eq (hsB a dv cv hdv hcv) a ha dv cv hdv hcv (xM hs _ _) p l.length hp (by omega)
  rw [zz hs] at k
  subst hv
  have al1 := al a' dv' cv' x1 x2
  clear hsB
  generalize hW0 : (a.mk' dv cv).obj = W0 at *
  generalize hW1 : (a'.mk' dv' cv').obj = W1 at *
  unfold zE.cells at *
  have F := an F0 (an e1 (an e3 (an kg (an h1 (an h5 (an h6 (an h7 (an hi0 (an g2 (an g4 (an b8 (an k (eq_true al1)))))))))))))
  refine Ret.of wk ?_
  exact ⟨a', dv', cv', x1, x2, by rw [zz hs, hW1], ⟨_, rfl⟩, .inr (.inr (.inr (.inr (.inl ⟨h0, _, hr⟩))))⟩
 by_cases hB : i = 0 ∧ 9 ≤ p.code ∧ p.code ≤ 11
 ·obtain ⟨h0, h9, h11⟩ := hB
  have hi0 : (i : Int) = 0 := by omega
  have g2 : 2 ≤ p.code := by omega
  have g4 : ¬ p.code ≤ 4 := by omega
  have g8 : ¬ p.code = 8 := by omega
  obtain ⟨v, a', dv', cv', x1, x2, k, hv, hr⟩ := echo_eq (hsB a dv cv hdv hcv) a ha dv cv hdv hcv (xM hs _ _) p l.length hp (by omega)
  rw [zz hs] at k
  subst hv
  have al1 := al a' dv' cv' x1 x2
  have hcame : qb a i a' := by
   rcases hr with hr | ⟨r, hrl, hr⟩
   ·exact .inl hr
   ·exact .inr (.inr (.inr (.inr (.inr ⟨h0, _, r, by omega, hr⟩))))
  clear hsB hr
  generalize hW0 : (a.mk' dv cv).obj = W0 at *
  generalize hW1 : (a'.mk' dv' cv').obj = W1 at *
  unfold zE.cells at *
  have F := an F0 (an e1 (an e3 (an kg (an h1 (an h5 (an h6 (an h7 (an hi0 (an g2 (an g4 (an g8 (an h9 (an h11 (an k (eq_true al1)))))))))))))))
  refine Ret.of wk ?_
  exact ⟨a', dv', cv', x1, x2, by rw [zz hs, hW1], ⟨_, rfl⟩, hcame⟩
 obtain ⟨b1, m1, r1, e', kp, hw1, hr1⟩ := put_ex p l.length hp hl
 obtain ⟨b2, m2, r2, kc, hw2, hr2⟩ := coderej_ex b1 m1 r1 hw1 (by omega) a.c.mru
 have e4 := zx r1
 have e5 := zx r2
 have e6 := yq r2
 have w1 : m2 = 1 ∨ zy r2 = [] := by rcases hw2 with ⟨_, h⟩ | ⟨_, h⟩; exact .inl h; exact .inr (by rw [h]; rfl)
 have w2 : m2 = 1 ∨ r2 = [] := by rcases hw2 with ⟨_, h⟩ | ⟨_, h⟩; exact .inl h; exact .inr h
 have e7 := ze r2
 obtain ⟨dv', cv', x1, x2, k0⟩ := oO hs a ha dv.stay cv.stay hdv.stay hcv.stay p i hi 13 (by decide) p.id r2
 have k : zq D.W 52 [.ptr K 0, .int .i64 i, .int .i64 13, .int .i64 p.id, .str r2] _ = _ := k0
 clear k0
 have al1 := al _ dv' cv' x1 x2
 have hcame : qb a i (zk a i 13 p.id r2).1 := .inr (.inl ⟨13, _, r2, .inr (.inr (.inr (.inr (.inl rfl)))), by omega, rfl⟩)
 clear hsB al
 generalize (zk a i 13 p.id r2).2 = q at *
 generalize (zk a i 13 p.id r2).1 = a' at *
 generalize hW1 : (a'.mk' dv' cv').obj = W1 at *
 unfold AW.mk' zw.obj zw.cells zg.cells zA.cells zl.cells zE.cells at *
 simp only [List.cons_append, List.nil_append] at *
 by_cases h2 : 2 ≤ p.code
 ·have g4 : ¬ p.code ≤ 4 := fun h => h24 ⟨h2, h⟩
  by_cases h0 : i = 0
  ·have hi0 : ((i : Int) == 0) = true := by simpa using (by omega : (i : Int) = 0)
   have g8 : ¬ p.code = 8 := fun h => hA ⟨h0, h⟩
   by_cases h9 : 9 ≤ p.code
   ·have g11 : ¬ p.code ≤ 11 := fun h => hB ⟨h0, h9, h⟩
    have F := an F0 (an e1 (an e3 (an kg (an h1 (an h5 (an h6 (an h7 (an h2 (an g4 (an hi0 (an g8 (an h9 (an g11 (an kp (an kc (an e4 (an e5 (an e6 (an e7 (an w1 (an w2 (an k (eq_true al1)))))))))))))))))))))))
    refine Ret.of wk ?_
    exact ⟨a', dv', cv', x1, x2, by rw [zz hs, ← hW1], ⟨_, rfl⟩, hcame⟩
   ·have F := an F0 (an e1 (an e3 (an kg (an h1 (an h5 (an h6 (an h7 (an h2 (an g4 (an hi0 (an g8 (an h9 (an kp (an kc (an e4 (an e5 (an e6 (an e7 (an w1 (an w2 (an k (eq_true al1))))))))))))))))))))))
    refine Ret.of wk ?_
    exact ⟨a', dv', cv', x1, x2, by rw [zz hs, ← hW1], ⟨_, rfl⟩, hcame⟩
  ·have hi0 : ¬ (i : Int) = 0 := by omega
   have F := an F0 (an e1 (an e3 (an kg (an h1 (an h5 (an h6 (an h7 (an h2 (an g4 (an hi0 (an h0 (an kp (an kc (an e4 (an e5 (an e6 (an e7 (an w1 (an w2 (an k (eq_true al1)))))))))))))))))))))
   refine Ret.of wk ?_
   exact ⟨a', dv', cv', x1, x2, by rw [zz hs, ← hW1], ⟨_, rfl⟩, hcame⟩
 ·have g8 : ¬ p.code = 8 := by omega
  have h9 : ¬ 9 ≤ p.code := by omega
  by_cases h0 : i = 0
  ·have hi0 : ((i : Int) == 0) = true := by simpa using (by omega : (i : Int) = 0)
   have F := an F0 (an e1 (an e3 (an kg (an h1 (an h5 (an h6 (an h7 (an h2 (an hi0 (an g8 (an h9 (an kp (an kc (an e4 (an e5 (an e6 (an e7 (an w1 (an w2 (an k (eq_true al1)))))))))))))))))))))
   refine Ret.of wk ?_
   exact ⟨a', dv', cv', x1, x2, by rw [zz hs, ← hW1], ⟨_, rfl⟩, hcame⟩
  ·have hi0 : ¬ (i : Int) = 0 := by omega
   have F := an F0 (an e1 (an e3 (an kg (an h1 (an h5 (an h6 (an h7 (an h2 (an hi0 (an h0 (an kp (an kc (an e4 (an e5 (an e6 (an e7 (an w1 (an w2 (an k (eq_true al1))))))))))))))))))))
   refine Ret.of wk ?_
   exact ⟨a', dv', cv', x1, x2, by rw [zz hs, ← hW1], ⟨_, rfl⟩, hcame⟩
end Go.Proofs.YtpfnlpakcldobaaGreat
