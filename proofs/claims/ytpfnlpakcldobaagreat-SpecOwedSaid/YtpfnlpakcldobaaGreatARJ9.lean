/- Texts of the proof: RJ9. -/
import Derived.Test.YtpfnlpakcldobaaGreatARJ8
import Derived.Test.YtpfnlpakcldobaaGreatARC
set_option linter.unusedVariables false
set_option linter.unusedSimpArgs false
set_option linter.unusedSectionVars false
namespace Go.Proofs.YtpfnlpakcldobaaGreat
open Go Go.L
def HapA (a : AW) (x : Int) (a' : AW) : Prop :=
 a' = a ∨ (∃ i, i < 3 ∧ (i = 0 ∨ a.net = true) ∧ qb a i a') ∨ ((x = 49187 ∨ x = 49699) ∧ LogA a x a') ∨ ∃ data : List UInt8, data.length ≤ 70000 ∧ a' = { a with ds := a.ds ++ [⟨8, 49185, 0, data⟩] }
set_option maxHeartbeats 80000000 in
theorem ki {N K : Nat} {st : List zt} (hs : xA N K st) (a : AW) (ha : a.ok 90000) (dv cv : LVal) (hdv : zK dv a.ds) (hcv : zN cv a.n) (hK : st[K]? = some (a.mk' dv cv).obj) (dir x : Int) (hx0 : 1 ≤ x) (hx1 : x ≤ 65535) (b : Bool) (m : Nat) (l : List UInt8) (hw : Wb b m l) (hl : l.length ≤ 65531) (vo : Bool) :
 Leaves 133 [.agg [.int .i64 dir, .int .i64 x, .vs b .sh m (zy l), .bool vo], .ptr K 0] st K (fun v a' => (∃ q : Bool, v = .bool q) ∧ HapA a x a') := by
 suffices h : Ret D.W 133 [.agg [.int .i64 dir, .int .i64 x, .vs b .sh m (zy l), .bool vo], .ptr K 0] st (fun v o => ∃ a' dv' cv', zK dv' a'.ds ∧ zN cv' a'.n ∧ o = some (st.set K (a'.mk' dv' cv').obj) ∧ (∃ q : Bool, v = .bool q) ∧ HapA a x a') by
  obtain ⟨v, o, k, a', dv', cv', x1, x2, rfl, x3⟩ := h
  exact ⟨v, a', dv', cv', x1, x2, k, x3⟩
 have hlt := hs.lt
 have hlt' : K < N + 1 := by omega
 have F0 := sF hs
 have e1 := zx l
 have kl := ta x
 generalize hB : zt.cells 98 [.int .i64 dir, .int .i64 x, .vs b .sh m (zy l), .bool vo] = B at *
 have hBw : ∀ n, zt.within n B = true := by intro n; rw [← hB]; simp [LVal.zb, LVal.within]
 have hBs : B.settle = B := by rw [← hB]; simp
 have al : ∀ (a : AW) (dv cv : LVal), zK dv a.ds → zN cv a.n → ∀ x ∈ stW st K (a.mk' dv cv).obj [], zt.within N x = true := fun a dv cv x y => xm hs (zw.within _ x y N)
 have hsB : ∀ (a : AW) (dv cv : LVal), zK dv a.ds → zN cv a.n → xA (N + 1) K (stW st K (a.mk' dv cv).obj [B]) := fun a dv cv x y => qp hs a dv cv x y [B] (by intro z hz; simp only [List.mem_singleton] at hz; subst hz; exact hBw _) (by intro z hz; simp only [List.mem_singleton] at hz; subst hz; exact hBs)
 obtain ⟨b', m', hda, hwd⟩ := pS hdv
 have k16 := rb a b' m'
 obtain ⟨dv1, cv1, hdv1, hcv1, hld⟩ : ∃ dv1 cv1, zK dv1 a.ds ∧ zN cv1 a.n ∧ ((dv.zr = true ∧ dv1 = dv.stay ∧ cv1 = cv.stay) ∨ (dv.zr = false ∧ dv1 = dv ∧ cv1 = cv)) := by
  cases h : dv.zr with
  | true => exact ⟨_, _, hdv.stay, hcv.stay, .inl ⟨rfl, rfl, rfl⟩⟩
  | false => exact ⟨_, _, hdv, hcv, .inr ⟨rfl, rfl, rfl⟩⟩
 have al0 := al a dv cv hdv hcv
 have al1 := al a dv1 cv1 hdv1 hcv1
 have comes : ∀ (i : Nat) (z : Int) (dv cv : LVal), (i : Int) = z → i < 3 → zK dv a.ds → zN cv a.n → ∃ (q : Bool) (a' : AW) (dv' cv' : LVal), qb a i a' ∧ zK dv' a'.ds ∧ zN cv' a'.n ∧ zq D.W 135 [.ptr K 0, .int .i64 z, .vs b .sh m (zy l), .bool vo] (stW st K (a.mk' dv cv).obj [B]) = some (.bool q, some (stW st K (a'.mk' dv' cv').obj [B])) := by
  intro i z dv cv hz hi h1 h2
  subst hz
  obtain ⟨v, a', dv', cv', x1, x2, k, ⟨q, rfl⟩, x3⟩ := comes_eq (hsB a dv cv h1 h2) a ha dv cv h1 h2 (xM hs _ _) i hi b m l hw hl vo
  rw [zz hs] at k
  exact ⟨q, a', dv', cv', x3, x1, x2, k⟩
 rw [zC hK]
 by_cases hst : a.l0.st < 2
 ·clear comes hsB al
  subst hB
  unfold AW.mk' zw.obj zw.cells zg.cells zA.cells zl.cells at *
  simp only [List.cons_append, List.nil_append] at *
  have F := an F0 (an e1 (an hst (eq_true al0)))
  refine Ret.of wk ?_
  exact ⟨a, dv, cv, hdv, hcv, by rw [zz hs], ⟨_, rfl⟩, .inl rfl⟩
 rcases oo x with hx | hx | hx | hx
 case inr.inl =>
  rw [hx] at kl
  obtain ⟨q, a', dv', cv', hc, x1, x2, k⟩ := comes 0 0 dv cv rfl (by decide) hdv hcv
  have al2 := al a' dv' cv' x1 x2
  clear comes hsB al
  subst hB
  generalize hW1 : (a'.mk' dv' cv').obj = W1 at *
  unfold AW.mk' zw.obj zw.cells zg.cells zA.cells zl.cells at *
  simp only [List.cons_append, List.nil_append] at *
  have F := an F0 (an e1 (an hst (an kl (an k (eq_true al2)))))
  refine Ret.of wk ?_
  exact ⟨a', dv', cv', x1, x2, by rw [zz hs, ← hW1], ⟨_, rfl⟩, .inr (.inl ⟨0, by decide, .inl rfl, hc⟩)⟩
 case inl =>
  rw [hx] at kl
  by_cases hno : x = 33 ∨ x = 87 ∨ a.l0.st ≠ 9
  ·clear comes hsB al
   subst hB
   unfold AW.mk' zw.obj zw.cells zg.cells zA.cells zl.cells at *
   simp only [List.cons_append, List.nil_append] at *
   by_cases h33 : x = 33
   ·subst h33
    have F := an F0 (an e1 (an hst (an kl (eq_true al0))))
    refine Ret.of wk ?_
    exact ⟨a, dv, cv, hdv, hcv, by rw [zz hs], ⟨_, rfl⟩, .inl rfl⟩
   by_cases h87 : x = 87
   ·subst h87
    have F := an F0 (an e1 (an hst (an kl (an h33 (eq_true al0)))))
    refine Ret.of wk ?_
    exact ⟨a, dv, cv, hdv, hcv, by rw [zz hs], ⟨_, rfl⟩, .inl rfl⟩
   have h9 : a.l0.st ≠ 9 := by rcases hno with h | h | h; exact absurd h h33; exact absurd h h87; exact h
   have hb9 : (a.l0.st != 9) = true := by simpa using h9
   have F := an F0 (an e1 (an hst (an kl (an h33 (an h87 (an hb9 (eq_true al0)))))))
   refine Ret.of wk ?_
   exact ⟨a, dv, cv, hdv, hcv, by rw [zz hs], ⟨_, rfl⟩, .inl rfl⟩
  ·have h33 : ¬ x = 33 := fun h => hno (.inl h)
   have h87 : ¬ x = 87 := fun h => hno (.inr (.inl h))
   have h9 : a.l0.st = 9 := by
    refine Classical.byContradiction fun h => hno (.inr (.inr h))
   have hb9 : (a.l0.st != 9) = false := by rw [h9]; rfl
   by_cases hlg : x = 49187 ∨ x = 49699
   ·obtain ⟨v, a', dv', cv', x1, x2, k, rfl, hl3⟩ := login_eq (hsB a dv cv hdv hcv) a ha dv cv hdv hcv (xM hs _ _) x b m l hw hl
    rw [zz hs] at k
    have al2 := al a' dv' cv' x1 x2
    clear comes hsB al
    subst hB
    generalize hW1 : (a'.mk' dv' cv').obj = W1 at *
    unfold AW.mk' zw.obj zw.cells zg.cells zA.cells zl.cells at *
    simp only [List.cons_append, List.nil_append] at *
    by_cases hp : x = 49187
    ·subst hp
     have F := an F0 (an e1 (an hst (an kl (an h33 (an h87 (an hb9 (an k (eq_true al2))))))))
     refine Ret.of wk ?_
     exact ⟨a', dv', cv', x1, x2, by rw [zz hs, ← hW1], ⟨_, rfl⟩, .inr (.inr (.inl ⟨hlg, hl3⟩))⟩
    ·have hch : x = 49699 := by rcases hlg with h | h; exact absurd h hp; exact h
     subst hch
     have F := an F0 (an e1 (an hst (an kl (an h33 (an h87 (an hb9 (an hp (an k (eq_true al2)))))))))
     refine Ret.of wk ?_
     exact ⟨a', dv', cv', x1, x2, by rw [zz hs, ← hW1], ⟨_, rfl⟩, .inr (.inr (.inl ⟨hlg, hl3⟩))⟩
   ·have hp : ¬ x = 49187 := fun h => hlg (.inl h)
    have hch : ¬ x = 49699 := fun h => hlg (.inr h)
    obtain ⟨b2, m2, r, kr, hw2, hr⟩ := jy x hx0 hx1 b m l hw (by omega) a.c.mru
    have e2 := zx r
    have e3 := yq r
    have e4 := ze r
    have hw3 : m2 = 1 ∨ zy r = [] := by rcases hw2 with ⟨_, h⟩ | ⟨_, h⟩; exact .inl h; exact .inr (by rw [h]; rfl)
    have hw4 : m2 = 1 ∨ r = [] := by rcases hw2 with ⟨_, h⟩ | ⟨_, h⟩; exact .inl h; exact .inr h
    obtain ⟨dv', cv', x1, x2, k⟩ := tV (hsB a dv.stay cv.stay hdv.stay hcv.stay) (a.mk' dv.stay cv.stay) hdv.stay hcv.stay (by have := ha.due; simp only [AW.mk']; omega) (xM hs _ _) ⟨8, 49185, 0, r⟩
    rw [zz hs] at k
    have al2 := al { a with ds := a.ds ++ [⟨8, 49185, 0, r⟩] } dv' cv' x1 x2
    clear comes hsB al
    subst hB
    have hW1 : ∃ W1, W1 = (({ a with ds := a.ds ++ [⟨8, 49185, 0, r⟩] } : AW).mk' dv' cv').obj := ⟨_, rfl⟩
    obtain ⟨W1, hW1⟩ := hW1
    have k' : zq D.W 66 [.ptr K 0, .agg (yu.cells ⟨8, 49185, 0, r⟩)] (stW st K (a.mk' dv.stay cv.stay).obj [.cells 98 [.int .i64 dir, .int .i64 x, .vs b .sh m (zy l), .bool vo]]) = some (.tup [], some (stW st K W1 [.cells 98 [.int .i64 dir, .int .i64 x, .vs b .sh m (zy l), .bool vo]])) := by rw [hW1]; exact k
    rw [← hW1] at al2
    clear k
    unfold AW.mk' zw.obj zw.cells zg.cells zA.cells zl.cells yu.cells at *
    simp only [List.cons_append, List.nil_append] at *
    have F := an F0 (an e1 (an hst (an kl (an h33 (an h87 (an hb9 (an hp (an hch (an kr (an e2 (an e3 (an e4 (an hw3 (an hw4 (an k' (eq_true al2))))))))))))))))
    refine Ret.of wk ?_
    exact ⟨{ a with ds := a.ds ++ [⟨8, 49185, 0, r⟩] }, dv', cv', x1, x2, by rw [zz hs, hW1], ⟨_, rfl⟩, .inr (.inr (.inr ⟨r, hr, rfl⟩))⟩
 case inr.inr.inl =>
  rw [hx] at kl
  obtain ⟨q, a', dv', cv', hc, x1, x2, k⟩ := comes 1 1 dv1 cv1 rfl (by decide) hdv1 hcv1
  have al2 := al a' dv' cv' x1 x2
  clear comes hsB al
  subst hB
  generalize hW1 : (a'.mk' dv' cv').obj = W1 at *
  unfold zD.cells at k16
  unfold AW.mk' zw.obj zw.cells zg.cells zA.cells zl.cells at *
  simp only [List.cons_append, List.nil_append] at *
  cases hn : a.net with
  | false =>
   rw [hn] at k16
   rcases hld with ⟨hio, rfl, rfl⟩ | ⟨hio, rfl, rfl⟩
   all_goals
    have F := an F0 (an e1 (an hst (an kl (an hio (an hda (an k16 (eq_true al1)))))))
    refine Ret.of wk ?_
    exact ⟨a, _, _, hdv1, hcv1, by rw [zz hs], ⟨_, rfl⟩, .inl rfl⟩
  | true =>
   rw [hn] at k16
   rcases hld with ⟨hio, rfl, rfl⟩ | ⟨hio, rfl, rfl⟩
   all_goals
    have F := an F0 (an e1 (an hst (an kl (an hio (an hda (an k16 (an k (eq_true al2))))))))
    refine Ret.of wk ?_
    exact ⟨a', dv', cv', x1, x2, by rw [zz hs, ← hW1], ⟨_, rfl⟩, .inr (.inl ⟨1, by decide, .inr hn, hc⟩)⟩
 case inr.inr.inr =>
  rw [hx] at kl
  obtain ⟨q, a', dv', cv', hc, x1, x2, k⟩ := comes 2 2 dv1 cv1 rfl (by decide) hdv1 hcv1
  have al2 := al a' dv' cv' x1 x2
  clear comes hsB al
  subst hB
  generalize hW1 : (a'.mk' dv' cv').obj = W1 at *
  unfold zD.cells at k16
  unfold AW.mk' zw.obj zw.cells zg.cells zA.cells zl.cells at *
  simp only [List.cons_append, List.nil_append] at *
  cases hn : a.net with
  | false =>
   rw [hn] at k16
   rcases hld with ⟨hio, rfl, rfl⟩ | ⟨hio, rfl, rfl⟩
   all_goals
    have F := an F0 (an e1 (an hst (an kl (an hio (an hda (an k16 (eq_true al1)))))))
    refine Ret.of wk ?_
    exact ⟨a, _, _, hdv1, hcv1, by rw [zz hs], ⟨_, rfl⟩, .inl rfl⟩
  | true =>
   rw [hn] at k16
   rcases hld with ⟨hio, rfl, rfl⟩ | ⟨hio, rfl, rfl⟩
   all_goals
    have F := an F0 (an e1 (an hst (an kl (an hio (an hda (an k16 (an k (eq_true al2))))))))
    refine Ret.of wk ?_
    exact ⟨a', dv', cv', x1, x2, by rw [zz hs, ← hW1], ⟨_, rfl⟩, .inr (.inl ⟨2, by decide, .inr hn, hc⟩)⟩
end Go.Proofs.YtpfnlpakcldobaaGreat
