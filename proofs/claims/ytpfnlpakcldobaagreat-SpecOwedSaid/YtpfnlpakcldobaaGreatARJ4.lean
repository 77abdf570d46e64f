/- Texts of the proof: RJ4. -/
import Derived.Test.YtpfnlpakcldobaaGreatARJ5
set_option linter.unusedVariables false
set_option linter.unusedSimpArgs false
set_option linter.unusedSectionVars false
namespace Go.Proofs.YtpfnlpakcldobaaGreat
open Go Go.L
set_option maxHeartbeats 80000000 in
theorem comes_eq {N K : Nat} {st : List zt} (hs : xA N K st) (a : AW) (ha : a.ok 90000) (dv cv : LVal) (hdv : zK dv a.ds) (hcv : zN cv a.n) (hK : st[K]? = some (a.mk' dv cv).obj) (i : Nat) (hi : i < 3) (b : Bool) (m : Nat) (l : List UInt8) (hw : Wb b m l) (hl : l.length ≤ 65531) (vo : Bool) :
 Leaves 135 [.ptr K 0, .int .i64 i, .vs b .sh m (zy l), .bool vo] st K (fun v a' => (∃ q, v = .bool q) ∧ qb a i a') := by
 suffices h : Ret D.W 135 [.ptr K 0, .int .i64 i, .vs b .sh m (zy l), .bool vo] st (fun v o => ∃ a' dv' cv', zK dv' a'.ds ∧ zN cv' a'.n ∧ o = some (st.set K (a'.mk' dv' cv').obj) ∧ (∃ q, v = .bool q) ∧ qb a i a') by
  obtain ⟨v, o, k, a', dv', cv', x1, x2, rfl, x3⟩ := h
  exact ⟨v, a', dv', cv', x1, x2, k, x3⟩
 have hlt := hs.lt
 have hlt' : K < N + 1 := by omega
 have F0 := sF hs
 obtain ⟨p, e, kg, hp, _, _, _⟩ := get47 b m l hw (by omega)
 have hpl : p.data.length ≤ 70000 := by have := hp.2.2.2.2.2; omega
 have e1 := zx p.data
 have e3 := ze p.data
 have al : ∀ (a : AW) (dv cv : LVal), zK dv a.ds → zN cv a.n → ∀ x ∈ stW st K (a.mk' dv cv).obj [], zt.within N x = true := fun a dv cv x y => xm hs (zw.within _ x y N)
 have al0 := al a dv cv hdv hcv
 have hsB : ∀ (a : AW) (dv cv : LVal), zK dv a.ds → zN cv a.n → xA (N + 1) K (stW st K (a.mk' dv cv).obj [.cells 57 p.cells]) := fun a dv cv x y => qp hs a dv cv x y [.cells 57 p.cells] (B57 N p) (B57' p)
 have hap : ∀ (e : Nat) (w : Int), (e : Int) = w → e < 17 → ∀ data, ∃ a1 dv' cv' q, a1 = (zk a i e p.id data).1 ∧ zK dv' a1.ds ∧ zN cv' a1.n ∧ zq D.W 52 [.ptr K 0, .int .i64 i, .int .i64 w, .int .i64 p.id, .str data] (stW st K (a.mk' dv cv).obj [.cells 57 p.cells]) = some (.bool q, some (stW st K (a1.mk' dv' cv').obj [.cells 57 p.cells])) ∧ (∀ x ∈ stW st K (a1.mk' dv' cv').obj [], zt.within N x = true) := by
  intro e w hw he data
  subst hw
  obtain ⟨dv', cv', x1, x2, k⟩ := oO hs a ha dv cv hdv hcv p i hi e he p.id data
  exact ⟨_, dv', cv', _, rfl, x1, x2, k, al _ dv' cv' x1 x2⟩
 by_cases hhi : e = 0 ∧ Hi p
 ·obtain ⟨rfl, hhi⟩ := hhi
  exact comesHi hs a ha dv cv hdv hcv hK i hi b m l hl vo p kg hp hhi
 rw [zC hK]
 by_cases he : e = 0
 case neg =>
  have he' : (e != 0) = true := by simpa using he
  generalize hW0 : (a.mk' dv cv).obj = W0 at *
  clear hap hsB
  unfold zE.cells at *
  have F := an F0 (an e1 (an e3 (an kg (an he (an he' (eq_true al0))))))
  refine Ret.of wk ?_
  exact ⟨a, dv, cv, hdv, hcv, by rw [zz hs, hW0], ⟨_, rfl⟩, .inl rfl⟩
 subst he
 by_cases h1 : p.code = 1
 ·obtain ⟨v, a', dv', cv', x1, x2, k, hv, hr⟩ := request_eq (hsB a dv cv hdv hcv) a ha dv cv hdv hcv (xM hs _ _) i hi p l.length hp (by omega) vo
  rw [zz hs] at k
  obtain ⟨b2, m2, os, ok, ko, _⟩ := uz p l.length hp (by omega)
  have e4 := xj os
  have al1 := al a' dv' cv' x1 x2
  have hcame : qb a i a' := by
   rcases hr with hr | ⟨h0, _, t, hr⟩
   ·refine .inr (.inl ⟨_, _, _, ?_, hpl, hr⟩)
    cases vo
    ·exact .inr (.inl rfl)
    ·exact .inl rfl
   ·exact .inr (.inr (.inl ⟨h0, t, p.id, p.data, hpl, by rw [hr, h0]⟩))
  subst hv
  generalize (zk a i (if vo then 7 else 8) p.id p.data).2 = q at *
  clear hap hsB hr
  generalize hW0 : (a.mk' dv cv).obj = W0 at *
  generalize hW1 : (a'.mk' dv' cv').obj = W1 at *
  unfold zE.cells at *
  rw [h1] at k ko
  cases ok with
  | true =>
   cases q with
   | true =>
    have F := an F0 (an e1 (an e3 (an kg (an h1 (an k (an ko (an e4 (eq_true al1))))))))
    refine Ret.of wk ?_
    exact ⟨a', dv', cv', x1, x2, by rw [zz hs, hW1], ⟨_, rfl⟩, hcame⟩
   | false =>
    have F := an F0 (an e1 (an e3 (an kg (an h1 (an k (an ko (an e4 (eq_true al1))))))))
    refine Ret.of wk ?_
    exact ⟨a', dv', cv', x1, x2, by rw [zz hs, hW1], ⟨_, rfl⟩, hcame⟩
  | false =>
   have F := an F0 (an e1 (an e3 (an kg (an h1 (an k (an ko (an e4 (eq_true al0))))))))
   refine Ret.of wk ?_
   exact ⟨a, dv, cv, hdv, hcv, by rw [zz hs, hW0], ⟨_, rfl⟩, .inl rfl⟩
 by_cases h24 : 2 ≤ p.code ∧ p.code ≤ 4
 ·obtain ⟨c1, c2⟩ := h24
  obtain ⟨v, a', dv', cv', x1, x2, k, hv, hr⟩ : Leaves 139 [.ptr K 0, .int .i64 i, .agg p.cells] (stW st K (a.mk' dv cv).obj [.cells 57 p.cells]) K (fun v a' => v = .tup [] ∧ Ansd a i p.id a') := by
   match i, hi with
   | 0, _ => exact kF (hsB a dv cv hdv hcv) a ha dv cv hdv hcv (xM hs _ _) p l.length hp (by omega)
   | 1, _ => exact kE (hsB a dv cv hdv hcv) a ha dv cv hdv hcv (xM hs _ _) p l.length hp (by omega)
   | 2, _ => exact kD (hsB a dv cv hdv hcv) a ha dv cv hdv hcv (xM hs _ _) p l.length hp (by omega)
  rw [zz hs] at k
  subst hv
  have al1 := al a' dv' cv' x1 x2
  clear hap hsB
  generalize hW0 : (a.mk' dv cv).obj = W0 at *
  generalize hW1 : (a'.mk' dv' cv').obj = W1 at *
  unfold zE.cells at *
  have F := an F0 (an e1 (an e3 (an kg (an h1 (an c1 (an c2 (an k (eq_true al1))))))))
  refine Ret.of wk ?_
  exact ⟨a', dv', cv', x1, x2, by rw [zz hs, hW1], ⟨_, rfl⟩, .inr (.inr (.inr (.inl ⟨_, hr⟩)))⟩
 have n24 : (2 ≤ p.code → ¬ p.code ≤ 4) := fun h h' => h24 ⟨h, h'⟩
 have d24 : ∀ q : Prop, True := fun _ => trivial
 by_cases h2 : 2 ≤ p.code
 case neg =>
  exact absurd ⟨rfl, (h1 : p.code ≠ 1), (by omega : p.code ≠ 5), (by omega : p.code ≠ 6), (by omega : p.code ≠ 7), h24⟩ hhi
 have h4 : ¬ p.code ≤ 4 := n24 h2
 by_cases h5 : p.code = 5
 ·have b5 : (p.code == 5) = true := by rw [h5]; rfl
  obtain ⟨a', dv', cv', q, ha', x1, x2, k, al1⟩ := hap 11 11 rfl (by decide) []
  clear hap hsB
  generalize hW0 : (a.mk' dv cv).obj = W0 at *
  generalize hW1 : (a'.mk' dv' cv').obj = W1 at *
  unfold zE.cells at *
  have F := an F0 (an e1 (an e3 (an kg (an h1 (an h2 (an h4 (an b5 (an k (eq_true al1)))))))))
  refine Ret.of wk ?_
  exact ⟨a', dv', cv', x1, x2, by rw [zz hs, hW1], ⟨_, rfl⟩, .inr (.inl ⟨_, _, _, .inr (.inr (.inl rfl)), Nat.zero_le _, ha'⟩)⟩
 by_cases h6 : p.code = 6
 ·have b6 : (p.code == 6) = true := by rw [h6]; rfl
  obtain ⟨a', dv', cv', q, ha', x1, x2, k, al1⟩ := hap 12 12 rfl (by decide) []
  clear hap hsB
  generalize hW0 : (a.mk' dv cv).obj = W0 at *
  generalize hW1 : (a'.mk' dv' cv').obj = W1 at *
  unfold zE.cells at *
  have F := an F0 (an e1 (an e3 (an kg (an h1 (an h2 (an h4 (an h5 (an b6 (an k (eq_true al1))))))))))
  refine Ret.of wk ?_
  exact ⟨a', dv', cv', x1, x2, by rw [zz hs, hW1], ⟨_, rfl⟩, .inr (.inl ⟨_, _, _, .inr (.inr (.inr (.inl rfl))), Nat.zero_le _, ha'⟩)⟩
 by_cases h7 : p.code = 7
 ·have b7 : (p.code == 7) = true := by rw [h7]; rfl
  by_cases hl4 : (p.data.length : Int) < 4
  ·clear hap hsB
   have e4 := ze p.data
   generalize hW0 : (a.mk' dv cv).obj = W0 at *
   unfold zE.cells at *
   have F := an F0 (an e1 (an e3 (an kg (an h1 (an h2 (an h4 (an h5 (an h6 (an b7 (an hl4 (an e4 (eq_true al0))))))))))))
   refine Ret.of wk ?_
   exact ⟨a, dv, cv, hdv, hcv, by rw [zz hs, hW0], ⟨_, rfl⟩, .inl rfl⟩
  ·have e4 := ze p.data
   have hwp := hp.2.2.2.2.1
   obtain ⟨hnil, hm1⟩ := hwp.ne (fun e => by rw [e] at hl4; simp at hl4)
   have hpos : 0 < p.data.length := by omega
   have g0 : (zy p.data)[0]? = some (.int .u8 (((p.data.getD 0 0).toNat : Nat) : Int)) := by rw [vB, List.getElem?_eq_getElem hpos, sj hpos]; rfl
   have g0' : ∀ h, (zy p.data)[0]'h = .int .u8 (((p.data.getD 0 0).toNat : Nat) : Int) := fun h => by have := List.getElem?_eq_getElem h; rw [g0] at this; exact (Option.some.inj this).symm
   generalize ((p.data.getD 0 0).toNat : Nat) = b0 at *
   by_cases hb : 1 ≤ (b0 : Int) ∧ (b0 : Int) ≤ 7
   ·obtain ⟨hb1, hb2⟩ := hb
    have hb1' : 1 ≤ b0 := by omega
    have hb2' : b0 ≤ 7 := by omega
    obtain ⟨a', dv', cv', q, ha', x1, x2, k, al1⟩ := hap 15 15 rfl (by decide) []
    clear hap hsB
    generalize hW0 : (a.mk' dv cv).obj = W0 at *
    generalize hW1 : (a'.mk' dv' cv').obj = W1 at *
    unfold zE.cells at *
    rw [hm1] at k
    have F := an F0 (an e1 (an e3 (an kg (an h1 (an h2 (an h4 (an h5 (an h6 (an b7 (an hl4 (an e4 (an hm1 (an hpos (an g0 (an g0' (an hb1 (an hb2 (an hb1' (an hb2' (an k (eq_true al1)))))))))))))))))))))
    refine Ret.of wk ?_
    exact ⟨a', dv', cv', x1, x2, by rw [zz hs, hW1], ⟨_, rfl⟩, .inr (.inl ⟨_, _, _, .inr (.inr (.inr (.inr (.inr (.inr (rfl)))))), Nat.zero_le _, ha'⟩)⟩
   ·by_cases hb1 : 1 ≤ (b0 : Int)
    ·have hb2 : ¬ (b0 : Int) ≤ 7 := fun h => hb ⟨hb1, h⟩
     have hb1' : 1 ≤ b0 := by omega
     have hb2' : ¬ b0 ≤ 7 := by omega
     obtain ⟨a', dv', cv', q, ha', x1, x2, k, al1⟩ := hap 14 14 rfl (by decide) []
     clear hap hsB
     generalize hW0 : (a.mk' dv cv).obj = W0 at *
     generalize hW1 : (a'.mk' dv' cv').obj = W1 at *
     unfold zE.cells at *
     rw [hm1] at k
     have F := an F0 (an e1 (an e3 (an kg (an h1 (an h2 (an h4 (an h5 (an h6 (an b7 (an hl4 (an e4 (an hm1 (an hpos (an g0 (an g0' (an hb1 (an hb2 (an hb1' (an hb2' (an k (eq_true al1)))))))))))))))))))))
     refine Ret.of wk ?_
     exact ⟨a', dv', cv', x1, x2, by rw [zz hs, hW1], ⟨_, rfl⟩, .inr (.inl ⟨_, _, _, .inr (.inr (.inr (.inr (.inr (.inl rfl))))), Nat.zero_le _, ha'⟩)⟩
    ·have hb1' : ¬ 1 ≤ b0 := by omega
     obtain ⟨a', dv', cv', q, ha', x1, x2, k, al1⟩ := hap 14 14 rfl (by decide) []
     clear hap hsB
     generalize hW0 : (a.mk' dv cv).obj = W0 at *
     generalize hW1 : (a'.mk' dv' cv').obj = W1 at *
     unfold zE.cells at *
     rw [hm1] at k
     have F := an F0 (an e1 (an e3 (an kg (an h1 (an h2 (an h4 (an h5 (an h6 (an b7 (an hl4 (an e4 (an hm1 (an hpos (an g0 (an g0' (an hb1 (an hb1' (an k (eq_true al1)))))))))))))))))))
     refine Ret.of wk ?_
     exact ⟨a', dv', cv', x1, x2, by rw [zz hs, hW1], ⟨_, rfl⟩, .inr (.inl ⟨_, _, _, .inr (.inr (.inr (.inr (.inr (.inl rfl))))), Nat.zero_le _, ha'⟩)⟩
 exact absurd ⟨rfl, h1, h5, h6, h7, h24⟩ hhi
end Go.Proofs.YtpfnlpakcldobaaGreat
