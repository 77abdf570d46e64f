/- Texts of the proof: RJ7a. -/
import Derived.Test.YtpfnlpakcldobaaGreatARJ7
set_option linter.unusedVariables false
set_option linter.unusedSimpArgs false
set_option linter.unusedSectionVars false
namespace Go.Proofs.YtpfnlpakcldobaaGreat
open Go Go.L
set_option maxHeartbeats 400000000 in
theorem answers0 {N K : Nat} {st : List zt} (hs : xA N K st) (a : AW) (ha : a.ok 90000) (dv cv : LVal) (hdv : zK dv a.ds) (hcv : zN cv a.n) (hK : st[K]? = some (a.mk' dv cv).obj) (k : Int) (hk : k = 4 ∨ k = 5 ∨ k = 6 ∨ k = 8 ∨ k = 7 ∨ k = 2 ∨ k = 3 ∨ k = 1) (id : Int) (data : List UInt8) (hd : data.length ≤ 70000) (p : zE) (hp : p.wf 70000) :
 Ret D.W 48 [.ptr K 0, .agg (yu.cells ⟨k, 49185, id, data⟩), .agg p.cells] st (fun v o => ∃ (a' : AW) (dv' cv' : LVal) (q : Bool), zK dv' a'.ds ∧ zN cv' a'.n ∧ o = some (st.set K (a'.mk' dv' cv').obj) ∧ v = .bool q ∧ xr a 0 p q a') := by
 have F0 := sF hs
 have kl : zq D.W 44 [.int .i64 49185] [] = some (.int .i64 0, none) := ta 49185
 have e1 := zx p.data
 have e2 := zx data
 have e3 := yq p.data
 have e4 := ze p.data
 have e5 : data.length ≤ 140737488355328 := by omega
 obtain ⟨hw1, hw2⟩ := Wb.ors hp.2.2.2.2.1
 have al : ∀ (a : AW) (dv cv : LVal), zK dv a.ds → zN cv a.n → ∀ x ∈ stW st K (a.mk' dv cv).obj [], zt.within N x = true := fun a dv cv x y => xm hs (zw.within _ x y N)
 have al0 := al a dv.stay cv.stay hdv.stay hcv.stay
 obtain ⟨f1, f2, f3, f4, f5, f6⟩ := ha.fit 0
 have hlk : a.link 0 = a.l0 := rfl
 rw [hlk] at f1 f2 f3 f4 f5 f6
 rcases hk with rfl | rfl | rfl | rfl | rfl | rfl | rfl | rfl
 ·rw [zC hK]
  unfold AW.mk' zw.obj zw.cells zg.cells zA.cells zl.cells yu.cells zE.cells at *
  simp only [List.cons_append, List.nil_append] at *
  by_cases hc : p.code = 5
  ·have F := an F0 (an kl (an e1 (an e2 (an e3 (an e4 (an e5 (an hw1 (an hw2 (an hc (eq_true al0))))))))))
   refine Ret.of wk ?_
   exact ⟨a, _, _, _, hdv.stay, hcv.stay, by rw [zz hs], rfl, xr.same (fun _ => ⟨by rw [hc]; decide, by rw [hc]; decide⟩)⟩
  ·have F := an F0 (an kl (an e1 (an e2 (an e3 (an e4 (an e5 (an hw1 (an hw2 (an hc (eq_true al0))))))))))
   refine Ret.of wk ?_
   exact ⟨a, _, _, _, hdv.stay, hcv.stay, by rw [zz hs], rfl, xr.same (fun e => by first | cases e | (exfalso; revert e; simp [*]))⟩
 ·rw [zC hK]
  unfold AW.mk' zw.obj zw.cells zg.cells zA.cells zl.cells yu.cells zE.cells at *
  simp only [List.cons_append, List.nil_append] at *
  by_cases hc : p.code = 6
  ·by_cases hi : p.id = id
   ·subst hi
    have F := an F0 (an kl (an e1 (an e2 (an e3 (an e4 (an e5 (an hw1 (an hw2 (an hc (eq_true al0))))))))))
    refine Ret.of wk ?_
    exact ⟨a, _, _, _, hdv.stay, hcv.stay, by rw [zz hs], rfl, xr.same (fun _ => ⟨by rw [hc]; decide, by rw [hc]; decide⟩)⟩
   ·have F := an F0 (an kl (an e1 (an e2 (an e3 (an e4 (an e5 (an hw1 (an hw2 (an hc (an hi (eq_true al0)))))))))))
    refine Ret.of wk ?_
    exact ⟨a, _, _, _, hdv.stay, hcv.stay, by rw [zz hs], rfl, xr.same (fun _ => ⟨by rw [hc]; decide, by rw [hc]; decide⟩)⟩
  ·have F := an F0 (an kl (an e1 (an e2 (an e3 (an e4 (an e5 (an hw1 (an hw2 (an hc (eq_true al0))))))))))
   refine Ret.of wk ?_
   exact ⟨a, _, _, _, hdv.stay, hcv.stay, by rw [zz hs], rfl, xr.same (fun e => by first | cases e | (exfalso; revert e; simp [*]))⟩
 ·rw [zC hK]
  unfold AW.mk' zw.obj zw.cells zg.cells zA.cells zl.cells yu.cells zE.cells at *
  simp only [List.cons_append, List.nil_append] at *
  by_cases hc : p.code = 7
  ·by_cases hi : p.data = data
   ·subst hi
    have F := an F0 (an kl (an e1 (an e2 (an e3 (an e4 (an e5 (an hw1 (an hw2 (an hc (eq_true al0))))))))))
    refine Ret.of wk ?_
    exact ⟨a, _, _, _, hdv.stay, hcv.stay, by rw [zz hs], rfl, xr.same (fun _ => ⟨by rw [hc]; decide, by rw [hc]; decide⟩)⟩
   ·have F := an F0 (an kl (an e1 (an e2 (an e3 (an e4 (an e5 (an hw1 (an hw2 (an hc (an hi (eq_true al0)))))))))))
    refine Ret.of wk ?_
    exact ⟨a, _, _, _, hdv.stay, hcv.stay, by rw [zz hs], rfl, xr.same (fun _ => ⟨by rw [hc]; decide, by rw [hc]; decide⟩)⟩
  ·have F := an F0 (an kl (an e1 (an e2 (an e3 (an e4 (an e5 (an hw1 (an hw2 (an hc (eq_true al0))))))))))
   refine Ret.of wk ?_
   exact ⟨a, _, _, _, hdv.stay, hcv.stay, by rw [zz hs], rfl, xr.same (fun e => by first | cases e | (exfalso; revert e; simp [*]))⟩
 ·rw [zC hK]
  unfold AW.mk' zw.obj zw.cells zg.cells zA.cells zl.cells yu.cells zE.cells at *
  simp only [List.cons_append, List.nil_append] at *
  by_cases hc : p.code = 8
  ·by_cases hi : p.data = data
   ·subst hi
    have F := an F0 (an kl (an e1 (an e2 (an e3 (an e4 (an e5 (an hw1 (an hw2 (an hc (eq_true al0))))))))))
    refine Ret.of wk ?_
    exact ⟨a, _, _, _, hdv.stay, hcv.stay, by rw [zz hs], rfl, xr.same (fun _ => ⟨by rw [hc]; decide, by rw [hc]; decide⟩)⟩
   ·have F := an F0 (an kl (an e1 (an e2 (an e3 (an e4 (an e5 (an hw1 (an hw2 (an hc (an hi (eq_true al0)))))))))))
    refine Ret.of wk ?_
    exact ⟨a, _, _, _, hdv.stay, hcv.stay, by rw [zz hs], rfl, xr.same (fun _ => ⟨by rw [hc]; decide, by rw [hc]; decide⟩)⟩
  ·have F := an F0 (an kl (an e1 (an e2 (an e3 (an e4 (an e5 (an hw1 (an hw2 (an hc (eq_true al0))))))))))
   refine Ret.of wk ?_
   exact ⟨a, _, _, _, hdv.stay, hcv.stay, by rw [zz hs], rfl, xr.same (fun e => by first | cases e | (exfalso; revert e; simp [*]))⟩
 ·obtain ⟨x, b, m, r, ok, k1, hwr, hr, hm⟩ := ra p 70000 hp (Nat.le_refl _)
  have e6 := zx r
  have e7 := yq r
  have e8 := ze r
  obtain ⟨hw3, hw4⟩ := Wb.ors hwr
  have hcode : ok = true → p.code ≠ 2 ∧ p.code ≠ 3 := fun h => by rcases hm h with h | h | h <;> rw [h] <;> decide
  rw [zC hK]
  unfold AW.mk' zw.obj zw.cells zg.cells zA.cells zl.cells yu.cells zE.cells at *
  simp only [List.cons_append, List.nil_append] at *
  cases ok with
  | false =>
   have F := an F0 (an kl (an e1 (an e2 (an e3 (an e4 (an e5 (an hw1 (an hw2 (an k1 (an e6 (an e7 (an e8 (an hw3 (an hw4 (eq_true al0)))))))))))))))
   refine Ret.of wk ?_
   exact ⟨a, _, _, _, hdv.stay, hcv.stay, by rw [zz hs], rfl, xr.same (fun e => by first | cases e | (exfalso; revert e; simp [*]))⟩
  | true =>
   by_cases hc : p.code = 10
   ·rw [hc] at k1
    by_cases hi : p.id = id
    ·subst hi
     by_cases hj : r = data
     ·subst hj
      have F := an F0 (an kl (an e1 (an e2 (an e3 (an e4 (an e5 (an hw1 (an hw2 (an k1 (an e6 (an e7 (an e8 (an hw3 (an hw4 (an hc (eq_true al0))))))))))))))))
      refine Ret.of wk ?_
      exact ⟨a, _, _, _, hdv.stay, hcv.stay, by rw [zz hs], rfl, xr.same (fun _ => hcode rfl)⟩
     ·have F := an F0 (an kl (an e1 (an e2 (an e3 (an e4 (an e5 (an hw1 (an hw2 (an k1 (an e6 (an e7 (an e8 (an hw3 (an hw4 (an hc (an hj (eq_true al0)))))))))))))))))
      refine Ret.of wk ?_
      exact ⟨a, _, _, _, hdv.stay, hcv.stay, by rw [zz hs], rfl, xr.same (fun _ => hcode rfl)⟩
    ·have F := an F0 (an kl (an e1 (an e2 (an e3 (an e4 (an e5 (an hw1 (an hw2 (an k1 (an e6 (an e7 (an e8 (an hw3 (an hw4 (an hc (an hi (eq_true al0)))))))))))))))))
     refine Ret.of wk ?_
     exact ⟨a, _, _, _, hdv.stay, hcv.stay, by rw [zz hs], rfl, xr.same (fun _ => hcode rfl)⟩
   ·have F := an F0 (an kl (an e1 (an e2 (an e3 (an e4 (an e5 (an hw1 (an hw2 (an k1 (an e6 (an e7 (an e8 (an hw3 (an hw4 (an hc (eq_true al0))))))))))))))))
    refine Ret.of wk ?_
    exact ⟨a, _, _, _, hdv.stay, hcv.stay, by rw [zz hs], rfl, xr.same (fun _ => hcode rfl)⟩
 ·obtain ⟨q, k1, hq⟩ := oS p ⟨1, id, false, 1, data⟩ 70000 hp Wb.one
  have al1 := al { a with l0 := { a.l0 with zT := a.c.mf } } dv.stay cv.stay hdv.stay hcv.stay
  rw [zC hK]
  unfold AW.mk' zw.obj zw.cells zg.cells zA.cells zl.cells yu.cells zE.cells at *
  simp only [List.cons_append, List.nil_append] at *
  have F := an F0 (an kl (an e1 (an e2 (an e3 (an e4 (an e5 (an hw1 (an hw2 (an k1 (eq_true al1))))))))))
  refine Ret.of wk ?_
  exact ⟨{ a with l0 := { a.l0 with zT := a.c.mf } }, _, _, _, hdv.stay, hcv.stay, by rw [zz hs], rfl, ⟨{ a.l0 with zT := a.c.mf }, rfl, rfl, rfl, .inl rfl, .inr (.inl rfl), fun e => .inl ⟨hq e, rfl⟩⟩⟩
 ·obtain ⟨q1, k1, hq1⟩ := sH p ⟨1, id, false, 1, data⟩ 70000 hp ⟨Wb.one, hd⟩ (Nat.le_refl _)
  obtain ⟨q2, k2, hq2⟩ := lM p ⟨1, id, false, 1, data⟩ 70000 hp ⟨Wb.one, hd⟩ (Nat.le_refl _)
  have w1 : IntKind.i64.wrap (a.l0.zT - 1) = a.l0.zT - 1 := vG (by omega) (by omega)
  have al1 := al { a with l0 := { a.l0 with zT := a.l0.zT - 1 } } dv.stay cv.stay hdv.stay hcv.stay
  rw [zC hK]
  unfold AW.mk' zw.obj zw.cells zg.cells zA.cells zl.cells yu.cells zE.cells at *
  simp only [List.cons_append, List.nil_append] at *
  cases q1 with
  | true =>
   have F := an F0 (an kl (an e1 (an e2 (an e3 (an e4 (an e5 (an hw1 (an hw2 (an k1 (eq_true al0))))))))))
   refine Ret.of wk ?_
   exact ⟨a, _, _, _, hdv.stay, hcv.stay, by rw [zz hs], rfl, xr.same (fun _ => by rw [hq1 rfl]; decide)⟩
  | false =>
   cases q2 with
   | false =>
    have F := an F0 (an kl (an e1 (an e2 (an e3 (an e4 (an e5 (an hw1 (an hw2 (an k1 (an k2 (an w1 (eq_true al1))))))))))))
    refine Ret.of wk ?_
    exact ⟨{ a with l0 := { a.l0 with zT := a.l0.zT - 1 } }, _, _, _, hdv.stay, hcv.stay, by rw [zz hs], rfl, ⟨{ a.l0 with zT := a.l0.zT - 1 }, rfl, rfl, rfl, .inl rfl, .inr (.inr rfl), fun e => by cases e⟩⟩
   | true =>
    by_cases h0 : 0 ≤ a.l0.zT - 1
    ·have F := an F0 (an kl (an e1 (an e2 (an e3 (an e4 (an e5 (an hw1 (an hw2 (an k1 (an k2 (an w1 (an h0 (eq_true al1)))))))))))))
     refine Ret.of wk ?_
     exact ⟨{ a with l0 := { a.l0 with zT := a.l0.zT - 1 } }, _, _, _, hdv.stay, hcv.stay, by rw [zz hs], rfl, ⟨{ a.l0 with zT := a.l0.zT - 1 }, rfl, rfl, rfl, .inl rfl, .inr (.inr rfl), fun e => .inr (.inl ⟨hq2 rfl, rfl, h0⟩)⟩⟩
    ·have F := an F0 (an kl (an e1 (an e2 (an e3 (an e4 (an e5 (an hw1 (an hw2 (an k1 (an k2 (an w1 (an h0 (eq_true al1)))))))))))))
     refine Ret.of wk ?_
     exact ⟨{ a with l0 := { a.l0 with zT := a.l0.zT - 1 } }, _, _, _, hdv.stay, hcv.stay, by rw [zz hs], rfl, ⟨{ a.l0 with zT := a.l0.zT - 1 }, rfl, rfl, rfl, .inl rfl, .inr (.inr rfl), fun e => by first | cases e | (exfalso; revert e; simp; omega)⟩⟩
 ·obtain ⟨b, m, os, ok, k1, ho⟩ := uz p 70000 hp (Nat.le_refl _)
  have e6 := xj os
  have al1 := al { a with l0 := { a.l0 with xW := true, zm := false, id := p.id, opts := p.data } } dv.stay cv.stay hdv.stay hcv.stay
  rw [zC hK]
  unfold AW.mk' zw.obj zw.cells zg.cells zA.cells zl.cells yu.cells zE.cells at *
  simp only [List.cons_append, List.nil_append] at *
  by_cases hc : p.code = 1
  case neg =>
   have hcb : (p.code != 1) = true := by simpa using hc
   have F := an F0 (an kl (an e1 (an e2 (an e3 (an e4 (an e5 (an hw1 (an hw2 (an k1 (an e6 (an hc (an hcb (eq_true al0)))))))))))))
   refine Ret.of wk ?_
   exact ⟨a, _, _, _, hdv.stay, hcv.stay, by rw [zz hs], rfl, xr.same (fun e => by first | cases e | (exfalso; revert e; simp [*]))⟩
  have hcb : (p.code != 1) = false := by rw [hc]; rfl
  rw [hc] at k1
  cases ok with
  | false =>
   have F := an F0 (an kl (an e1 (an e2 (an e3 (an e4 (an e5 (an hw1 (an hw2 (an k1 (an e6 (an hc (an hcb (eq_true al0)))))))))))))
   refine Ret.of wk ?_
   exact ⟨a, _, _, _, hdv.stay, hcv.stay, by rw [zz hs], rfl, xr.same (fun e => by first | cases e | (exfalso; revert e; simp [*]))⟩
  | true =>
   cases hse : a.l0.xW with
   | false =>
    rw [hse] at al0
    have F := an F0 (an kl (an e1 (an e2 (an e3 (an e4 (an e5 (an hw1 (an hw2 (an k1 (an e6 (an hc (an hcb (an hse (eq_true al1))))))))))))))
    refine Ret.of wk ?_
    exact ⟨{ a with l0 := { a.l0 with xW := true, zm := false, id := p.id, opts := p.data } }, _, _, _, hdv.stay, hcv.stay, by rw [zz hs], rfl, ⟨{ a.l0 with xW := true, zm := false, id := p.id, opts := p.data }, rfl, rfl, rfl, .inr rfl, .inl rfl, fun _ => .inr (.inr ⟨by rw [hc]; decide, rfl⟩)⟩⟩
   | true =>
    rw [hse] at al0
    have hidc : (p.id = a.l0.id) ∨ ¬ (p.id = a.l0.id) := Classical.em _
    cases han : a.l0.zm with
    | true =>
     rw [han] at al0
     rcases hidc with hid | hid
     ·rw [hid] at k1
      have F := an F0 (an kl (an e1 (an e2 (an e3 (an e4 (an e5 (an hw1 (an hw2 (an k1 (an e6 (an hc (an hcb (an hse (an han (an hid (eq_true al0))))))))))))))))
      refine Ret.of wk ?_
      exact ⟨a, _, _, _, hdv.stay, hcv.stay, by rw [zz hs]; try simp only [hse, han], rfl, xr.same (fun e => by first | cases e | (exfalso; revert e; simp [*]))⟩
     ·have F := an F0 (an kl (an e1 (an e2 (an e3 (an e4 (an e5 (an hw1 (an hw2 (an k1 (an e6 (an hc (an hcb (an hse (an han (an hid (eq_true al1))))))))))))))))
      refine Ret.of wk ?_
      exact ⟨{ a with l0 := { a.l0 with xW := true, zm := false, id := p.id, opts := p.data } }, _, _, _, hdv.stay, hcv.stay, by rw [zz hs], rfl, ⟨{ a.l0 with xW := true, zm := false, id := p.id, opts := p.data }, rfl, rfl, rfl, .inr rfl, .inl rfl, fun _ => .inr (.inr ⟨by rw [hc]; decide, rfl⟩)⟩⟩
    | false =>
     rw [han] at al0
     by_cases hop : a.l0.opts = p.data
     ·have hopb : (a.l0.opts != p.data) = false := by rw [hop]; simp
      have F := an F0 (an kl (an e1 (an e2 (an e3 (an e4 (an e5 (an hw1 (an hw2 (an k1 (an e6 (an hc (an hcb (an hse (an han (an hop (an hopb (eq_true al1)))))))))))))))))
      refine Ret.of wk ?_
      exact ⟨{ a with l0 := { a.l0 with xW := true, zm := false, id := p.id, opts := p.data } }, _, _, _, hdv.stay, hcv.stay, by rw [zz hs], rfl, ⟨{ a.l0 with xW := true, zm := false, id := p.id, opts := p.data }, rfl, rfl, rfl, .inr rfl, .inl rfl, fun _ => .inr (.inr ⟨by rw [hc]; decide, rfl⟩)⟩⟩
     ·have hopb : (a.l0.opts != p.data) = true := by simpa using hop
      rcases hidc with hid | hid
      ·rw [hid] at k1
       have F := an F0 (an kl (an e1 (an e2 (an e3 (an e4 (an e5 (an hw1 (an hw2 (an k1 (an e6 (an hc (an hcb (an hse (an han (an hid (an hop (an hopb (eq_true al0))))))))))))))))))
       refine Ret.of wk ?_
       exact ⟨a, _, _, _, hdv.stay, hcv.stay, by rw [zz hs]; try simp only [hse, han], rfl, xr.same (fun e => by first | cases e | (exfalso; revert e; simp [*]))⟩
      ·have F := an F0 (an kl (an e1 (an e2 (an e3 (an e4 (an e5 (an hw1 (an hw2 (an k1 (an e6 (an hc (an hcb (an hse (an han (an hid (an hop (an hopb (eq_true al1))))))))))))))))))
       refine Ret.of wk ?_
       exact ⟨{ a with l0 := { a.l0 with xW := true, zm := false, id := p.id, opts := p.data } }, _, _, _, hdv.stay, hcv.stay, by rw [zz hs], rfl, ⟨{ a.l0 with xW := true, zm := false, id := p.id, opts := p.data }, rfl, rfl, rfl, .inr rfl, .inl rfl, fun _ => .inr (.inr ⟨by rw [hc]; decide, rfl⟩)⟩⟩
end Go.Proofs.YtpfnlpakcldobaaGreat
