/- Texts of the proof: RJ8. -/
import Derived.Test.YtpfnlpakcldobaaGreatARJ4
import Derived.Test.YtpfnlpakcldobaaGreatARJ6
set_option linter.unusedVariables false
set_option linter.unusedSimpArgs false
set_option linter.unusedSectionVars false
namespace Go.Proofs.YtpfnlpakcldobaaGreat
open Go Go.L
def evA (a : AW) (i e : Nat) : Nat := if e = 0 then vH (a.link i).st.toNat (a.link i).rest else e
def s6 (a : AW) (i e : Nat) : AW × Bool := if evA a i e = 0 then (a, false) else zk a i (evA a i e) 0 []
theorem ma (s : Nat) (r : Int) : vH s r < 17 := by
 unfold vH
 (repeat' split) <;> decide
theorem happenG {N K : Nat} {st : List zt} (hs : xA N K st) (a : AW) (ha : a.ok 90000) (dv cv : LVal) (hdv : zK dv a.ds) (hcv : zN cv a.n) (B : zt) (hB : ∀ n, zt.within n B = true) (hB' : B.settle = B) (i : Nat) (hi : i < 3) (e : Nat) (he : e < 17) (id : Int) (data : List UInt8) :
 ∃ dv' cv', zK dv' (zk a i e id data).1.ds ∧ zN cv' (zk a i e id data).1.n ∧ zq D.W 52 [.ptr K 0, .int .i64 i, .int .i64 e, .int .i64 id, .str data] (stW st K (a.mk' dv cv).obj [B]) = some (.bool (zk a i e id data).2, some (stW st K ((zk a i e id data).1.mk' dv' cv').obj [B])) := by
 obtain ⟨dv', cv', x1, x2, k⟩ := uq (qp hs a dv cv hdv hcv [B] (by intro x hx; simp only [List.mem_singleton] at hx; subst hx; exact hB _) (by intro x hx; simp only [List.mem_singleton] at hx; subst hx; exact hB')) a ha dv cv hdv hcv (xM hs _ _) i hi e he id data
 rw [zz hs] at k
 exact ⟨dv', cv', x1, x2, k⟩
set_option maxHeartbeats 40000000 in
theorem pb {N K : Nat} {st : List zt} (hs : xA N K st) (a : AW) (ha : a.ok 90000) (dv cv : LVal) (hdv : zK dv a.ds) (hcv : zN cv a.n) (hK : st[K]? = some (a.mk' dv cv).obj) (kd : Int) (i : Nat) (hi : i < 3) (e : Nat) (he : e < 17) :
 Leaves 167 [.agg [.int .i64 kd, .int .i64 i, .int .i64 e], .ptr K 0] st K (fun v a' => v = .bool (s6 a i e).2 ∧ a' = (s6 a i e).1) := by
 suffices h : Ret D.W 167 [.agg [.int .i64 kd, .int .i64 i, .int .i64 e], .ptr K 0] st (fun v o => ∃ a' dv' cv', zK dv' a'.ds ∧ zN cv' a'.n ∧ o = some (st.set K (a'.mk' dv' cv').obj) ∧ v = .bool (s6 a i e).2 ∧ a' = (s6 a i e).1) by
  obtain ⟨v, o, k, a', dv', cv', x1, x2, rfl, x3⟩ := h
  exact ⟨v, a', dv', cv', x1, x2, k, x3⟩
 have hlt := hs.lt
 have hlt' : K < N + 1 := by omega
 have F0 := sF hs
 have al : ∀ (a : AW) (dv cv : LVal), zK dv a.ds → zN cv a.n → ∀ x ∈ stW st K (a.mk' dv cv).obj [], zt.within N x = true := fun a dv cv x y => xm hs (zw.within _ x y N)
 obtain ⟨f1, f2, f3, f4, f5, f6⟩ := ha.fit i
 have hst : (a.link i).st = ((a.link i).st.toNat : Nat) := by omega
 have kt := timed_eq (a.link i).st.toNat (by omega) (a.link i).rest
 rw [← hst] at kt
 have al0 := al a dv cv hdv hcv
 have al00 := al a dv.stay cv.stay hdv.stay hcv.stay
 rw [zC hK]
 by_cases h0 : e = 0
 ·subst h0
  have hev : evA a i 0 = vH (a.link i).st.toNat (a.link i).rest := rfl
  have hev' : vH (a.link i).st.toNat (a.link i).rest < 17 := ma _ _
  unfold s6
  rw [hev]
  have main : ∀ (z : Int), z = i → vH (a.link i).st.toNat (a.link i).rest ≠ 0 → ∃ a1 dv' cv' q, zk a i (vH (a.link i).st.toNat (a.link i).rest) 0 [] = (a1, q) ∧ zK dv' a1.ds ∧ zN cv' a1.n ∧
   zq D.W 52 [.ptr K 0, .int .i64 z, .int .i64 (vH (a.link i).st.toNat (a.link i).rest : Nat), .int .i64 0, .str []] (stW st K (a.mk' dv.stay cv.stay).obj [.cells 100 [.int .i64 kd, .int .i64 z, .int .i64 (vH (a.link i).st.toNat (a.link i).rest : Nat)]]) =
    some (.bool q, some (stW st K (a1.mk' dv' cv').obj [.cells 100 [.int .i64 kd, .int .i64 z, .int .i64 (vH (a.link i).st.toNat (a.link i).rest : Nat)]])) ∧ (∀ x ∈ stW st K (a1.mk' dv' cv').obj [], zt.within N x = true) := by
   intro z hz _
   subst hz
   obtain ⟨dv', cv', x1, x2, k⟩ := happenG hs a ha dv.stay cv.stay hdv.stay hcv.stay (.cells 100 [.int .i64 kd, .int .i64 i, .int .i64 (vH (a.link i).st.toNat (a.link i).rest : Nat)]) (fun _ => rfl) rfl i hi _ hev' 0 []
   exact ⟨_, dv', cv', _, rfl, x1, x2, k, al _ dv' cv' x1 x2⟩
  generalize ht : vH (a.link i).st.toNat (a.link i).rest = t at *
  by_cases h1 : t = 0
  ·rw [if_pos h1]
   have h1' : (t : Int) = 0 := by omega
   rw [h1'] at kt
   clear main
   unfold AW.mk' zw.obj zw.cells zg.cells zA.cells zl.cells at *
   simp only [List.cons_append, List.nil_append] at *
   match i, hi with
   | 0, _ =>
    have kt' : zq D.W 169 [.agg [.int .i64 a.l0.st, .int .i64 a.l0.rest]] [] = _ := kt
    have F := an F0 (an kt' (eq_true al00))
    refine Ret.of wk ?_
    exact ⟨a, _, _, hdv.stay, hcv.stay, by rw [zz hs], rfl, rfl⟩
   | 1, _ =>
    have kt' : zq D.W 169 [.agg [.int .i64 a.l1.st, .int .i64 a.l1.rest]] [] = _ := kt
    have F := an F0 (an kt' (eq_true al00))
    refine Ret.of wk ?_
    exact ⟨a, _, _, hdv.stay, hcv.stay, by rw [zz hs], rfl, rfl⟩
   | 2, _ =>
    have kt' : zq D.W 169 [.agg [.int .i64 a.l2.st, .int .i64 a.l2.rest]] [] = _ := kt
    have F := an F0 (an kt' (eq_true al00))
    refine Ret.of wk ?_
    exact ⟨a, _, _, hdv.stay, hcv.stay, by rw [zz hs], rfl, rfl⟩
  ·rw [if_neg h1]
   have h1' : ¬ (t : Int) = 0 := by omega
   have hb : ((t : Int) != 0) = true := by simpa using h1
   match i, hi with
   | 0, _ =>
    obtain ⟨a1, dv', cv', q, hA, x1, x2, k, al1⟩ := main 0 rfl h1
    rw [hA]
    clear main hA
    generalize hW1 : (a1.mk' dv' cv').obj = W1 at *
    unfold AW.mk' zw.obj zw.cells zg.cells zA.cells zl.cells at *
    simp only [List.cons_append, List.nil_append] at *
    have kt' : zq D.W 169 [.agg [.int .i64 a.l0.st, .int .i64 a.l0.rest]] [] = _ := kt
    have F := an F0 (an kt' (an h1 (an h1' (an hb (an k (eq_true al1))))))
    refine Ret.of wk ?_
    exact ⟨a1, dv', cv', x1, x2, by rw [zz hs, ← hW1], rfl, rfl⟩
   | 1, _ =>
    obtain ⟨a1, dv', cv', q, hA, x1, x2, k, al1⟩ := main 1 rfl h1
    rw [hA]
    clear main hA
    generalize hW1 : (a1.mk' dv' cv').obj = W1 at *
    unfold AW.mk' zw.obj zw.cells zg.cells zA.cells zl.cells at *
    simp only [List.cons_append, List.nil_append] at *
    have kt' : zq D.W 169 [.agg [.int .i64 a.l1.st, .int .i64 a.l1.rest]] [] = _ := kt
    have F := an F0 (an kt' (an h1 (an h1' (an hb (an k (eq_true al1))))))
    refine Ret.of wk ?_
    exact ⟨a1, dv', cv', x1, x2, by rw [zz hs, ← hW1], rfl, rfl⟩
   | 2, _ =>
    obtain ⟨a1, dv', cv', q, hA, x1, x2, k, al1⟩ := main 2 rfl h1
    rw [hA]
    clear main hA
    generalize hW1 : (a1.mk' dv' cv').obj = W1 at *
    unfold AW.mk' zw.obj zw.cells zg.cells zA.cells zl.cells at *
    simp only [List.cons_append, List.nil_append] at *
    have kt' : zq D.W 169 [.agg [.int .i64 a.l2.st, .int .i64 a.l2.rest]] [] = _ := kt
    have F := an F0 (an kt' (an h1 (an h1' (an hb (an k (eq_true al1))))))
    refine Ret.of wk ?_
    exact ⟨a1, dv', cv', x1, x2, by rw [zz hs, ← hW1], rfl, rfl⟩
 ·have hev : evA a i e = e := if_neg h0
  unfold s6
  rw [hev, if_neg h0]
  have hi0 : ¬ (e : Int) = 0 := by omega
  have hb : ((e : Int) != 0) = true := by simpa using hi0
  obtain ⟨dv', cv', x1, x2, k⟩ := happenG hs a ha dv cv hdv hcv (.cells 100 [.int .i64 kd, .int .i64 i, .int .i64 e]) (fun _ => rfl) rfl i hi e he 0 []
  have al1 := al _ dv' cv' x1 x2
  generalize hA : zk a i e 0 [] = A at *
  obtain ⟨a1, q⟩ := A
  dsimp only at *
  generalize hW1 : (a1.mk' dv' cv').obj = W1 at *
  generalize hW0 : (a.mk' dv cv).obj = W0 at *
  have F := an F0 (an h0 (an hi0 (an hb (an k (eq_true al1)))))
  refine Ret.of wk ?_
  exact ⟨a1, dv', cv', x1, x2, by rw [zz hs, hW1], rfl, rfl⟩
end Go.Proofs.YtpfnlpakcldobaaGreat
