/- Texts of the proof: RF8 RJ1. -/
import Derived.Test.YtpfnlpakcldobaaGreatARG1
import Derived.Test.YtpfnlpakcldobaaGreatARI4
set_option linter.unusedVariables false
set_option linter.unusedSimpArgs false
set_option linter.unusedSectionVars false
namespace Go.Proofs.YtpfnlpakcldobaaGreat
open Go Go.L
theorem fn149 : D.W.fns 149 = some (.fn D.l149) := rfl
set_option maxHeartbeats 16000000 in
theorem nL (g : zA) (p : zE) (n : Nat) (hp : p.wf n) (hn : n ≤ 70000) (hg : g.opts.length ≤ 70000) :
 ∃ e : Nat, zq D.W 149 [.agg g.cells, .agg p.cells] [] = some (.int .i64 e, none) ∧ (e = 0 ∨ e = 9 ∨ e = 10) := by
 suffices h : Ret D.W 149 [.agg g.cells, .agg p.cells] [] (fun v o => o = none ∧ ∃ e : Nat, v = .int .i64 e ∧ (e = 0 ∨ e = 9 ∨ e = 10)) by
  obtain ⟨v, k, e, rfl, h⟩ := h.ex
  exact ⟨e, k, h⟩
 have e1 := zx p.data
 have e2 := zx g.opts
 have e3 : g.opts.length ≤ 140737488355328 := by omega
 have r0 : ∃ e : Nat, (LVal.int .i64 0 = .int .i64 e) ∧ (e = 0 ∨ e = 9 ∨ e = 10) := ⟨0, rfl, .inl rfl⟩
 have r9 : ∃ e : Nat, (LVal.int .i64 9 = .int .i64 e) ∧ (e = 0 ∨ e = 9 ∨ e = 10) := ⟨9, rfl, .inr (.inl rfl)⟩
 have r10 : ∃ e : Nat, (LVal.int .i64 10 = .int .i64 e) ∧ (e = 0 ∨ e = 9 ∨ e = 10) := ⟨10, rfl, .inr (.inr rfl)⟩
 by_cases hid : p.id = g.id
 ·have hq : zE.wf ⟨1, g.id, false, 1, g.opts⟩ 70000 := ⟨(by decide : (0 : Int) ≤ 1), (by decide : (1 : Int) ≤ 255), by rw [← hid]; exact hp.2.2.1, by rw [← hid]; exact hp.2.2.2.1, Wb.one, hg⟩
  have hp' : p.wf 70000 := ⟨hp.1, hp.2.1, hp.2.2.1, hp.2.2.2.1, hp.2.2.2.2.1, by have := hp.2.2.2.2.2; omega⟩
  obtain ⟨q1, k1, _⟩ := oS p ⟨1, g.id, false, 1, g.opts⟩ 70000 hp' Wb.one
  obtain ⟨b2, m2, o2, q2, k2, ho2⟩ := uz p n hp hn
  obtain ⟨q3, k3, _⟩ := sH p ⟨1, g.id, false, 1, g.opts⟩ 70000 hp' hq.wd (Nat.le_refl _)
  have e4 := xj o2
  have e5 := xZ o2
  unfold zE.cells zA.cells at *
  simp only [hid] at *
  refine yU fn149 rfl (fun _ => ?_) ?_
  ·simp [LVal.pfs, LVal.pf]
  simp only [Go.L.zc, List.map_cons, List.map_nil, Option.bind_some, Option.bind_none, Option.getD_some, Option.getD_none, List.getElem?_cons_zero, List.getElem?_cons_succ, zY.zH, if_true, Bool.false_eq_true, if_false, ite_self]
  unfold D.c149
  by_cases c2 : p.code = 2
  ·rw [c2] at k1 k2 k3
   have F := an k1 (an k2 (an k3 (an e1 (an e2 (an e3 (an e4 (an e5 (an mb' (an hid c2)))))))))
   refine agw ?_ ?_ ?_ ?_ ?_ ?_ ?_ ?_
   all_goals first | (first | exact ⟨rfl, r0⟩ | exact ⟨rfl, r9⟩ | exact ⟨rfl, r10⟩) | exact trivial
  ·by_cases c3 : p.code = 3
   ·rw [c3] at k1 k2 k3
    have F := an k1 (an k2 (an k3 (an e1 (an e2 (an e3 (an e4 (an e5 (an mb' (an hid c3)))))))))
    refine agw ?_ ?_ ?_ ?_ ?_ ?_ ?_ ?_
    all_goals first | (first | exact ⟨rfl, r0⟩ | exact ⟨rfl, r9⟩ | exact ⟨rfl, r10⟩) | exact trivial
   ·by_cases c4 : p.code = 4
    ·rw [c4] at k1 k2 k3
     have F := an k1 (an k2 (an k3 (an e1 (an e2 (an e3 (an e4 (an e5 (an mb' (an hid c4)))))))))
     refine agw ?_ ?_ ?_ ?_ ?_ ?_ ?_ ?_
     all_goals first | (first | exact ⟨rfl, r0⟩ | exact ⟨rfl, r9⟩ | exact ⟨rfl, r10⟩) | exact trivial
    ·have F := an k1 (an k2 (an k3 (an e1 (an e2 (an e3 (an e4 (an e5 (an mb' (an hid (an c2 (an c3 c4)))))))))))
     refine agw ?_ ?_ ?_ ?_ ?_ ?_ ?_ ?_
     all_goals first | (first | exact ⟨rfl, r0⟩ | exact ⟨rfl, r9⟩ | exact ⟨rfl, r10⟩) | exact trivial
 ·have hb : (p.id != g.id) = true := by simpa using hid
  unfold zE.cells zA.cells at *
  refine yU fn149 rfl (fun _ => ?_) ?_
  ·simp [LVal.pfs, LVal.pf, e1]
  simp only [Go.L.zc, List.map_cons, List.map_nil, Option.bind_some, Option.bind_none, Option.getD_some, Option.getD_none, List.getElem?_cons_zero, List.getElem?_cons_succ, zY.zH, if_true, Bool.false_eq_true, if_false, ite_self]
  unfold D.c149
  have F := an e1 (an e2 (an e3 (an mb' (an hid hb))))
  refine agw ?_ ?_ ?_ ?_ ?_ ?_ ?_ ?_
  all_goals first | exact ⟨rfl, r0⟩ | exact trivial
end Go.Proofs.YtpfnlpakcldobaaGreat
namespace Go.Proofs.YtpfnlpakcldobaaGreat
open Go Go.L
theorem fn138 : D.W.fns 138 = some (.fn D.l138) := rfl
theorem qp {N K : Nat} {st : List zt} (hs : xA N K st) (a : AW) (dv cv : LVal) (h1 : zK dv a.ds) (h2 : zN cv a.n) (B : List zt) (hB : ∀ x ∈ B, zt.within (N + B.length) x = true) (hB' : ∀ x ∈ B, x.settle = x) : xA (N + B.length) K (stW st K (a.mk' dv cv).obj B) := stW_ok hs (zw.within _ h1 h2 N) hB hB'
def Leaves (f : FuncId) (args : List LVal) (st : List zt) (K : Nat) (P : LVal → AW → Prop) : Prop :=
 ∃ v a' dv' cv', zK dv' a'.ds ∧ zN cv' a'.n ∧ zq D.W f args st = some (v, some (st.set K (a'.mk' dv' cv').obj)) ∧ P v a'
set_option maxHeartbeats 40000000 in
theorem request_eq {N K : Nat} {st : List zt} (hs : xA N K st) (a : AW) (ha : a.ok 90000) (dv cv : LVal) (hdv : zK dv a.ds) (hcv : zN cv a.n) (hK : st[K]? = some (a.mk' dv cv).obj) (i : Nat) (hi : i < 3) (p : zE) (n : Nat) (hp : p.wf n) (hn : n ≤ 70000) (vo : Bool) :
 Leaves 138 [.ptr K 0, .int .i64 i, .agg p.cells, .bool vo] st K (fun v a' => v = .bool (zk a i (if vo then 7 else 8) p.id p.data).2 ∧
  (a' = (zk a i (if vo then 7 else 8) p.id p.data).1 ∨ (i = 0 ∧ vo = true ∧ ∃ t : Int, a' = { (zk a i 7 p.id p.data).1 with g := { (zk a i 7 p.id p.data).1.g with uR := t } }))) := by
 suffices h : Ret D.W 138 [.ptr K 0, .int .i64 i, .agg p.cells, .bool vo] st (fun v o => ∃ a' dv' cv', zK dv' a'.ds ∧ zN cv' a'.n ∧ o = some (st.set K (a'.mk' dv' cv').obj) ∧ v = .bool (zk a i (if vo then 7 else 8) p.id p.data).2 ∧
  (a' = (zk a i (if vo then 7 else 8) p.id p.data).1 ∨ (i = 0 ∧ vo = true ∧ ∃ t : Int, a' = { (zk a i 7 p.id p.data).1 with g := { (zk a i 7 p.id p.data).1.g with uR := t } }))) by
  obtain ⟨v, o, k, a', dv', cv', x1, x2, rfl, x3⟩ := h
  exact ⟨v, a', dv', cv', x1, x2, k, x3⟩
 have hlt := hs.lt
 have sF0 := sF hs
 obtain ⟨t, kt⟩ := oR p.nil p.m p.data hp.2.2.2.2.1 (by have := hp.2.2.2.2.2; omega)
 have e1 := zx p.data
 have e2 := yq p.data
 have hw1 : p.m = 1 ∨ zy p.data = [] := by rcases hp.2.2.2.2.1 with ⟨_, h⟩ | ⟨_, h⟩; exact .inl h; exact .inr (by rw [h]; rfl)
 have hw2 : p.m = 1 ∨ p.data = [] := by rcases hp.2.2.2.2.1 with ⟨_, h⟩ | ⟨_, h⟩; exact .inl h; exact .inr h
 have e3 := ze p.data
 have hall : ∀ (e : Nat) (z : Int), (e : Int) = z → e < 17 → ∃ dv' cv', zK dv' (zk a i e p.id p.data).1.ds ∧ zN cv' (zk a i e p.id p.data).1.n ∧
  zq D.W 52 [.ptr K 0, .int .i64 i, .int .i64 z, .int .i64 p.id, .str p.data] (stW st K (a.mk' dv cv).obj [.cells 57 p.cells]) = some (.bool (zk a i e p.id p.data).2, some (stW st K ((zk a i e p.id p.data).1.mk' dv' cv').obj [.cells 57 p.cells])) := by
  intro e z hz he
  subst hz
  obtain ⟨dv', cv', x1, x2, k⟩ := uq (qp hs a dv cv hdv hcv [.cells 57 p.cells] (by simp [zE.cells, LVal.zb, LVal.within]) (by simp [zE.cells])) a ha dv cv hdv hcv (xM hs _ _) i hi e he p.id p.data
  rw [zz hs] at k
  exact ⟨dv', cv', x1, x2, k⟩
 have al : ∀ (a : AW) (dv cv : LVal), zK dv a.ds → zN cv a.n → ∀ x ∈ stW st K (a.mk' dv cv).obj [], zt.within N x = true := fun a dv cv x y => xm hs (zw.within _ x y N)
 rw [zC hK]
 cases vo with
 | false =>
  obtain ⟨dv', cv', x1, x2, k⟩ := hall 8 8 rfl (by decide)
  have al1 := al _ dv' cv' x1 x2
  generalize hA : zk a i 8 p.id p.data = A at *
  obtain ⟨a1, q⟩ := A
  simp only [] at *
  generalize (a.mk' dv cv).obj = W0 at *
  generalize hW1 : (a1.mk' dv' cv').obj = W1 at *
  unfold zE.cells at *
  refine yU fn138 rfl (fun h => by cases h) ?_
  simp only [Go.L.zc, List.map_cons, List.map_nil, Option.bind_some, Option.bind_none, Option.getD_some, Option.getD_none, List.getElem?_cons_zero, List.getElem?_cons_succ, zY.zH, if_true, Bool.false_eq_true, if_false, ite_self]
  unfold D.c138
  have F := an sF0 (an hlt (an k (an e1 (an e2 (an e3 (an hw1 (an hw2 (eq_true al1))))))))
  refine agw ?_ ?_ ?_ ?_ ?_ ?_ ?_ ?_
  all_goals first | exact ⟨a1, dv', cv', x1, x2, by rw [zz hs, hW1], by simp [hA], .inl (by simp [hA])⟩ | exact trivial
 | true =>
  obtain ⟨dv', cv', x1, x2, k⟩ := hall 7 7 rfl (by decide)
  have al1 := al _ dv' cv' x1 x2
  by_cases h0 : i = 0
  ·have al2 := al { (zk a i 7 p.id p.data).1 with g := { (zk a i 7 p.id p.data).1.g with uR := t } } dv' cv' x1 x2
   generalize hA : zk a i 7 p.id p.data = A at *
   obtain ⟨a1, q⟩ := A
   simp only [] at *
   subst h0
   generalize (a.mk' dv cv).obj = W0 at *
   have k' : zq D.W 52 [.ptr K 0, .int .i64 0, .int .i64 7, .int .i64 p.id, .str p.data] (stW st K W0 [.cells 57 p.cells]) = _ := k
   clear k
   unfold AW.mk' zw.obj zw.cells zg.cells zA.cells zl.cells zE.cells at *
   simp only [List.cons_append, List.nil_append] at *
   refine yU fn138 rfl (fun h => by cases h) ?_
   simp only [Go.L.zc, List.map_cons, List.map_nil, Option.bind_some, Option.bind_none, Option.getD_some, Option.getD_none, List.getElem?_cons_zero, List.getElem?_cons_succ, zY.zH, if_true, Bool.false_eq_true, if_false, ite_self]
   unfold D.c138
   (have F := an sF0 (an hlt (an k' (an kt (an e1 (an e2 (an e3 (an hw1 hw2))))))); refine gow ?_)
   (have F := an sF0 (an hlt (eq_true al2)); refine fnw ?_)
   exact ⟨{ a1 with g := { a1.g with uR := t } }, dv', cv', x1, x2, by rw [zz hs], by simp [hA], .inr (by first | exact ⟨rfl, rfl, t, by simp [hA]⟩ | exact ⟨trivial, trivial, t, by simp [hA]⟩)⟩
  ·have h0' : ¬ (i : Int) = 0 := by omega
   generalize hA : zk a i 7 p.id p.data = A at *
   obtain ⟨a1, q⟩ := A
   simp only [] at *
   generalize (a.mk' dv cv).obj = W0 at *
   generalize hW1 : (a1.mk' dv' cv').obj = W1 at *
   unfold zE.cells at *
   refine yU fn138 rfl (fun h => by cases h) ?_
   simp only [Go.L.zc, List.map_cons, List.map_nil, Option.bind_some, Option.bind_none, Option.getD_some, Option.getD_none, List.getElem?_cons_zero, List.getElem?_cons_succ, zY.zH, if_true, Bool.false_eq_true, if_false, ite_self]
   unfold D.c138
   (have F := an sF0 (an hlt (an k (an e1 (an e2 (an e3 (an hw1 (an hw2 (an h0 h0')))))))); refine gow ?_)
   (have F := an sF0 (an hlt (eq_true al1)); refine fnw ?_)
   exact ⟨a1, dv', cv', x1, x2, by rw [zz hs, hW1], by simp [hA], .inl (by simp [hA])⟩
end Go.Proofs.YtpfnlpakcldobaaGreat
