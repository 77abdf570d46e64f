/- Texts of the proof: RS6 RS7 RS8 RM. -/
import Derived.Test.YtpfnlpakcldobaaGreatARC
import Derived.Test.YtpfnlpakcldobaaGreatARW
import Derived.Test.YtpfnlpakcldobaaGreatARS5
set_option linter.unusedVariables false
set_option linter.unusedSimpArgs false
set_option linter.unusedSectionVars false
namespace Go.Proofs.YtpfnlpakcldobaaGreat
open Go Go.L
set_option maxHeartbeats 8000000
theorem mH (b : Bool) (m : Nat) (l : List UInt8) (hw : Wb b m l) (hl : l.length ≤ 70000) (n : Nat) : ∃ (z : Int) (q : Bool), zq D.W 159 [.vs b .sh m (zy l), .int .i64 n] [] = some (.tup [.int .u64 z, .bool q], none) := by
 have e1 := ze l
 have p1 := zx l
 have a1 := zG 0 l
 obtain ⟨z, k⟩ := lY b m l hw (by rw [mb']; omega)
 by_cases h : (l.length : Int) = n
 ·have h' : ((l.length : Int) != n) = false := by simp [h]
  have F := an e1 (an p1 (an a1 (an k (an h h'))))
  exact ⟨_, _, wk⟩
 ·have h' : ((l.length : Int) != n) = true := by simp [h]
  have F := an e1 (an p1 (an a1 (an k (an h h'))))
  exact ⟨_, _, wk⟩
theorem accm_ex (b : Bool) (m : Nat) (l : List UInt8) (hw : Wb b m l) (hl : l.length ≤ 70000) : ∃ (z : Int) (q : Bool), zq D.W 161 [.vs b .sh m (zy l)] [] = some (.tup [.int .u32 z, .bool q], none) := by
 have e1 := ze l
 have p1 := zx l
 have a1 := zG 0 l
 obtain ⟨z, k⟩ := lY b m l hw (by rw [mb']; omega)
 by_cases h : (l.length : Int) = 4
 ·have F := an e1 (an p1 (an a1 (an k h)))
  exact ⟨_, _, wk⟩
 ·have F := an e1 (an p1 (an a1 (an k h)))
  exact ⟨_, _, wk⟩
theorem asked_ex (b : Bool) (m : Nat) (l : List UInt8) (hw : Wb b m l) (hl : l.length ≤ 70000) : ∃ z : Int, zq D.W 156 [.vs b .sh m (zy l)] [] = some (.int .i64 z, none) := by
 have e1 := ze l
 have p1 := zx l
 have a1 := fun k => zG k l
 have mb := mb'
 by_cases h : 0 + 2 ≤ l.length
 ·obtain ⟨rfl, rfl⟩ := hw.ne (fun e => by subst e; simp at h)
  have kc : zq D.W 55 [.vs false .sh 1 (zy l), .int .i64 0, .int .i64 2] [] = _ := nM false 1 l hw (by omega) 0 2 h
  have hl2 : ((l.take (0 + 2)).drop 0).length = 2 := by simp; omega
  obtain ⟨z, kg⟩ := lY false 1 ((l.take (0 + 2)).drop 0) .one (by rw [hl2]; omega)
  have p2 := zx ((l.take (0 + 2)).drop 0)
  have a2 := fun k => zG k ((l.take (0 + 2)).drop 0)
  generalize (l.take (0 + 2)).drop 0 = l2 at *
  have hc : clN false = 1 := rfl
  rw [hc] at kc
  by_cases z1 : z = 49187
  ·subst z1
   by_cases n2 : (l.length : Int) = 2
   ·have F := an e1 (an p1 (an a1 (an p2 (an a2 (an kc (an kg n2))))))
    exact ⟨_, wk⟩
   ·have F := an e1 (an p1 (an a1 (an p2 (an a2 (an kc (an kg n2))))))
    exact ⟨_, wk⟩
  ·by_cases z2 : z = 49699
   ·subst z2
    by_cases n3 : (l.length : Int) = 3
    ·have hi : 2 < l.length := by omega
     have e5 : (zy l)[2]? = some (sd l[2]) := by rw [vB, List.getElem?_eq_getElem hi]; rfl
     have e5' : ∀ h, (zy l)[2]'h = sd l[2] := fun h => by have := List.getElem?_eq_getElem h; rw [e5] at this; exact (Option.some.inj this).symm
     simp only [sd] at e5 e5'
     have g : (2 : Int) < l.length := by omega
     by_cases q : ((l[2]).toNat : Int) = 5
     ·have F := an e1 (an p1 (an a1 (an p2 (an a2 (an kc (an kg (an n3 (an e5 (an e5' (an g (an hi q)))))))))))
      exact ⟨_, wk⟩
     ·have F := an e1 (an p1 (an a1 (an p2 (an a2 (an kc (an kg (an n3 (an e5 (an e5' (an g (an hi q)))))))))))
      exact ⟨_, wk⟩
    ·have F := an e1 (an p1 (an a1 (an p2 (an a2 (an kc (an kg n3))))))
     exact ⟨_, wk⟩
   ·have F := an e1 (an p1 (an a1 (an p2 (an a2 (an kc (an kg (an z1 z2)))))))
    exact ⟨_, wk⟩
 ·have kc : zq D.W 55 [.vs b .sh m (zy l), .int .i64 0, .int .i64 2] [] = _ := kq b m l (by omega) 0 2 (by omega) (by omega) (by omega)
  have F := an e1 (an p1 (an a1 kc))
  exact ⟨_, wk⟩
def Reads (f : FuncId) : Prop := ∀ (b : Bool) (m : Nat) (l : List UInt8) (o0 o2 : zt), Wb b m l → l.length ≤ 70000 → zt.within 3 o0 = true → zt.within 3 o2 = true →
 ∃ (q : Bool) (c : List LVal), zq D.W f [.ptr 1 0, .vs b .sh m (zy l)] [o0, .cells 235 [.bool false, .int .i64 0, .bool false, .int .u32 0, .int .i64 0, .bool false, .bool false, .int .u32 0, .bool false, .bool false], o2] = some (.bool q, some [o0, .cells 235 c, o2])
theorem reads158 : Reads 158 := fun b m l o0 o2 hw hl h0 h2 => by
 have e1 := ze l
 have p1 := zx l
 have a1 := fun k => zG k l
 obtain ⟨z, q, k⟩ : ∃ (z : Int) (q : Bool), zq D.W 159 [.vs b .sh m (zy l), .int .i64 2] [] = some (.tup [.int .u64 z, .bool q], none) := mH b m l hw hl 2
 have F := an e1 (an p1 (an a1 (an k (an h0 h2))))
 exact ⟨_, _, wk⟩
theorem reads160 : Reads 160 := fun b m l o0 o2 hw hl h0 h2 => by
 have e1 := ze l
 have p1 := zx l
 have a1 := fun k => zG k l
 obtain ⟨z, q, k⟩ := accm_ex b m l hw hl
 have F := an e1 (an p1 (an a1 (an k (an h0 h2))))
 exact ⟨_, _, wk⟩
theorem reads162 : Reads 162 := fun b m l o0 o2 hw hl h0 h2 => by
 have e1 := ze l
 have p1 := zx l
 have a1 := fun k => zG k l
 obtain ⟨z, k⟩ := asked_ex b m l hw hl
 have F := an e1 (an p1 (an a1 (an k (an h0 h2))))
 exact ⟨_, _, wk⟩
theorem reads163 : Reads 163 := fun b m l o0 o2 hw hl h0 h2 => by
 have e1 := ze l
 have p1 := zx l
 have a1 := fun k => zG k l
 have F := an e1 (an p1 (an a1 (an h0 h2)))
 exact ⟨_, _, wk⟩
theorem reads164 : Reads 164 := fun b m l o0 o2 hw hl h0 h2 => by
 have e1 := ze l
 have p1 := zx l
 have a1 := fun k => zG k l
 obtain ⟨z, q, k⟩ : ∃ (z : Int) (q : Bool), zq D.W 159 [.vs b .sh m (zy l), .int .i64 4] [] = some (.tup [.int .u64 z, .bool q], none) := mH b m l hw hl 4
 cases q with
 | true =>
  have F := an e1 (an p1 (an a1 (an k (an h0 h2))))
  exact ⟨_, _, wk⟩
 | false =>
  have F := an e1 (an p1 (an a1 (an k (an h0 h2))))
  exact ⟨_, _, wk⟩
theorem reads165 : Reads 165 := fun b m l o0 o2 hw hl h0 h2 => by
 have e1 := ze l
 have p1 := zx l
 have a1 := fun k => zG k l
 have F := an e1 (an p1 (an a1 (an h0 h2)))
 exact ⟨_, _, wk⟩
theorem reads166 : Reads 166 := fun b m l o0 o2 hw hl h0 h2 => by
 have e1 := ze l
 have p1 := zx l
 have a1 := fun k => zG k l
 have F := an e1 (an p1 (an a1 (an h0 h2)))
 exact ⟨_, _, wk⟩
end Go.Proofs.YtpfnlpakcldobaaGreat
namespace Go.Proofs.YtpfnlpakcldobaaGreat
open Go Go.L
attribute [local go_sem] lG qg nb
theorem soundW : vI Tryz.prog (zq D.W) := fun f args st v ost h => by
 obtain ⟨n, hn⟩ := xJ.1 h
 exact vT oW n f args st v ost hn
def te : List (LVal × LVal) := [(.int .i64 1, .func 158 []), (.int .i64 2, .func 160 []), (.int .i64 3, .func 162 []), (.int .i64 4, .func 163 []), (.int .i64 5, .func 164 []), (.int .i64 7, .func 165 []), (.int .i64 8, .func 166 [])]
set_option maxHeartbeats 8000000 in
theorem k157 (o0 o1 : zt) : zq D.W 157 [] [o0, o1] = some (.map 2, some [o0, o1, .map te]) := by
 have F : True := trivial
 exact Ret.eq (Ret.of wk ⟨rfl, rfl⟩)
noncomputable def sK : Code × Code × Array Oper × Code := match Tryz.f155.body with
 | some (.seq a (.seq b (.seq (.region _ ops _) d))) => (a, b, ops, d)
 | _ => (.skip, .skip, #[], .skip)
namespace D
def vm155 : List Nat := [0, 1, 2, 3, 4]
def a155 : zv :=
 .region 2 [⟨0, (some 1), none, .box 146 (.var 0), false, []⟩,
  ⟨1, (some 2), none, .asg (.const (.bool false)), false, []⟩] false
def b155 : zv :=
 .region 1 [⟨0, (some 3), none, .alloc 235 [(.bool false), (.int .i64 0), (.bool false), (.int .u32 0), (.int .i64 0), (.bool false), (.bool false), (.int .u32 0), (.bool false), (.bool false)], false, []⟩] false
def sM : List zj := [⟨0, none, none, .call 157 [], false, []⟩,
 ⟨1, none, none, .fieldAddr 0 1 false (.var 1), false, []⟩,
 ⟨2, none, none, .load false 1 (.loc 1) false, false, []⟩,
 ⟨3, none, none, .lookup (.i .i64) .x6 (.loc 0) (.loc 2) false, false, []⟩,
 ⟨4, (some 4), none, .asg (.loc 3), false, []⟩]
def d155 : zv :=
 .seq (.region 9 [⟨0, none, none, .mv (.var 4) true, false, []⟩,
  ⟨1, none, none, .isNil 3 true (.loc 0), false, []⟩,
  ⟨2, none, none, .mv (.loc 1) false, false, []⟩,
  ⟨3, none, (some ((.loc 2), true)), .mv (.var 4) false, false, []⟩,
  ⟨4, none, (some ((.loc 2), true)), .fieldAddr 1 1 false (.var 1), false, []⟩,
  ⟨5, none, (some ((.loc 2), true)), .load false 1 (.loc 4) false, false, []⟩,
  ⟨6, none, (some ((.loc 2), true)), .tM (.loc 3) [(.var 3), (.loc 5)], false, []⟩,
  ⟨7, none, none, .pick (.loc 2) (.loc 6) (.const (.bool false)), false, []⟩,
  ⟨8, (some 2), none, .sft (.loc 7), false, []⟩] false) .ret
end D
theorem body155 : Tryz.f155.body = some (.seq sK.1 (.seq sK.2.1 (.seq (.region 2 sK.2.2.1 true) sK.2.2.2))) := by kernel_rfl
theorem chk155a : xb Tryz.prog D.vm155 Tryz.f155.ntmps sK.1 D.a155 = true := by kernel_rfl
theorem chk155b : xb Tryz.prog D.vm155 Tryz.f155.ntmps sK.2.1 D.b155 = true := by kernel_rfl
theorem chk155c : qM Tryz.prog D.vm155 Tryz.f155.ntmps sK.2.2.1 5 D.sM = true := by kernel_rfl
theorem chk155d : xb Tryz.prog D.vm155 Tryz.f155.ntmps sK.2.2.2 D.d155 = true := by kernel_rfl
theorem rdy (md : Region.Mode) : Region.ready md sK.2.2.1 #[false, false, false, false, false] = [0, 1] ∧ Region.ready md sK.2.2.1 #[true, false, false, false, false] = [1] ∧ Region.ready md sK.2.2.1 #[false, true, false, false, false] = [0, 2] ∧
 Region.ready md sK.2.2.1 #[true, true, false, false, false] = [2] ∧ Region.ready md sK.2.2.1 #[false, true, true, false, false] = [0] ∧ Region.ready md sK.2.2.1 #[true, true, true, false, false] = [3] ∧
 Region.ready md sK.2.2.1 #[true, true, true, true, false] = [4] ∧ Region.ready md sK.2.2.1 #[true, true, true, true, true] = [] := by
 cases md <;> refine ⟨?_, ?_, ?_, ?_, ?_, ?_, ?_, ?_⟩ <;> kernel_rfl
def pW : zt := .cells 235 [.bool false, .int .i64 0, .bool false, .int .u32 0, .int .i64 0, .bool false, .bool false, .int .u32 0, .bool false, .bool false]
def St (A : LVal) (o0 : zt) (x0 x1 x2 : Bool) (t : Int) (fv : LVal) (r3 r4 : LVal) : RS :=
 ⟨[A, .ptr 0 0, .bool false, .ptr 1 0, fv], if x0 then [o0, pW, .map te] else [o0, pW], [if x0 then .map 2 else .undef, if x1 then .ptr 0 0 else .undef, if x2 then .int .i64 t else .undef, r3, r4]⟩
def wy (t : Int) : LVal := if t = 1 then .func 158 [] else if t = 2 then .func 160 [] else if t = 3 then .func 162 [] else if t = 4 then .func 163 [] else if t = 5 then .func 164 [] else if t = 7 then .func 165 [] else if t = 8 then .func 166 [] else .x6
theorem pG (t : Int) : (wy t = .x6 ∧ rK (.int .i64 t) te = some none) ∨ ∃ f, wy t = .func f [] ∧ Reads f ∧ rK (.int .i64 t) te = some (some (.func f [])) := by
 unfold wy te
 by_cases h1 : t = 1
 ·subst h1; exact .inr ⟨_, rfl, reads158, rfl⟩
 by_cases h2 : t = 2
 ·subst h2; exact .inr ⟨_, rfl, reads160, rfl⟩
 by_cases h3 : t = 3
 ·subst h3; exact .inr ⟨_, rfl, reads162, rfl⟩
 by_cases h4 : t = 4
 ·subst h4; exact .inr ⟨_, rfl, reads163, rfl⟩
 by_cases h5 : t = 5
 ·subst h5; exact .inr ⟨_, rfl, reads164, rfl⟩
 by_cases h7 : t = 7
 ·subst h7; exact .inr ⟨_, rfl, reads165, rfl⟩
 by_cases h8 : t = 8
 ·subst h8; exact .inr ⟨_, rfl, reads166, rfl⟩
 exact .inl ⟨by simp [h1, h2, h3, h4, h5, h7, h8], by simp [rK, qg, h1, h2, h3, h4, h5, h7, h8]⟩
section
variable (b : Bool) (m : Nat) (l : List UInt8) (t : Int)
abbrev uL : LVal := .agg [.int .i64 t, .vs b .sh m (zy l)]
abbrev uK : zt := .cells 146 [.int .i64 t, .vs b .sh m (zy l)]
set_option maxHeartbeats 8000000 in
theorem st0 (x1 x2 : Bool) : ∃ lo, D.sM[0]? = some lo ∧ lo.ix = 0 ∧ Go.L.step (zq D.W) D.W.im D.W.impl (St (uL b m l t) (uK b m l t) false x1 x2 t .undef .undef .undef) lo = some (St (uL b m l t) (uK b m l t) true x1 x2 t .undef .undef .undef) := by
 refine ⟨_, rfl, rfl, ?_⟩
 have k := k157 (uK b m l t) pW
 cases x1 <;> cases x2 <;> simp [St, go_sem, k]
theorem st1 (x0 : Bool) : ∃ lo, D.sM[1]? = some lo ∧ lo.ix = 1 ∧ Go.L.step (zq D.W) D.W.im D.W.impl (St (uL b m l t) (uK b m l t) x0 false false t .undef .undef .undef) lo = some (St (uL b m l t) (uK b m l t) x0 true false t .undef .undef .undef) := by
 refine ⟨_, rfl, rfl, ?_⟩
 cases x0 <;> simp [St, go_sem]
theorem st2 (x0 : Bool) : ∃ lo, D.sM[2]? = some lo ∧ lo.ix = 2 ∧ Go.L.step (zq D.W) D.W.im D.W.impl (St (uL b m l t) (uK b m l t) x0 true false t .undef .undef .undef) lo = some (St (uL b m l t) (uK b m l t) x0 true true t .undef .undef .undef) := by
 refine ⟨_, rfl, rfl, ?_⟩
 cases x0 <;> simp [St, go_sem]
theorem st3 : ∃ lo, D.sM[3]? = some lo ∧ lo.ix = 3 ∧ Go.L.step (zq D.W) D.W.im D.W.impl (St (uL b m l t) (uK b m l t) true true true t .undef .undef .undef) lo = some (St (uL b m l t) (uK b m l t) true true true t .undef (wy t) .undef) := by
 refine ⟨_, rfl, rfl, ?_⟩
 rcases pG t with ⟨h, k⟩ | ⟨f, h, _, k⟩
 ·rw [h]
  simp [St, go_sem, k]
 ·rw [h]
  simp [St, go_sem, k]
theorem st4 : ∃ lo, D.sM[4]? = some lo ∧ lo.ix = 4 ∧ Go.L.step (zq D.W) D.W.im D.W.impl (St (uL b m l t) (uK b m l t) true true true t .undef (wy t) .undef) lo = some (St (uL b m l t) (uK b m l t) true true true t (wy t) (wy t) .undef) := by
 refine ⟨_, rfl, rfl, ?_⟩
 rcases pG t with ⟨h, k⟩ | ⟨f, h, _, k⟩
 ·rw [h]
  simp [St, go_sem]
 ·rw [h]
  simp [St, go_sem]
end
end Go.Proofs.YtpfnlpakcldobaaGreat
namespace Go.L
open Go
section
variable {C : xV} {im : TypeId → String → Option FuncId} {impl : TypeId → TypeId → Bool} {md : Region.Mode} {ops : Array Oper} {los : List zj} {n : Nat} {listed : Array Bool} {σ σ1 σ2 σf : RS} {i j : Nat}
theorem ar1 (h : Region.ready md ops listed = [i]) (hs : ∃ lo, los[i]? = some lo ∧ lo.ix = i ∧ Go.L.step C im impl σ lo = some σ1) (hn : tQ C im impl md ops los n (listed.setIfInBounds i true) σ1 σf) : tQ C im impl md ops los (n + 1) listed σ σf :=
 ⟨by rw [h]; simp, fun k hk => by
  rw [h] at hk
  obtain rfl : k = i := by simpa using hk
  obtain ⟨lo, h1, h2, h3⟩ := hs
  exact ⟨lo, _, h1, h2, h3, hn⟩⟩
theorem ar2 (h : Region.ready md ops listed = [i, j]) (hs : ∃ lo, los[i]? = some lo ∧ lo.ix = i ∧ Go.L.step C im impl σ lo = some σ1) (hn : tQ C im impl md ops los n (listed.setIfInBounds i true) σ1 σf)
 (hs' : ∃ lo, los[j]? = some lo ∧ lo.ix = j ∧ Go.L.step C im impl σ lo = some σ2) (hn' : tQ C im impl md ops los n (listed.setIfInBounds j true) σ2 σf) : tQ C im impl md ops los (n + 1) listed σ σf :=
 ⟨by rw [h]; simp, fun k hk => by
  rw [h] at hk
  simp only [List.mem_cons, List.mem_nil_iff, or_false] at hk
  rcases hk with rfl | rfl
  ·obtain ⟨lo, h1, h2, h3⟩ := hs
   exact ⟨lo, _, h1, h2, h3, hn⟩
  ·obtain ⟨lo, h1, h2, h3⟩ := hs'
   exact ⟨lo, _, h1, h2, h3, hn'⟩⟩
end
end Go.L
namespace Go.Proofs.YtpfnlpakcldobaaGreat
open Go Go.L
section
variable (b : Bool) (m : Nat) (l : List UInt8) (t : Int)
theorem all155 (md : Region.Mode) : tQ (zq D.W) D.W.im D.W.impl md sK.2.2.1 D.sM 5 #[false, false, false, false, false] (St (uL b m l t) (uK b m l t) false false false t .undef .undef .undef) (St (uL b m l t) (uK b m l t) true true true t (wy t) (wy t) .undef) := by
 obtain ⟨r0, r1, r2, r3, r4, r5, r6, r7⟩ := rdy md
 have t3 : tQ (zq D.W) D.W.im D.W.impl md sK.2.2.1 D.sM 2 #[true, true, true, false, false] (St (uL b m l t) (uK b m l t) true true true t .undef .undef .undef) (St (uL b m l t) (uK b m l t) true true true t (wy t) (wy t) .undef) :=
  ar1 r5 (st3 b m l t) (ar1 r6 (st4 b m l t) ⟨r7, rfl⟩)
 have t2 : tQ (zq D.W) D.W.im D.W.impl md sK.2.2.1 D.sM 3 #[true, true, false, false, false] (St (uL b m l t) (uK b m l t) true true false t .undef .undef .undef) (St (uL b m l t) (uK b m l t) true true true t (wy t) (wy t) .undef) :=
  ar1 r3 (st2 b m l t true) t3
 exact ar2 r0 (st0 b m l t false false) (ar1 r1 (st1 b m l t true) t2) (st1 b m l t false) (ar2 r2 (st0 b m l t true false) t2 (st2 b m l t false) (ar1 r4 (st0 b m l t true true) t3))
theorem ca155 : xE D.W D.a155 ⟨[uL b m l t, .undef, .undef, .undef, .undef], [], []⟩ = some (.normal, ⟨[uL b m l t, .ptr 0 0, .bool false, .undef, .undef], [uK b m l t], []⟩) := by
 have F : True := trivial
 obtain ⟨ex, s, h, rfl, rfl⟩ : Wp D.W D.a155 ⟨[uL b m l t, .undef, .undef, .undef, .undef], [], []⟩ (fun e s => e = .normal ∧ s = ⟨[uL b m l t, .ptr 0 0, .bool false, .undef, .undef], [uK b m l t], []⟩) := wp1
 exact h
theorem cb155 : xE D.W D.b155 ⟨[uL b m l t, .ptr 0 0, .bool false, .undef, .undef], [uK b m l t], []⟩ = some (.normal, ⟨[uL b m l t, .ptr 0 0, .bool false, .ptr 1 0, .undef], [uK b m l t, pW], []⟩) := by
 have F : True := trivial
 obtain ⟨ex, s, h, rfl, rfl⟩ : Wp D.W D.b155 ⟨[uL b m l t, .ptr 0 0, .bool false, .undef, .undef], [uK b m l t], []⟩ (fun e s => e = .normal ∧ s = ⟨[uL b m l t, .ptr 0 0, .bool false, .ptr 1 0, .undef], [uK b m l t, pW], []⟩) := wp1
 exact h
set_option maxHeartbeats 8000000 in
theorem cd155 (hw : Wb b m l) (hl : l.length ≤ 70000) : ∃ σ4 σ5 q, xE D.W D.d155 ⟨[uL b m l t, .ptr 0 0, .bool false, .ptr 1 0, wy t], [uK b m l t, pW, .map te], []⟩ = some (.ret, σ4) ∧ vP σ4 [.var 2] = some (.bool q, σ5) := by
 have W : Wp D.W D.d155 ⟨[uL b m l t, .ptr 0 0, .bool false, .ptr 1 0, wy t], [uK b m l t, pW, .map te], []⟩ (fun e s => e = .ret ∧ ∃ σ5 q, vP s [.var 2] = some (.bool q, σ5)) := by
  rcases pG t with ⟨h, _⟩ | ⟨f, h, hr, _⟩
  ·rw [h]
   have F : True := trivial
   exact Wp.to wp1 ⟨rfl, _, _, rfl⟩
  ·rw [h]
   obtain ⟨q, c, k⟩ := hr b m l (uK b m l t) (.map te) hw hl (by simp [zt.within, LVal.zb, LVal.within, zG]) rfl
   have k' : zq D.W f [.ptr 1 0, .vs b .sh m (zy l)] [uK b m l t, pW, .map te] = _ := k
   have F := an k' zG
   exact Wp.to wp1 ⟨rfl, _, _, rfl⟩
 obtain ⟨ex, σ4, h1, rfl, σ5, q, h2⟩ := W
 exact ⟨σ4, σ5, q, h1, h2⟩
end
theorem nN {nt : Nat} {c : Code} {lc : zv} {vm : List Nat} (hv : ue vm = true) (hc : xb Tryz.prog vm nt c lc = true) {σ σ' : RS} {ex : yS} (h : xE D.W lc σ = some (ex, σ')) {ρ S G a w} (hr : CR Tryz.prog vm nt ρ S G σ a w) (Q : Exit → Act → World → Prop)
 (hk : ∀ a' w', (∃ ρ' S' G', CR Tryz.prog vm nt ρ' S' G' σ' a' w' ∧ Pr w S G ρ w' S' G' ρ') → Q (oV ex) a' w') : c.wp Tryz.prog Q a w := by
 obtain ⟨n, hn⟩ := yh.1 h
 exact u5 hv (vT oW n) oW.1 c hc n ρ S G σ a w ex σ' hr hn Q hk
theorem kU (b : Bool) (m : Nat) (l : List UInt8) (t : Int) (hw : Wb b m l) (hl : l.length ≤ 70000) : ∃ v, D.Sh155 v ∧ uW Tryz.prog 155 [uL b m l t] [] v none := by
 obtain ⟨σ4, σ5, q, hd, hq⟩ := cd155 b m l t hw hl
 refine ⟨.bool q, ⟨q, rfl⟩, ?_⟩
 refine fun_ok_gen (cd := fun _ _ => some (.ret, σ4)) (lf := ⟨1, [some 0, none, none, none, none], .skip, [.var 2], .pure⟩) (vm := D.vm155) Tryz.func155 body155 (by kernel_rfl) (by kernel_rfl) (by kernel_rfl) ?_ ?_
 ·intro ρ S G a w ex σ1 st0 hCR hst he Q hk
  injection he with he; injection he with e1 e2; subst e1; subst e2
  subst hst
  refine wp_seq (nN rfl chk155a (ca155 b m l t) hCR _ fun a1 w1 ⟨ρ1, S1, G1, h1, p1⟩ => ?_)
  refine wp_seq (nN rfl chk155b (cb155 b m l t) h1 _ fun a2 w2 ⟨ρ2, S2, G2, h2, p2⟩ => ?_)
  refine wp_seq (regionA_ok rfl soundW oW.1 chk155c h2 (σ1 := St (uL b m l t) (uK b m l t) true true true t (wy t) (wy t) .undef) (fun md => all155 b m l t md) fun a3 w3 ⟨ρ3, S3, G3, h3, p3⟩ => ?_)
  exact nN rfl chk155d hd h3 Q fun a4 w4 ⟨ρ4, S4, G4, h4, p4⟩ => hk a4 w4 ⟨ρ4, S4, G4, h4, ((p1.trans p2).trans p3).trans p4⟩
 ·simp [xn, LVal.pfs, LVal.pf, zY.zH, hq, vD]
end Go.Proofs.YtpfnlpakcldobaaGreat
namespace Go.Proofs.YtpfnlpakcldobaaGreat
open Go Go.L
theorem sum_ex (l1 l2 : List UInt8) (b : Bool) (m : Nat) (l3 : List UInt8) (h1 : 1 ≤ l1.length ∧ l1.length ≤ 70000) (h2 : l2.length ≤ 70000) (hw : Wb b m l3) (h3 : l3.length ≤ 70000) :
 ∃ xs : List LVal, zq D.W 90 [.vs false .sh 1 [.vs false .sh 1 (zy l1), .vs false .sh 1 (zy l2), .vs b .sh m (zy l3)]] [] = some (.agg xs, none) ∧ xs.length = 16 ∧ ∀ x ∈ xs, ∃ n, x = .int .u8 n := by
 obtain ⟨v, ⟨xs, rfl, hx⟩, hv⟩ := D.hk_some (sum_sound l1 l2 b m l3 h1.1 h1.2 h2 hw h3)
 exact ⟨xs, xJ.2 ⟨1, by simp only [yG, fn90]; exact hv⟩, hx⟩
theorem kW (t : Int) (b : Bool) (m : Nat) (l : List UInt8) (hw : Wb b m l) (hl : l.length ≤ 255) : ∃ q : Bool, zq D.W 155 [.agg [.int .i64 t, .vs b .sh m (zy l)]] [] = some (.bool q, none) := by
 obtain ⟨v, ⟨q, rfl⟩, hv⟩ := D.hk_some (kU b m l t hw (by omega))
 exact ⟨q, xJ.2 ⟨1, by simp only [yG, fn155]; exact hv⟩⟩
end Go.Proofs.YtpfnlpakcldobaaGreat
