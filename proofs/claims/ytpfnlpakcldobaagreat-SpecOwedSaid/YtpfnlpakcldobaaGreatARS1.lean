/- Texts of the proof: RK4 RZ0 RZ1 RL0 RI0 RS1. -/
import Derived.Test.YtpfnlpakcldobaaGreatARC
import Derived.Test.YtpfnlpakcldobaaGreatARK1
import Derived.Test.YtpfnlpakcldobaaGreatARW
import Derived.ProofKit
import Derived.Test.YtpfnlpakcldobaaGreatProg
import Derived.KernelRfl
import Derived.Shelf.Spec.SlicesGrow
import Derived.Ground.Names8Prog
set_option linter.unusedVariables false
set_option linter.unusedSimpArgs false
set_option linter.unusedSectionVars false
namespace Go.Proofs.YtpfnlpakcldobaaGreat
open Go Go.L
def lB (c : zg) : zD := ⟨⟨0, 0, c.mf, false, false, 0, []⟩, ⟨0, 0, c.mf, false, false, 0, []⟩, ⟨0, 0, c.mf, false, false, 0, []⟩, ⟨0, 0, false, false, false, 0, [], false, 0⟩, true, .sh, 0, []⟩
set_option maxHeartbeats 8000000 in
theorem start_eq (c : zg) : zq D.W 13 [.agg c.cells] [] = some (.agg (lB c).cells, none) := by
 refine Ret.eq ?_
 unfold zg.cells
 have F : IntKind.i64.wrap 1 = 1 ∧ IntKind.i64.wrap 2 = 2 ∧ IntKind.i64.wrap 3 = 3 := ⟨rfl, rfl, rfl⟩
 exact Ret.of wkl ⟨rfl, rfl⟩
theorem qD (i : Nat) (hi : i < 3) : zq D.W 33 [.int .i64 i] [] = some (.int .i64 (if i = 0 then 49185 else if i = 1 then 32801 else 32855), none) := by
 refine Ret.eq ?_
 have F : True := trivial
 match i, hi with
 | 0, _ => exact Ret.of wk ⟨rfl, rfl⟩
 | 1, _ => exact Ret.of wk ⟨rfl, rfl⟩
 | 2, _ => exact Ret.of wk ⟨rfl, rfl⟩
set_option maxHeartbeats 8000000 in
theorem link17_eq (p : Int) : zq D.W 17 [.int .i64 p] [] = some (.int .i64 (vX p), none) := by
 have k0 := qD 0 (by decide)
 have k1 := qD 1 (by decide)
 have k2 := qD 2 (by decide)
 have w : IntKind.i64.wrap 1 = 1 ∧ IntKind.i64.wrap 2 = 2 ∧ IntKind.i64.wrap 3 = 3 := ⟨rfl, rfl, rfl⟩
 have K : zq D.W 33 [.int .i64 0] [] = some (.int .i64 49185, none) ∧ zq D.W 33 [.int .i64 1] [] = some (.int .i64 32801, none) ∧ zq D.W 33 [.int .i64 2] [] = some (.int .i64 32855, none) := ⟨k0, k1, k2⟩
 refine Ret.eq ?_
 unfold vX
 by_cases h0 : p = 49185
 ·subst h0
  have F := an w K
  exact Ret.of wkl ⟨rfl, rfl⟩
 ·have g0 : ¬ 49185 = p := fun e => h0 e.symm
  by_cases h1 : p = 32801
  ·subst h1
   have F := an w K
   exact Ret.of wkl ⟨rfl, rfl⟩
  ·have g1 : ¬ 32801 = p := fun e => h1 e.symm
   by_cases h2 : p = 32855
   ·subst h2
    have F := an w K
    exact Ret.of wkl ⟨rfl, rfl⟩
   ·have g2 : ¬ 32855 = p := fun e => h2 e.symm
    have F := an w (an K (an h0 (an h1 (an h2 (an g0 (an g1 g2))))))
    exact Ret.of wkl (by simp [h0, h1, h2])
def wS (l : List yp) : List LVal := l.map fun x => .agg x.cells
theorem uT (l : List yp) : (wS l).length = l.length := by simp [wS]
theorem labsL_get (l : List yp) (i : Nat) : (wS l)[i]? = (l[i]?).map fun x => .agg x.cells := by simp [wS]
theorem qz : ∀ l : List yp, LVal.pfs (wS l) = true
 | [] => rfl
 | x :: r => by simp only [wS, List.map_cons, LVal.pfs, LVal.pf, yp.cells, Bool.and_self, Bool.true_and]; exact qz r
theorem ua (n : Nat) : ∀ l : List yp, LVal.zb n (wS l) = true
 | [] => rfl
 | x :: r => by simp only [wS, List.map_cons, LVal.zb, LVal.within, yp.cells, Bool.and_self, Bool.true_and]; exact ua n r
def Wl (b : Bool) (m : Nat) (l : List yp) : Prop := (b = false ∧ m = 6) ∨ (b = true ∧ l = [])
theorem jg {l : List yp} {i : Nat} (hi : i < l.length) : (wS l)[i]? = some (.agg [.int .i64 l[i].kind, .int .i64 l[i].zd, .int .i64 l[i].item.dir, .int .i64 l[i].item.zd, .vs l[i].item.nil .sh l[i].item.m (zy l[i].item.data), .bool l[i].vo]) ∧
 ∀ h, (wS l)[i]'h = .agg [.int .i64 l[i].kind, .int .i64 l[i].zd, .int .i64 l[i].item.dir, .int .i64 l[i].item.zd, .vs l[i].item.nil .sh l[i].item.m (zy l[i].item.data), .bool l[i].vo] := by
 have e : (wS l)[i]? = some (.agg [.int .i64 l[i].kind, .int .i64 l[i].zd, .int .i64 l[i].item.dir, .int .i64 l[i].item.zd, .vs l[i].item.nil .sh l[i].item.m (zy l[i].item.data), .bool l[i].vo]) := by rw [labsL_get, List.getElem?_eq_getElem hi]; rfl
 refine ⟨e, fun h => ?_⟩
 have := List.getElem?_eq_getElem h
 rw [e] at this
 exact (Option.some.inj this).symm
set_option maxHeartbeats 8000000 in
theorem loop27 (b : Bool) (m : Nat) (cs : List yp) (hm : cs ≠ [] → m = 6) (hl : cs.length ≤ 9223372036854775807) (Q : yS → RS → Prop)
 (hE : ∀ v1 (i : Nat) v3 v4, (i = cs.length ∨ 80 < cs.length) → (∀ k (h : k < cs.length), k < i → cs[k].item.data.length ≤ 1000) → Q (.exit 0) ⟨[.vs b .sh m (wS cs), v1, .int .i64 i, v3, v4], [], []⟩)
 (hR : ∀ (i : Nat) v3 v4, Q .ret ⟨[.vs b .sh m (wS cs), .bool false, .int .i64 i, v3, v4], [], []⟩) :
 ∀ (j i : Nat) (v1 v3 v4 : LVal), i + j = 100 → i ≤ cs.length → (∀ k (h : k < cs.length), k < i → cs[k].item.data.length ≤ 1000) → v1.zr = false → v3.zr = false → v4.zr = false →
  Wp D.W (.loop D.b27_0) ⟨[.vs b .sh m (wS cs), v1, .int .i64 i, v3, v4], [], []⟩ Q
 | 0, i, v1, v3, v4, hij, hi, hk, o1, o3, o4 => by
  have e4 := uT cs
  apply xi
  by_cases h1 : i < cs.length
  ·have g1 : (i : Int) < cs.length := by omega
   have g2 : ¬ (i : Int) < 100 := by omega
   have F := an o1 (an o3 (an o4 (an e4 (an g1 (an g2 h1)))))
   refine Wp.to wp1 (za.e ?_)
   exact hE _ _ _ _ (.inr (by omega)) hk
  ·have g1 : ¬ (i : Int) < cs.length := by omega
   have F := an o1 (an o3 (an o4 (an e4 (an g1 h1))))
   refine Wp.to wp1 (za.e ?_)
   exact hE _ _ _ _ (.inl (by omega)) hk
 | j + 1, i, v1, v3, v4, hij, hi, hk, o1, o3, o4 => by
  have e4 := uT cs
  apply xi
  by_cases h1 : i < cs.length
  ·have hm2 := hm (fun e => by subst e; simp at h1)
   subst hm2
   have g1 : (i : Int) < cs.length := by omega
   have g0 : 0 ≤ (i : Int) ∧ (i : Int) < cs.length := by omega
   have g2 : (i : Int) < 100 := by omega
   have e3 : IntKind.i64.wrap ((i : Int) + 1) = (i : Int) + 1 := vG (by omega) (by omega)
   obtain ⟨e5, e5'⟩ := jg h1
   have e6 := ze cs[i].item.data
   have ew := ua
   by_cases h2 : cs[i].item.data.length ≤ 1000
   ·have g3 : ¬ (1000 : Int) < cs[i].item.data.length := by omega
    have F := an o1 (an o3 (an o4 (an e4 (an g1 (an g0 (an g2 (an e3 (an e5 (an e5' (an e6 (an ew (an h1 g3))))))))))))
    refine Wp.to wp1 (za.n ?_)
    have ih := loop27 b 6 cs hm hl Q hE hR j (i + 1) .undef .undef .undef (by omega) (by omega) (fun k h hk' => by
     by_cases hki : k = i
     ·subst hki; exact h2
     ·exact hk k h (by omega)) rfl rfl rfl
    have ec : ((i + 1 : Nat) : Int) = (i : Int) + 1 := by omega
    rw [ec] at ih
    exact ih
   ·have g3 : (1000 : Int) < cs[i].item.data.length := by omega
    have F := an o1 (an o3 (an o4 (an e4 (an g1 (an g0 (an g2 (an e3 (an e5 (an e5' (an e6 (an ew (an h1 g3))))))))))))
    refine Wp.to wp1 (za.r ?_)
    exact hR _ _ _
  ·have g1 : ¬ (i : Int) < cs.length := by omega
   have F := an o1 (an o3 (an o4 (an e4 (an g1 h1))))
   refine Wp.to wp1 (za.e ?_)
   exact hE _ _ _ _ (.inl (by omega)) hk
set_option maxHeartbeats 8000000 in
theorem few_ex (b : Bool) (m : Nat) (cs : List yp) (hw : Wl b m cs) (hl : cs.length ≤ 9223372036854775807) : ∃ q : Bool, zq D.W 27 [.vs b .sh m (wS cs)] [] = some (.bool q, none) ∧ (q = true → cs.length ≤ 80 ∧ ∀ x ∈ cs, x.item.data.length ≤ 1000) := by
 suffices h : Ret D.W 27 [.vs b .sh m (wS cs)] [] (fun v o => o = none ∧ ∃ q : Bool, v = .bool q ∧ (q = true → cs.length ≤ 80 ∧ ∀ x ∈ cs, x.item.data.length ≤ 1000)) by
  obtain ⟨v, k, q, rfl, h⟩ := h.ex
  exact ⟨q, k, h⟩
 have hm : cs ≠ [] → m = 6 := fun hne => by rcases hw with ⟨_, h⟩ | ⟨_, h⟩; exact h; exact absurd h hne
 have e4 := uT cs
 have ep := qz cs
 have ew := ua
 have F : (wS cs).length = cs.length ∧ LVal.pfs (wS cs) = true ∧ (∀ n l, LVal.zb n (wS l) = true) := ⟨e4, ep, ew⟩
 refine wk2 ?_
 refine loop27 b m cs hm hl _ ?_ ?_ 100 0 _ _ _ (by omega) (by omega) (fun k h h' => absurd h' (by omega)) rfl rfl rfl
 ·intro v1 i v3 v4 hi hk
  by_cases h80 : cs.length ≤ 80
  ·have g : (cs.length : Int) ≤ 80 := by omega
   have E : True → cs.length ≤ 80 ∧ ∀ x ∈ cs, x.item.data.length ≤ 1000 := fun _ => ⟨h80, fun x hx => by
    obtain ⟨k, h, rfl⟩ := List.getElem_of_mem hx
    exact hk k h (by omega)⟩
   have E' := E trivial
   clear E
   have E := E'
   have F := an e4 (an ep (an ew (an g h80)))
   exact wz
  ·have g : ¬ (cs.length : Int) ≤ 80 := by omega
   have F := an e4 (an ep (an ew (an g h80)))
   exact wz
 ·intro i v3 v4
  exact wz
end Go.Proofs.YtpfnlpakcldobaaGreat
set_option maxRecDepth 100000
namespace Go.Proofs.YtpfnlpakcldobaaGreat
open Go Go.L
theorem sh5 : vi Tryz.prog 5 = .int .u8 := by kernel_rfl
theorem sh39 : vi Tryz.prog 39 = .slice 44 6 true := by kernel_rfl
theorem sh40 : vi Tryz.prog 40 = .slice 5 1 false := by kernel_rfl
theorem sh42 : vi Tryz.prog 42 = .fields [3, 3, 40] := by kernel_rfl
theorem sh44 : vi Tryz.prog 44 = .fields [3, 3, 42, 4] := by kernel_rfl
theorem rd_u8 {d : Nat} {us : List LVal} (h : Rd Tryz.prog (d + 1) 5 us) : ∃ b : UInt8, us = [sd b] := by
 obtain ⟨n, h1, h2⟩ := wv h sh5
 simp only [Lit.wf, Bool.and_eq_true, decide_eq_true_eq, IntKind.min, IntKind.max, IntKind.signed, IntKind.bits] at h2
 simp at h2
 refine ⟨UInt8.ofNat n.toNat, ?_⟩
 rw [h1]
 have : ((UInt8.ofNat n.toNat).toNat : Int) = n := by
  rw [UInt8.toNat_ofNat']
  omega
 simp only [sd, this]
theorem rd_u8s {d : Nat} : ∀ {xs : List LVal}, (∀ x ∈ xs, x.isAgg = false ∧ x.cells.length = 1 ∧ Rd Tryz.prog (d + 1) 5 x.cells) → ∃ l : List UInt8, xs = zy l
 | [], _ => ⟨[], rfl⟩
 | x :: xs, h => by
  obtain ⟨h1, h2, h3⟩ := h x (List.mem_cons_self ..)
  obtain ⟨b, k1⟩ := rd_u8 h3
  obtain ⟨l, m1⟩ := rd_u8s (fun y hy => h y (List.mem_cons_of_mem _ hy))
  refine ⟨b :: l, ?_⟩
  have hx : x.cells = [x] := by cases x <;> first | rfl | simp [LVal.isAgg] at h1
  rw [hx] at k1
  rw [m1, (List.cons.inj k1).1]
  rfl
theorem kZ {d : Nat} {us : List LVal} (h : Rd Tryz.prog (d + 4) 44 us) : ∃ x : yp, us = x.cells ∧ Wb x.item.nil x.item.m x.item.data := by
 obtain ⟨a, _, rfl, ha, b, _, rfl, hb, c, _, rfl, hc, e, _, rfl, he, rfl⟩ := wv h sh44
 obtain ⟨c1, _, rfl, hc1, c2, _, rfl, hc2, c3, _, rfl, hc3, rfl⟩ := wv hc sh42
 obtain ⟨n1, rfl, _⟩ := vt ha
 obtain ⟨n2, rfl, _⟩ := vt hb
 obtain ⟨n3, rfl, _⟩ := vt hc1
 obtain ⟨n4, rfl, _⟩ := vt hc2
 obtain ⟨n, xs, rfl, k4, k5, k6⟩ := wv hc3 sh40
 obtain ⟨l, rfl⟩ := rd_u8s (d := d) k6
 obtain ⟨q, rfl⟩ := tU he
 refine ⟨⟨n1, n2, ⟨n3, n4, n, 1, l⟩, q⟩, rfl, ?_⟩
 cases n with
 | false => exact .inl ⟨rfl, rfl⟩
 | true =>
  have := k4 rfl
  exact .inr ⟨rfl, by simpa [zy] using this⟩
theorem mF {d : Nat} : ∀ {xs : List LVal}, (∀ x ∈ xs, x.isAgg = true ∧ x.cells.length = 6 ∧ Rd Tryz.prog (d + 4) 44 x.cells) → ∃ l : List yp, xs = wS l ∧ ∀ x ∈ l, Wb x.item.nil x.item.m x.item.data
 | [], _ => ⟨[], rfl, fun e he => by simp at he⟩
 | x :: xs, h => by
  obtain ⟨h1, h2, h3⟩ := h x (List.mem_cons_self ..)
  obtain ⟨e, k1, k2⟩ := kZ h3
  obtain ⟨l, m1, m2⟩ := mF (fun y hy => h y (List.mem_cons_of_mem _ hy))
  refine ⟨e :: l, ?_, fun y hy => ?_⟩
  ·cases x <;> simp [LVal.isAgg] at h1
   rw [m1]
   simp only [LVal.cells] at k1
   rw [k1]; rfl
  ·rcases List.mem_cons.1 hy with rfl | hy
   ·exact k2
   ·exact m2 y hy
theorem rd_labs {d : Nat} {us : List LVal} (h : Rd Tryz.prog (d + 5) 39 us) : ∃ (b : Bool) (l : List yp), us = [.vs b .sh 6 (wS l)] ∧ Wl b 6 l ∧ l.length ≤ 9223372036854775807 ∧ ∀ x ∈ l, Wb x.item.nil x.item.m x.item.data := by
 obtain ⟨n, xs, rfl, k4, k5, k6⟩ := wv h sh39
 obtain ⟨l, rfl, k7⟩ := mF (d := d) k6
 rw [uT] at k5
 refine ⟨n, l, rfl, ?_, k5, k7⟩
 cases n with
 | false => exact .inl ⟨rfl, rfl⟩
 | true =>
  have := k4 rfl
  exact .inr ⟨rfl, by simpa [wS] using this⟩
end Go.Proofs.YtpfnlpakcldobaaGreat
set_option maxRecDepth 100000
namespace Go.Proofs.YtpfnlpakcldobaaGreat
open Go Go.L Go.ChangeShapes Go.WideShapes Go.ChangeAt Go.RowKit
theorem Tryz.own : ownKnob Tryz.prog.godebug = none := by kernel_rfl
theorem Tryz.laidOut : laidOutB Tryz.prog = true := by kernel_rfl
theorem pX {H : Type} {enc : TypeId × Value → H} {P : Program} {w : World} {base : Nat} {sp : Nat → Bool} {hd : Bool} : ∀ {ts : List TypeId} {vs : List Value} {ds : List (DataW H)} {ps : List MemPlace}, DataW.TrodAll enc P w base sp hd ts vs ds ps → ds.length = ts.length
 | [], _, _, _, h => by
  obtain ⟨rfl, rfl, rfl⟩ := trodAll_nil h
  rfl
 | t :: ts, _, _, _, h => by
  obtain ⟨v, vs1, d, ds1, a, b, rfl, rfl, rfl, h1, h2⟩ := trodAll_cons h
  simp [pX h2]
def z24 : Value := .agg #[.int .i64 0, .int .i64 0, .int .i64 0, .int .i64 0, .string ⟨#[]⟩, .string ⟨#[]⟩, .int .i64 0, .int .u32 0, .bool false]
def z44 : Value := .agg #[.int .i64 0, .int .i64 0, .int .i64 0, .int .i64 0, .slice none 0 0, .bool false]
theorem rd24 : oE Tryz.prog 8 24 = true := by kernel_rfl
theorem rd39 : oE Tryz.prog 8 39 = true := by kernel_rfl
theorem rd44 : oE Tryz.prog 8 44 = true := by kernel_rfl
theorem ag24 : vw Tryz.prog 24 = true := by kernel_rfl
theorem ag39 : vw Tryz.prog 39 = false := by kernel_rfl
theorem ag44 : vw Tryz.prog 44 = true := by kernel_rfl
theorem rr24 : Tryz.prog.readableRec 24 = true ∧ 24 < Tryz.prog.types.size := ⟨by kernel_rfl, of_decide_eq_true (by kernel_rfl)⟩
theorem rr39 : Tryz.prog.readableRec 39 = true ∧ 39 < Tryz.prog.types.size := ⟨by kernel_rfl, of_decide_eq_true (by kernel_rfl)⟩
theorem rr44 : Tryz.prog.readableRec 44 = true ∧ 44 < Tryz.prog.types.size := ⟨by kernel_rfl, of_decide_eq_true (by kernel_rfl)⟩
theorem u4 : Tryz.prog.underlying 4 = some .bool := by kernel_rfl
theorem jb {u : LVal} (h : ∃ cs, Rd Tryz.prog 8 24 cs ∧ u = mkArg (vw Tryz.prog 24) cs) : ∃ c : zg, u = .agg c.cells ∧ i64 c.mc ∧ i64 c.mt ∧ i64 c.mf ∧ i64 c.mru := by
 obtain ⟨cs, h1, rfl⟩ := h
 obtain ⟨c, rfl, h2⟩ := rd_conf (d := 6) h1
 exact ⟨c, by rw [ag24]; rfl, h2⟩
theorem je {u : LVal} (h : ∃ cs, Rd Tryz.prog 8 39 cs ∧ u = mkArg (vw Tryz.prog 39) cs) : ∃ (b : Bool) (l : List yp), u = .vs b .sh 6 (wS l) ∧ Wl b 6 l ∧ l.length ≤ 9223372036854775807 ∧ ∀ x ∈ l, Wb x.item.nil x.item.m x.item.data := by
 obtain ⟨cs, h1, rfl⟩ := h
 obtain ⟨b, l, rfl, h2⟩ := rd_labs (d := 3) h1
 exact ⟨b, l, by rw [ag39]; rfl, h2⟩
theorem label_arg {u : LVal} (h : ∃ cs, Rd Tryz.prog 8 44 cs ∧ u = mkArg (vw Tryz.prog 44) cs) : ∃ x : yp, u = .agg x.cells ∧ Wb x.item.nil x.item.m x.item.data := by
 obtain ⟨cs, h1, rfl⟩ := h
 obtain ⟨x, rfl, h2⟩ := kZ (d := 4) h1
 exact ⟨x, by rw [ag44]; rfl, h2⟩
end Go.Proofs.YtpfnlpakcldobaaGreat
namespace Go.Proofs.YtpfnlpakcldobaaGreat
open Go Go.L
set_option maxHeartbeats 8000000 in
theorem jC (c : zg) (b : Bool) (m : Nat) (cs : List yp) (hw : Wl b m cs) (hl : cs.length ≤ 9223372036854775807) : ∃ q : Bool, zq D.W 12 [.agg c.cells, .vs b .sh m (wS cs)] [] = some (.bool q, none) ∧
 (q = true → qf c = true ∧ c.s1.length ≤ 200 ∧ c.s2.length ≤ 200 ∧ cs.length ≤ 80 ∧ ∀ x ∈ cs, x.item.data.length ≤ 1000) := by
 suffices h : Ret D.W 12 [.agg c.cells, .vs b .sh m (wS cs)] [] (fun v o => o = none ∧ ∃ q : Bool, v = .bool q ∧ (q = true → qf c = true ∧ c.s1.length ≤ 200 ∧ c.s2.length ≤ 200 ∧ cs.length ≤ 80 ∧ ∀ x ∈ cs, x.item.data.length ≤ 1000)) by
  obtain ⟨v, k, q, rfl, h⟩ := h.ex
  exact ⟨q, k, h⟩
 have kg := toW (rgood_eq c)
 obtain ⟨q, kf, hf⟩ := few_ex b m cs hw hl
 have ep := qz cs
 generalize hG : qf c = g at *
 unfold zg.cells at *
 cases g with
 | false =>
  have F := an kg (an kf ep)
  exact Ret.of wk ⟨rfl, _, rfl, fun e => by cases e⟩
 | true =>
  by_cases h1 : c.s1.length ≤ 200
  ·have g1 : (c.s1.length : Int) ≤ 200 := by omega
   by_cases h2 : c.s2.length ≤ 200
   ·have g2 : (c.s2.length : Int) ≤ 200 := by omega
    have F := an kg (an kf (an ep (an g1 (an g2 (an h1 h2)))))
    exact Ret.of wk ⟨rfl, _, rfl, fun e => ⟨rfl, h1, h2, hf e⟩⟩
   ·have g2 : ¬ (c.s2.length : Int) ≤ 200 := by omega
    have F := an kg (an kf (an ep (an g1 (an g2 (an h1 h2)))))
    exact Ret.of wk ⟨rfl, _, rfl, fun e => by first | cases e | (exfalso; revert e; simp [h2])⟩
  ·have g1 : ¬ (c.s1.length : Int) ≤ 200 := by omega
   have F := an kg (an kf (an ep (an g1 h1)))
   exact Ret.of wk ⟨rfl, _, rfl, fun e => by first | cases e | (exfalso; revert e; simp [h1])⟩
theorem goodB_ok {c : zg} (h : qf c = true) : (1 ≤ c.mc ∧ c.mc ≤ 255) ∧ (1 ≤ c.mt ∧ c.mt ≤ 255) ∧ (1 ≤ c.mf ∧ c.mf ≤ 255) := by
 simp [qf, uF, inB] at h
 omega
end Go.Proofs.YtpfnlpakcldobaaGreat
namespace Go.Proofs.YtpfnlpakcldobaaGreat
open Go Go.L
mutual
theorem v_mono {n m : Nat} (hnm : n ≤ m) : ∀ (v : LVal), v.within n = true → v.within m = true
 | .ptr .., h => by simp only [LVal.within, decide_eq_true_eq] at h ⊢; omega
 | .ms .., h => by simp only [LVal.within, decide_eq_true_eq] at h ⊢; omega
 | .map _, h => by simp only [LVal.within, decide_eq_true_eq] at h ⊢; omega
 | .func _ caps, h => by simp only [LVal.within] at h ⊢; exact sB hnm caps h
 | .iface _ v, h => by simp only [LVal.within] at h ⊢; exact v_mono hnm v h
 | .agg cs, h => by simp only [LVal.within] at h ⊢; exact sB hnm cs h
 | .tup l, h => by simp only [LVal.within] at h ⊢; exact sB hnm l h
 | .undef, _ => rfl
 | .bool _, _ => rfl
 | .int .., _ => rfl
 | .str _, _ => rfl
 | .ref _, _ => rfl
 | .vh, _ => rfl
 | .vs .., _ => rfl
 | .wq, _ => rfl
 | .x6, _ => rfl
 | .yX, _ => rfl
theorem sB {n m : Nat} (hnm : n ≤ m) : ∀ (l : List LVal), LVal.zb n l = true → LVal.zb m l = true
 | [], _ => rfl
 | v :: r, h => by
  simp only [LVal.zb, Bool.and_eq_true] at h ⊢
  exact ⟨v_mono hnm v h.1, sB hnm r h.2⟩
end
theorem o_mono {n m : Nat} (hnm : n ≤ m) {x : zt} (h : zt.within n x = true) : zt.within m x = true := by
 cases x with
 | dead => rfl
 | cells t c => exact sB hnm c h
 | map es =>
  simp only [zt.within, Bool.and_eq_true] at h ⊢
  exact ⟨sB hnm _ h.1, sB hnm _ h.2⟩
structure xA (N K : Nat) (st : List zt) : Prop where
 len : st.length = N
 lt : K < N
 within : ∀ x ∈ st, zt.within N x = true
 settled : ∀ (i : Nat) (x : zt), i ≠ K → st[i]? = some x → x.settle = x
def stW (st : List zt) (K : Nat) (W : zt) (ext : List zt) : List zt := st.set K W ++ ext
variable {N K : Nat} {st : List zt}
theorem zC {W : zt} (h : st[K]? = some W) : st = stW st K W [] := by
 unfold stW
 rw [List.append_nil]
 refine List.ext_getElem? fun i => ?_
 rw [List.getElem?_set]
 split
 ·rename_i hi; subst hi
  split
  ·rw [h]
  ·rename_i hl; rw [List.getElem?_eq_none (by omega)]
 ·rfl
theorem stW_len (h : xA N K st) (W : zt) (ext : List zt) : (stW st K W ext).length = N + ext.length := by simp [stW, h.len]
theorem xM (h : xA N K st) (W : zt) (ext : List zt) : (stW st K W ext)[K]? = some W := by
 have := h.len; have := h.lt
 rw [stW, List.getElem?_append_left (by simp; omega), List.getElem?_set]
 simp; omega
theorem qA (h : xA N K st) (W : zt) (ext : List zt) (i : Nat) : (stW st K W ext)[N + i]? = ext[i]? := by
 have := h.len
 rw [stW, List.getElem?_append_right (by simp; omega)]
 congr 1
 simp; omega
theorem zz (h : xA N K st) (W V : zt) (ext : List zt) : (stW st K W ext).set K V = stW st K V ext := by
 have := h.len; have := h.lt
 rw [stW, stW, List.set_append_left _ _ (by simp; omega), List.set_set]
theorem kM (h : xA N K st) (W V : zt) (ext : List zt) (i : Nat) : (stW st K W ext).set (N + i) V = stW st K W (ext.set i V) := by
 have := h.len
 rw [stW, stW, List.set_append_right _ _ (by simp; omega)]
 congr 2
 simp; omega
theorem stW_app (W : zt) (ext : List zt) (o : List zt) : stW st K W ext ++ o = stW st K W (ext ++ o) := by simp [stW]
theorem stW_take (h : xA N K st) (W : zt) (ext : List zt) : (stW st K W ext).take N = stW st K W [] := by
 have := h.len
 rw [stW, stW, List.take_append_of_le_length (by simp; omega), List.take_of_length_le (by simp; omega), List.append_nil]
theorem mB (h : xA N K st) (W : zt) (ext : List zt) (i : Nat) : (stW st K W ext).take (N + i) = stW st K W (ext.take i) := by
 have := h.len
 rw [stW, stW, List.take_append, List.take_of_length_le (by simp; omega)]
 congr 2
 simp; omega
theorem stW_settle (h : xA N K st) (W : zt) (ext : List zt) : (stW st K W ext).map zt.settle = stW st K W.settle (ext.map zt.settle) := by
 have hl := h.len; have hk := h.lt
 rw [stW, stW, List.map_append]
 congr 1
 refine List.ext_getElem? fun i => ?_
 rw [List.getElem?_map, List.getElem?_set, List.getElem?_set]
 by_cases hi : K = i
 ·subst hi; simp [hl, hk]
 ·rw [if_neg hi, if_neg hi]
  cases hx : st[i]? with
  | none => rfl
  | some x => simp [h.settled i x (fun e => hi e.symm) hx]
theorem xm (h : xA N K st) {W : zt} (hw : zt.within N W = true) : ∀ x ∈ stW st K W [], zt.within N x = true := by
 intro x hx
 rw [stW, List.append_nil] at hx
 rcases List.mem_or_eq_of_mem_set hx with h' | rfl
 ·exact h.within x h'
 ·exact hw
theorem qR (h : xA N K st) {W : zt} (hw : zt.within N W = true) {ext : List zt} (he : ∀ x ∈ ext, zt.within (N + ext.length) x = true) : ∀ x ∈ stW st K W ext, zt.within (N + ext.length) x = true := by
 intro x hx
 rw [stW] at hx
 rcases List.mem_append.1 hx with h' | h'
 ·rcases List.mem_or_eq_of_mem_set h' with h'' | rfl
  ·exact o_mono (Nat.le_add_right ..) (h.within x h'')
  ·exact o_mono (Nat.le_add_right ..) hw
 ·exact he x h'
theorem stW_ok (h : xA N K st) {W : zt} (hw : zt.within N W = true) {ext : List zt} (he : ∀ x ∈ ext, zt.within (N + ext.length) x = true) (hs : ∀ x ∈ ext, x.settle = x) : xA (N + ext.length) K (stW st K W ext) where
 len := stW_len h W ext
 lt := by have := h.lt; omega
 within := qR h hw he
 settled i x hi hx := by
  have hl := h.len
  by_cases hlt : i < N
  ·rw [stW, List.getElem?_append_left (by simp; omega), List.getElem?_set, if_neg (fun e => hi e.symm)] at hx
   exact h.settled i x hi hx
  ·obtain ⟨k, rfl⟩ : ∃ k, i = N + k := ⟨i - N, by omega⟩
   rw [qA h] at hx
   exact hs x (List.mem_of_getElem? hx)
theorem stW_Ke (h : xA N K st) (W : zt) (ext : List zt) (hl : K < (stW st K W ext).length) : (stW st K W ext)[K]'hl = W := by
 have := List.getElem?_eq_getElem hl
 rw [xM h] at this
 exact (Option.some.inj this).symm
theorem stW_e0 (h : xA N K st) (W o : zt) (r : List zt) (hl : N < (stW st K W (o :: r)).length) : (stW st K W (o :: r))[N]'hl = o := by
 have := List.getElem?_eq_getElem hl
 have h0 := qA h W (o :: r) 0
 rw [Nat.add_zero] at h0
 rw [h0] at this
 exact (Option.some.inj this).symm
theorem stW_e1 (h : xA N K st) (W o o1 : zt) (r : List zt) (hl : N + 1 < (stW st K W (o :: o1 :: r)).length) : (stW st K W (o :: o1 :: r))[N + 1]'hl = o1 := by
 have := List.getElem?_eq_getElem hl
 rw [qA h W (o :: o1 :: r) 1] at this
 exact (Option.some.inj this).symm
theorem stW_e2 (h : xA N K st) (W o o1 o2 : zt) (r : List zt) (hl : N + 2 < (stW st K W (o :: o1 :: o2 :: r)).length) : (stW st K W (o :: o1 :: o2 :: r))[N + 2]'hl = o2 := by
 have := List.getElem?_eq_getElem hl
 rw [qA h W (o :: o1 :: o2 :: r) 2] at this
 exact (Option.some.inj this).symm
theorem stW_at0 (h : xA N K st) (W : zt) (ext : List zt) : (stW st K W ext)[N]? = ext[0]? := qA h W ext 0
theorem stW_set0 (h : xA N K st) (W V : zt) (ext : List zt) : (stW st K W ext).set N V = stW st K W (ext.set 0 V) := kM h W V ext 0
theorem stay_stay (v : LVal) : v.stay.stay = v.stay := by
 cases v with
 | vs b o n xs => cases o <;> rfl
 | _ => rfl
theorem settledS (v : LVal) : v.stay.settled = true := by
 cases v with
 | vs b o n xs => cases o <;> rfl
 | _ => rfl
theorem sF {N K : Nat} {st : List zt} (hs : xA N K st) : (∀ v : LVal, v.stay.settled = true) ∧ (∀ v : LVal, v.stay.stay = v.stay) ∧ xl = 140737488355328 ∧ K < N ∧ K < N + 1 ∧ K < N + 2 ∧ K < N + 3 ∧
 (∀ W ext, (stW st K W ext).length = N + ext.length) ∧ (∀ W ext, (stW st K W ext)[K]? = some W) ∧ (∀ W ext i, (stW st K W ext)[N + i]? = ext[i]?) ∧ (∀ W ext, (stW st K W ext)[N]? = ext[0]?) ∧
 (∀ W V ext, (stW st K W ext).set K V = stW st K V ext) ∧ (∀ W V ext i, (stW st K W ext).set (N + i) V = stW st K W (ext.set i V)) ∧ (∀ W V ext, (stW st K W ext).set N V = stW st K W (ext.set 0 V)) ∧
 (∀ W ext o, stW st K W ext ++ o = stW st K W (ext ++ o)) ∧ (∀ W ext, (stW st K W ext).take N = stW st K W []) ∧ (∀ W ext i, (stW st K W ext).take (N + i) = stW st K W (ext.take i)) ∧
 (∀ W ext, (stW st K W ext).map zt.settle = stW st K W.settle (ext.map zt.settle)) ∧ (∀ W ext hl, (stW st K W ext)[K]'hl = W) ∧ (∀ W o r hl, (stW st K W (o :: r))[N]'hl = o) ∧ (∀ W o o1 r hl, (stW st K W (o :: o1 :: r))[N + 1]'hl = o1) ∧ (∀ W o o1 o2 r hl, (stW st K W (o :: o1 :: o2 :: r))[N + 2]'hl = o2) := by
 have h := hs.lt
 exact ⟨settledS, stay_stay, mb', h, by omega, by omega, by omega, stW_len hs, xM hs, qA hs, stW_at0 hs, zz hs, kM hs, stW_set0 hs, stW_app, stW_take hs, mB hs, stW_settle hs, stW_Ke hs, stW_e0 hs, stW_e1 hs, stW_e2 hs⟩
end Go.Proofs.YtpfnlpakcldobaaGreat
namespace Go.Proofs
open Go.Shelf
def Tryz.grow106_ren : Go.Shelf.Ren := ⟨fun | 4 => 106 | n => n, fun | 22 => 40 | 25 => 5 | 3 => 3 | 4 => 4 | 9 => 9 | 20 => 20 | 0 => 0 | n => n, fun | n => n⟩
theorem Tryz.grow106 : Go.Proofs.Lays8.n4 Tryz.prog Tryz.grow106_ren := {
 mixed := by kernel_rfl
 f4 := ⟨Tryz.f106.name, by decide, Tryz.func106.trans (congrArg some (by kernel_rfl))⟩
 t0 := Tryz.underlying0
 a0 := Tryz.isAgg0
 z0 := Tryz.sizeOf0
 v0 := Tryz.zeroValue0
 t3 := Tryz.underlying3
 a3 := Tryz.isAgg3
 z3 := Tryz.sizeOf3
 v3 := Tryz.zeroValue3
 t4 := Tryz.underlying4
 a4 := Tryz.isAgg4
 z4 := Tryz.sizeOf4
 v4 := Tryz.zeroValue4
 t9 := Tryz.underlying9
 a9 := Tryz.isAgg9
 z9 := Tryz.sizeOf9
 v9 := Tryz.zeroValue9
 t20 := Tryz.underlying20
 a20 := Tryz.isAgg20
 z20 := Tryz.sizeOf20
 v20 := Tryz.zeroValue20
 t22 := Tryz.underlying40
 a22 := Tryz.isAgg40
 z22 := Tryz.sizeOf40
 v22 := Tryz.zeroValue40 }
end Go.Proofs
namespace Go.L
open Go
def gone (G : Nat → Cl) : Nat → Cl := fun b => match G b with
 | .arr (.yd, 0) e x => .arr (.var 0, 0) e x
 | _ => .ro
theorem gone_arr {G : Nat → Cl} {b l e x} (h : gone G b = .arr l e x) : G b = .arr (.yd, 0) e x ∧ l = (.var 0, 0) := by
 unfold gone at h
 split at h
 ·rename_i h1; injection h with e1 e2 e3; subst e1; subst e2; subst e3; exact ⟨h1, rfl⟩
 ·cases h
theorem gone_box {G : Nat → Cl} {b i} (h : gone G b = .box i) : False := by
 unfold gone at h
 split at h <;> cases h
theorem gone_at {G : Nat → Cl} {b e x} (h : G b = .arr (.yd, 0) e x) : gone G b = .arr (.var 0, 0) e x := by unfold gone; rw [h]; rfl
theorem own_call {P : Program} {T : Tbl} (hT : lp P T) {f : FuncId} {lf : zJ} {vm : List Nat} (hk : zn P f vm lf = true) {k : Nat} (hi : lf.init = some 0 :: List.replicate k none) (hnp : lf.nparams = 1)
 {e : TypeId} {x : Bool} {n : Nat} {xs : List LVal} {ex : yS} {σ1 σ2 : RS} {u : LVal} (h1 : xE T lf.code ⟨.vs false (.own e x) n xs :: List.replicate k .undef, [], []⟩ = some (ex, σ1)) (hex : ∀ id, ex ≠ .exit id) (h4 : vP σ1 lf.results = some (u, σ2))
 {w : World} {S : Nat → Nat → Prop} {G : Nat → Cl} {cv : Value} (hsw : SWf w S G) (ho : tO P w S G (.yd, 0) e x n xs cv) :
 Calls P f #[cv] w fun en w' => ∃ cv', en = .returned cv' ∧ ∃ S' G' ρ', SWf w' S' G' ∧ At P w' S' G' ρ' yr .yd u cv' ∧ Pr w S (gone G) [] w' S' G' ρ' := by
 unfold zn at hk
 cases hf : P.funcs[f]? with
 | none => simp [hf] at hk
 | some fn =>
 cases hb : fn.body with
 | none => simp [hf, hb] at hk
 | some c =>
 simp only [hf, hb, Bool.and_eq_true, Bool.not_eq_true'] at hk
 obtain ⟨⟨⟨k0, k1⟩, k2⟩, k3⟩ := hk
 have hv : ue vm = true := by simp only [tL, Bool.and_eq_true] at k1; exact k1.1.1.1.1
 obtain ⟨N, hN⟩ := yh.1 h1
 simp only [tL, Bool.and_eq_true, decide_eq_true_eq, beq_iff_eq] at k1
 obtain ⟨⟨⟨⟨c1, c2⟩, c3⟩, c4⟩, c5⟩ := k1
 have hsz : ((#[cv] : Array Value) ++ Array.replicate (fn.ntmps - (#[cv] : Array Value).size) undef).size = fn.ntmps := by rw [hnp] at c3; simp; omega
 have hvt : ∀ (k t : Nat), vm[k]? = some t → t < fn.ntmps := fun k t hk => by simpa using List.all_eq_true.1 c2 t (List.mem_of_getElem? hk)
 have hown : tO P w S (gone G) (.var 0, 0) e x n xs cv := by
  obtain ⟨b, cap, cur, q1, q2, q3, q4, q5, q6, q7, q8, q9, q10⟩ := ho
  exact ⟨b, cap, cur, q1, q2, q3, q4, q5, q6, q7, gone_at q8, q9, q10⟩
 have hCR : CR P vm fn.ntmps [] S (gone G) ⟨.vs false (.own e x) n xs :: List.replicate k .undef, [], []⟩ { tmps := (#[cv] : Array Value) ++ Array.replicate (fn.ntmps - (#[cv] : Array Value).size) undef, defers := [] } w := by
  refine ⟨?_, rfl, hsz⟩
  exact {
   defers := rfl
   vsz := fun k t hk => by rw [hsz]; exact hvt k t hk
   lsz := fun i t hi => by simp at hi
   swf := { lt := hsw.lt, fresh := fun b hb => by unfold gone; rw [hsw.fresh b hb], box := fun b o i hs hg => (gone_box hg).elim, arr := fun b o l e x hs hg => hsw.arr b o _ _ _ hs (gone_arr hg).1 }
   len := rfl
   rho := fun id b hb => by simp at hb
   st := fun id o ho => by simp at ho
   vars := fun j v hv => by
    have hjl : j < vm.length := by
     have := (List.getElem?_eq_some_iff.1 hv).1
     rw [← c4, hi]; simpa using this
    obtain ⟨t, ht⟩ : ∃ t, vm[j]? = some t := ⟨vm[j], List.getElem?_eq_getElem hjl⟩
    refine ⟨t, ht, by rw [hsz]; exact hvt j t ht, ?_⟩
    cases j with
    | zero =>
     simp at hv; subst hv
     have hz : (t, some 0) ∈ vm.zip lf.init := List.mem_of_getElem? (i := 0) (by rw [List.getElem?_zip_eq_some]; exact ⟨ht, by rw [hi]; rfl⟩)
     have hto := List.all_eq_true.1 c5 _ hz
     simp only [beq_iff_eq] at hto
     subst hto
     have hget : ((#[cv] : Array Value) ++ Array.replicate (fn.ntmps - (#[cv] : Array Value).size) undef).getD 0 undef = cv := by
      rw [Array.getD_eq_getD_getElem?, Array.getElem?_append_left (by simp)]
      rfl
     rw [hget]
     exact ⟨rfl, hown⟩
    | succ j =>
     rw [List.getElem?_cons_succ, List.getElem?_replicate] at hv
     split at hv
     ·injection hv with hv; subst hv
      exact (At.simple rfl).2 .undef
     ·cases hv
   rs := fun i v hv => by simp at hv }
 refine calls_of_wp hf hb ?_
 refine u5 hv (vT hT N) hT.1 c k2 N [] S (gone G) _ _ w ex σ1 hCR hN _ ?_
 rintro a' w' ⟨ρ1, S1, G1, ⟨m1, m2, m3⟩, m4⟩
 have hn : σ1.uy := by intro i b p n xs hi; rw [m2] at hi; simp at hi
 obtain ⟨S2, G2, cv', q1, q2, q3, q4⟩ := lE m1 hn k3 h4
 have : bodyPost P fn (fun en w' => ∃ cv', en = .returned cv' ∧ ∃ S' G' ρ', SWf w' S' G' ∧ At P w' S' G' ρ' yr .yd u cv' ∧ Pr w S (gone G) [] w' S' G' ρ') .normal a' w' :=
  ⟨m1.defers, cv', q2, cv', rfl, S2, G2, ρ1, q1.swf, q3, m4.trans q4⟩
 cases ex with
 | exit id => exact absurd rfl (hex id)
 | normal => exact this
 | ret => exact this
end Go.L
namespace Go.Proofs.YtpfnlpakcldobaaGreat
open Go Go.L Go.RowKit
namespace D
def hGrow : List LVal → List zt → Option (LVal × Option (List zt)) := fun args st => match args with
 | [.vs true .sh 0 [], .int .i64 n] => if 0 < n ∧ n ≤ 1000000 then some (.vs false (.own 5 true) 1 [], none) else none
 | _ => none
def c96o : zv := match c96 with
 | .seq a (.seq b (.seq c (.seq d (.seq e (.seq _ r))))) => .seq a (.seq b (.seq c (.seq d (.seq e (.seq (.region 2 [⟨0, none, none, .out 4, false, []⟩, ⟨1, some 1, none, .asg (.loc 0), false, []⟩] false) r)))))
 | c => c
def l96o : zJ := ⟨1, [some 0, none, none, none, none, none, none, none, none, none, none, none, none, none, none], c96o, [.var 1], .pure⟩
def M : Tbl := { fns := fun f => if f = 106 then some (.rC hGrow) else if f = 96 then some (.fn l96o) else D.T.fns f, im := D.T.im, impl := D.T.impl }
theorem k96o : zn Tryz.prog 96 vm96 l96o = true := by kernel_rfl
end D
theorem fnM106 : D.M.fns 106 = some (.rC D.hGrow) := rfl
theorem fnM96 : D.M.fns 96 = some (.fn D.l96o) := rfl
theorem hGrow_ok : ∀ args st v ost, D.hGrow args st = some (v, ost) → uW Tryz.prog 106 args st v ost := by
 intro args st v ost h
 refine ⟨by kernel_rfl, fun cargs w S G ρ hrel hcell hV hs => ?_⟩
 unfold D.hGrow at h
 split at h
 case h_2 => cases h
 rename_i n
 obtain ⟨c, d, rfl, h1, h2⟩ : ∃ c d, cargs = [c, d] ∧ V w S ρ (.vs true .sh 0 []) c ∧ V w S ρ (.int .i64 n) d := by
  cases hV with | cons h1 h2 => cases h2 with | cons h2 h3 => cases h3; exact ⟨_, _, rfl, h1, h2⟩
 cases h1
 have := h2.xP; subst this
 split at h
 ·rename_i hn
  injection h with h; injection h with e1 e2; subst e1; subst e2
  obtain ⟨m, rfl⟩ : ∃ m : Nat, n = m := ⟨n.toNat, by omega⟩
  obtain ⟨i0, hi0, hi1⟩ : ∃ i, Tryz.prog.info? 5 = some i ∧ (i.zero, i.bytes, i.size) = (some (.int .u8 0), 1, 1) := Option.map_eq_some_iff.1 (show (Tryz.prog.info? 5).map (fun i => (i.zero, i.bytes, i.size)) = some (some (.int .u8 0), 1, 1) by kernel_rfl)
  simp only [Prod.mk.injEq] at hi1
  obtain ⟨i1, i2, i3⟩ := hi1
  refine (Any8.slices_Grow_grow Tryz.grow106 i0 (.int .u8 0) hi0 i1 (by omega) none 0 0 m [] w (by omega) (by omega) (by rw [i2]; omega) (by omega) (by simp) (by simp) (by simp)).mono ?_
  rintro e w' ⟨rfl, rfl⟩
  refine ⟨_, rfl, ?_⟩
  have hge := grownCap_ge w (0 + m) 0 5
  refine vZ.own hrel hcell (g := w.heap.size) ((Below.drew (Below.refl _ w)).alloc (Nat.le_refl _) _) (Nat.le_refl _) (by exact xN (w := w.drew)) (grownCap_le_maxLen w (0 + m) 0 5 (by unfold maxLen; omega)) ?_ (by kernel_rfl) (by omega)
  have hzc : ∀ k, (Builtin.zeroCells (Value.int .u8 0).cells k).size = k * 1 := by intro k; simp [Builtin.zeroCells, Value.cells]
  simp only [Array.size_append, hzc]
  have : ([] : List Value).toArray.size = 0 := rfl
  rw [this]
  show 0 + (0 + m - 0) * 1 + (grownCap w (0 + m) 0 5 - (0 + m)) * 1 = grownCap w (0 + m) 0 5 * 1
  omega
 ·cases h
theorem tblOkM : lp Tryz.prog D.M := ⟨lV, fun f d h => by
 by_cases h1 : f = 106
 ·subst h1
  rw [fnM106] at h
  injection h with h; subst h
  exact hGrow_ok
 ·by_cases h2 : f = 96
  ·subst h2
   rw [fnM96] at h
   injection h with h; subst h
   exact ⟨_, D.k96o⟩
  ·have : D.T.fns f = some d := by rw [← h]; simp only [D.M, if_neg h1, if_neg h2]
   exact tblOk.2 f d this⟩
theorem soundM {f : FuncId} {args : List LVal} {st : List zt} {v : LVal} {ost : Option (List zt)} (h : zq D.M f args st = some (v, ost)) : uW Tryz.prog f args st v ost := by
 obtain ⟨n, hn⟩ := xJ.1 h
 exact vT tblOkM n f args st v ost hn
end Go.Proofs.YtpfnlpakcldobaaGreat
