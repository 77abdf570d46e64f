/- Texts of the proof: H2 Q0 Q1 Q1b Q3 Q4 Q5 R0 RA RN1 RW. -/
import Derived.Test.YtpfnlpakcldobaaGreatProg
import Derived.WalkKit
import Derived.WalkSpells
import Derived.WalkLawsBesides
import Derived.RegionTactic
import Derived.LoopTactic
import Derived.OwnWalk
import Derived.KernelRfl
import Derived.Test.YtpfnlpakcldobaaGreatATbl
import Derived.Laws.Bits64
import Derived.Laws.BitsAllLaws
import Derived.Test.YtpfnlpakcldobaaGreatALF
import Derived.Test.YtpfnlpakcldobaaGreatRows
set_option linter.unusedVariables false
set_option linter.unusedSimpArgs false
set_option linter.unusedSectionVars false
namespace Go.Proofs.YtpfnlpakcldobaaGreat
open Go.RowKit
def ms2 (v : Value) : Nat := match v with
 | .int _ z => (2 - z).toNat
 | _ => 0
set_option maxRecDepth 100000 in
theorem make2 (W : World) : (Instr.makeSlice 40 (.int .i64 2) (.int .i64 2)).run Tryz.prog W = .ok (.slice (some ⟨W.heap.size, 0, none⟩) 2 2) (W.alloc (.cells #[.int .u8 0, .int .u8 0] 5)) := by
 obtain ⟨i, hi, hx⟩ : ∃ i, Tryz.prog.info? 5 = some i ∧ (i.zero, i.bytes, i.size) = (some (.int .u8 0), 1, 1) := Option.map_eq_some_iff.1 (show (Tryz.prog.info? 5).map (fun i => (i.zero, i.bytes, i.size)) = some (some (.int .u8 0), 1, 1) by kernel_rfl)
 injection hx with h1 h2; injection h2 with h2 h3
 rw [run_make (P := Tryz.prog) W 40 5 i (.int .u8 0) (by kernel_rfl) hi h1 .i64 .i64 2 2 (by omega) (by omega) (by rw [h2]; decide) (by omega), h3]
 have hc : madeCells (Value.int .u8 0).cells 2 = #[.int .u8 0, .int .u8 0] := by kernel_rfl
 show Result.ok _ (W.alloc (.cells (madeCells (Value.int .u8 0).cells 2) 5)) = _
 rw [hc]
 rfl
set_option maxRecDepth 100000 in
set_option maxHeartbeats 2000000 in
theorem put_call (x : Int) (h0 : 0 ≤ x) (h1 : x < 65536) (w : World) : Calls Tryz.prog 145 #[.int .u64 x, .int .i64 2, .bool true] w fun e w' =>
 e = .returned (.tuple #[.slice (some ⟨w.heap.size, 0, none⟩) 2 2, .bool true]) ∧ Below w.heap.size w w' ∧ w'.cell? ⟨w.heap.size, 0, none⟩ = some (.int .u8 (x / 256)) ∧ w'.cell? ⟨w.heap.size, 1, none⟩ = some (.int .u8 (x % 256)) ∧ w.heap.size < w'.heap.size := by
 have hmx : Tryz.prog.follows .mixedOrders = true := by kernel_rfl
 have hdiv : x / 65536 = 0 := by omega
 have hm := make2 w
 go_enter Tryz.func145, Tryz.ntmps145
 go_wp2
 go_loopw [17] (fun v17 wr => (v17 = .int .i64 0 ∧ wr = w.alloc (.cells #[.int .u8 0, .int .u8 0] 5)) ∨ (v17 = .int .i64 1 ∧ wr = w.alloc (.cells #[.int .u8 (x % 256), .int .u8 0] 5)) ∨
  (v17 = .int .i64 2 ∧ wr = w.alloc (.cells #[.int .u8 (x % 256), .int .u8 (x / 256)] 5))) (fun v17 _ => ms2 v17)
 case atStart => exact .inl ⟨rfl, rfl⟩
 case round =>
  rcases hrel with ⟨rfl, rfl⟩ | ⟨rfl, rfl⟩ | ⟨rfl, rfl⟩
  ·go_wp2
   exact ⟨by simp, by decide⟩
  ·go_wp2
   exact ⟨by simp, by decide⟩
  ·go_wp2
   go_loopw [2, 3] (fun v2 v3 wr => (v2 = .int .i64 0 ∧ v3 = .int .i64 1 ∧ wr = w.alloc (.cells #[.int .u8 (x % 256), .int .u8 (x / 256)] 5)) ∨ (v2 = .int .i64 1 ∧ v3 = .int .i64 0 ∧ wr = (w.drew.alloc (.cells #[.int .u8 (x / 256), .int .u8 (x % 256)] 5)))) (fun v2 _ _ => ms2 v2)
   case atStart => exact .inl ⟨rfl, rfl, rfl⟩
   case round =>
    rcases hrel with ⟨rfl, rfl, rfl⟩ | ⟨rfl, rfl, rfl⟩
    ·go_wp2
     go_region
     all_goals go_wp2
     all_goals exact ⟨.inr ⟨rfl, rfl, rfl⟩, by decide⟩
    ·go_wp2
     go_end0
     simp only []
     go_at_K
     go_wp2
     go_ret2
     refine ⟨rfl, (Below.drew (Below.refl _ w)).alloc (Nat.le_refl _) _, ?_, ?_, by simp⟩
     ·simp
     ·simp
end Go.Proofs.YtpfnlpakcldobaaGreat
namespace Go.L
open Go
@[simp] theorem own_undef : LVal.zr .undef = false := rfl
@[simp] theorem own_bool (b) : LVal.zr (.bool b) = false := rfl
@[simp] theorem own_int (k n) : LVal.zr (.int k n) = false := rfl
@[simp] theorem own_str (s) : LVal.zr (.str s) = false := rfl
@[simp] theorem own_ptr (i o) : LVal.zr (.ptr i o) = false := rfl
@[simp] theorem own_ref (v) : LVal.zr (.ref v) = false := rfl
@[simp] theorem own_nilptr : LVal.zr .vh = false := rfl
@[simp] theorem own_sh (b n xs) : LVal.zr (.vs b .sh n xs) = false := rfl
@[simp] theorem own_full (b n xs) : LVal.zr (.vs b .full n xs) = false := rfl
@[simp] theorem own_own (b e x n xs) : LVal.zr (.vs b (.own e x) n xs) = true := rfl
@[simp] theorem own_pk (b l n xs) : LVal.zr (.vs b (.pk l) n xs) = false := rfl
@[simp] theorem own_ms (a b c d e) : LVal.zr (.ms a b c d e) = false := rfl
@[simp] theorem own_map (i) : LVal.zr (.map i) = false := rfl
@[simp] theorem own_nilmap : LVal.zr .wq = false := rfl
@[simp] theorem own_func (f c) : LVal.zr (.func f c) = false := rfl
@[simp] theorem own_nilfunc : LVal.zr .x6 = false := rfl
@[simp] theorem own_iface (t v) : LVal.zr (.iface t v) = false := rfl
@[simp] theorem own_niliface : LVal.zr .yX = false := rfl
@[simp] theorem own_agg (c) : LVal.zr (.agg c) = false := rfl
@[simp] theorem own_tup (c) : LVal.zr (.tup c) = false := rfl
@[simp] theorem lobj_dead (n) : zt.within n .dead = true := rfl
@[simp] theorem lobj_cells (n t c) : zt.within n (.cells t c) = LVal.zb n c := rfl
@[simp] theorem lobj_map (n es) : zt.within n (.map es) = (LVal.zb n (es.map (·.1)) && LVal.zb n (es.map (·.2))) := rfl
@[simp] theorem stay_undef  : LVal.stay .undef = .undef := rfl
@[simp] theorem stay_bool (b) : LVal.stay (.bool b) = (.bool b) := rfl
@[simp] theorem stay_int (k n) : LVal.stay (.int k n) = (.int k n) := rfl
@[simp] theorem stay_str (s) : LVal.stay (.str s) = (.str s) := rfl
@[simp] theorem stay_ptr (i o) : LVal.stay (.ptr i o) = (.ptr i o) := rfl
@[simp] theorem stay_ref (v) : LVal.stay (.ref v) = (.ref v) := rfl
@[simp] theorem stay_nilptr  : LVal.stay .vh = .vh := rfl
@[simp] theorem stay_ms (a b c d e) : LVal.stay (.ms a b c d e) = (.ms a b c d e) := rfl
@[simp] theorem stay_map (i) : LVal.stay (.map i) = (.map i) := rfl
@[simp] theorem stay_nilmap  : LVal.stay .wq = .wq := rfl
@[simp] theorem stay_func (f c) : LVal.stay (.func f c) = (.func f c) := rfl
@[simp] theorem stay_nilfunc  : LVal.stay .x6 = .x6 := rfl
@[simp] theorem stay_iface (t v) : LVal.stay (.iface t v) = (.iface t v) := rfl
@[simp] theorem stay_niliface  : LVal.stay .yX = .yX := rfl
@[simp] theorem stay_agg (c) : LVal.stay (.agg c) = (.agg c) := rfl
@[simp] theorem stay_tup (c) : LVal.stay (.tup c) = (.tup c) := rfl
@[simp] theorem stay_sh (b n xs) : LVal.stay (.vs b .sh n xs) = .vs b .sh n xs := rfl
@[simp] theorem stay_full (b n xs) : LVal.stay (.vs b .full n xs) = .vs b .full n xs := rfl
@[simp] theorem stay_own (b e x n xs) : LVal.stay (.vs b (.own e x) n xs) = .vs b (.own e false) n xs := rfl
@[simp] theorem stay_pk (b l n xs) : LVal.stay (.vs b (.pk l) n xs) = .vs b (.pk l) n xs := rfl
@[simp] theorem settle_dead : zt.settle .dead = .dead := rfl
@[simp] theorem settle_cells (t c) : zt.settle (.cells t c) = .cells t (c.map LVal.stay) := rfl
@[simp] theorem settle_map (es) : zt.settle (.map es) = .map es := rfl
theorem w64 {n : Int} (h0 : 0 ≤ n) (h : n < 18446744073709551616) : IntKind.u64.wrap n = n := by rw [IntKind.wrap_u64]; omega
theorem w8 {n : Int} (h0 : 0 ≤ n) (h : n < 256) : IntKind.u8.wrap n = n := by rw [IntKind.wrap_u8']; omega
theorem vG {n : Int} (h0 : -9223372036854775808 ≤ n) (h : n < 9223372036854775808) : IntKind.i64.wrap n = n := by
 simp only [IntKind.wrap, IntKind.bits, IntKind.signed]
 simp
 omega
theorem yq : ∀ (l : List UInt8), wX (zy l) = some l
 | [] => rfl
 | b :: l => by
  have := yq l
  simp only [zy, List.map_cons, wX, sd, pj] at this ⊢
  rw [this]
  simp
theorem zG (n : Nat) : ∀ (l : List UInt8), LVal.zb n (zy l) = true
 | [] => rfl
 | b :: l => zG n l
theorem zx : ∀ (l : List UInt8), LVal.pfs (zy l) = true
 | [] => rfl
 | b :: l => zx l
theorem ze (l : List UInt8) : (zy l).length = l.length := by simp [zy]
theorem vB (l : List UInt8) (i : Nat) : (zy l)[i]? = (l[i]?).map sd := by simp [zy]
section
variable {C : xV} {im : TypeId → String → Option FuncId} {impl : TypeId → TypeId → Bool} {T : Tbl}
end
end Go.L
namespace Go.Proofs.YtpfnlpakcldobaaGreat
open Go Go.L
structure zA where
 st : Int
 rest : Int
 zT : Int
 xW : Bool
 zm : Bool
 id : Int
 opts : List UInt8
structure zl where
 ours : Int
 uR : Int
 pI : Bool
 sr : Bool
 open_ : Bool
 id : Int
 value : List UInt8
 asked : Bool
 qq : Int
structure yu where
 kind : Int
 zd : Int
 id : Int
 data : List UInt8
structure zD where
 l0 : zA
 l1 : zA
 l2 : zA
 uM : zl
 nil : Bool
 o : Own
 m : Nat
 due : List yu
def zA.cells (l : zA) : List LVal := [.int .i64 l.st, .int .i64 l.rest, .int .i64 l.zT, .bool l.xW, .bool l.zm, .int .i64 l.id, .str l.opts]
def zl.cells (l : zl) : List LVal := [.int .i64 l.ours, .int .i64 l.uR, .bool l.pI, .bool l.sr, .bool l.open_, .int .i64 l.id, .str l.value, .bool l.asked, .int .i64 l.qq]
def yu.cells (d : yu) : List LVal := [.int .i64 d.kind, .int .i64 d.zd, .int .i64 d.id, .str d.data]
def zL (l : List yu) : List LVal := l.map fun d => .agg d.cells
def zD.cells (s : zD) : List LVal := s.l0.cells ++ (s.l1.cells ++ (s.l2.cells ++ (s.uM.cells ++ [.vs s.nil s.o s.m (zL s.due)])))
def i64 (n : Int) : Prop := -9223372036854775808 ≤ n ∧ n < 9223372036854775808
def zA.ok (l : zA) : Prop := i64 l.st ∧ i64 l.rest ∧ i64 l.zT ∧ i64 l.id
def zl.ok (l : zl) : Prop := i64 l.ours ∧ i64 l.uR ∧ i64 l.id ∧ i64 l.qq
def yu.ok (d : yu) : Prop := i64 d.kind ∧ i64 d.zd ∧ i64 d.id
def zD.ok (s : zD) : Prop := s.l0.ok ∧ s.l1.ok ∧ s.l2.ok ∧ s.uM.ok ∧ (∀ d ∈ s.due, d.ok) ∧ (s.nil = true → s.due = []) ∧ (s.o = .sh ∨ s.o = .full) ∧ (s.due ≠ [] → s.m = 4)
def zD.few (s : zD) : Prop := s.due.length ≤ 20 ∧ s.uM.value.length ≤ 500 ∧ s.l0.opts.length ≤ 500 ∧ s.l1.opts.length ≤ 500 ∧ s.l2.opts.length ≤ 500 ∧ ∀ d ∈ s.due, d.data.length ≤ 500
theorem xI (l : List yu) : (zL l).length = l.length := by simp [zL]
theorem wV (n : Nat) : ∀ (l : List yu), LVal.zb n (zL l) = true
 | [] => rfl
 | d :: l => by
  have := wV n l
  simp only [zL, List.map_cons, LVal.zb] at this ⊢
  rw [this]; rfl
def Alike (s t : zD) : Prop := (s.l0 = t.l0 ∧ s.l1 = t.l1 ∧ s.l2 = t.l2) ∧ s.uM = t.uM ∧ s.due = t.due
end Go.Proofs.YtpfnlpakcldobaaGreat
namespace Go.Proofs.YtpfnlpakcldobaaGreat
open Go Go.L
end Go.Proofs.YtpfnlpakcldobaaGreat
namespace Go.Proofs.YtpfnlpakcldobaaGreat
open Go Go.L
structure zg where
 mc : Int
 mt : Int
 mf : Int
 mru : Int
 s1 : List UInt8
 s2 : List UInt8
 n : Int
 m : Int
 b : Bool
def zg.cells (c : zg) : List LVal := [.int .i64 c.mc, .int .i64 c.mt, .int .i64 c.mf, .int .i64 c.mru, .str c.s1, .str c.s2, .int .i64 c.n, .int .u32 c.m, .bool c.b]
def inB (n : Int) : Bool := decide (1 ≤ n) && decide (n ≤ 255)
def uF (c : zg) : Bool := inB c.mc && inB c.mt && inB c.mf
def qf (c : zg) : Bool := uF c && decide (8 ≤ c.mru) && decide (c.mru ≤ 65535)
theorem fn36 : D.T.fns 36 = some (.fn D.l36) := rfl
theorem fn24 : D.T.fns 24 = some (.fn D.l24) := rfl
theorem fn9 : D.T.fns 9 = some (.fn D.l9) := rfl
set_option maxHeartbeats 4000000 in
theorem in_eq (n : Int) : zq D.T 36 [.int .i64 n] [] = some (.bool (inB n), none) := by
 rw [yF fn36]
 by_cases h1 : 1 ≤ n
 ·by_cases h2 : n ≤ 255
  ·simp [D.l36, D.c36, xn, zY.zH, LVal.pfs, LVal.pf, Go.L.zc, yA, zU, zP, yo, yH, yl, yj, zV, yw, wB, ug, yP, kill, LVal.zb, LVal.within, yC, zW, Go.L.step, ya, x8, sem, RS.zu, RS.put, RS.yW, RS.take, RS.takes, RS.zS, RS.zR, RS.yt, RS.xe, RS.xp, RS.yJ, RS.settle, RS.alloc, ye, LVal.arg, LVal.isAgg, LVal.cells, LVal.yT, LVal.copy, LVal.down, LVal.plain, LVal.settled, uJ, wh, wi, unL, vP, xY, uS, xB, LVal.vE, vD, LOp.quiet, LOp.yy, LOp.yt, zj.fix, yE, yx, yK, yg, LVal.free, LVal.calm, LVal.xg, LOp.zQ, uk, RS.acquire, xu, x5, bound, xw, uI, xU, xq, yM, yL, yO, uj, xX, wF, chunks, LVal.soft, D.V, D.L, D.N, D.F, D.Y, D.o, D.s, D.y, D.z, D.p, D.m, D.w, D.a, D.g, D.e, D.q, D.r, D.t, D.f, D.u, D.c, D.b, D.k, D.h, D.v, D.x, D.S, D.R, D.RD, D.n0, D.n1, D.n2, D.n3, D.n4, D.n5, D.n6, D.n7, D.n8, D.n9, D.n10, inB, h1, h2]
  ·simp [D.l36, D.c36, xn, zY.zH, LVal.pfs, LVal.pf, Go.L.zc, yA, zU, zP, yo, yH, yl, yj, zV, yw, wB, ug, yP, kill, LVal.zb, LVal.within, yC, zW, Go.L.step, ya, x8, sem, RS.zu, RS.put, RS.yW, RS.take, RS.takes, RS.zS, RS.zR, RS.yt, RS.xe, RS.xp, RS.yJ, RS.settle, RS.alloc, ye, LVal.arg, LVal.isAgg, LVal.cells, LVal.yT, LVal.copy, LVal.down, LVal.plain, LVal.settled, uJ, wh, wi, unL, vP, xY, uS, xB, LVal.vE, vD, LOp.quiet, LOp.yy, LOp.yt, zj.fix, yE, yx, yK, yg, LVal.free, LVal.calm, LVal.xg, LOp.zQ, uk, RS.acquire, xu, x5, bound, xw, uI, xU, xq, yM, yL, yO, uj, xX, wF, chunks, LVal.soft, D.V, D.L, D.N, D.F, D.Y, D.o, D.s, D.y, D.z, D.p, D.m, D.w, D.a, D.g, D.e, D.q, D.r, D.t, D.f, D.u, D.c, D.b, D.k, D.h, D.v, D.x, D.S, D.R, D.RD, D.n0, D.n1, D.n2, D.n3, D.n4, D.n5, D.n6, D.n7, D.n8, D.n9, D.n10, inB, h1, h2]
 ·simp [D.l36, D.c36, xn, zY.zH, LVal.pfs, LVal.pf, Go.L.zc, yA, zU, zP, yo, yH, yl, yj, zV, yw, wB, ug, yP, kill, LVal.zb, LVal.within, yC, zW, Go.L.step, ya, x8, sem, RS.zu, RS.put, RS.yW, RS.take, RS.takes, RS.zS, RS.zR, RS.yt, RS.xe, RS.xp, RS.yJ, RS.settle, RS.alloc, ye, LVal.arg, LVal.isAgg, LVal.cells, LVal.yT, LVal.copy, LVal.down, LVal.plain, LVal.settled, uJ, wh, wi, unL, vP, xY, uS, xB, LVal.vE, vD, LOp.quiet, LOp.yy, LOp.yt, zj.fix, yE, yx, yK, yg, LVal.free, LVal.calm, LVal.xg, LOp.zQ, uk, RS.acquire, xu, x5, bound, xw, uI, xU, xq, yM, yL, yO, uj, xX, wF, chunks, LVal.soft, D.V, D.L, D.N, D.F, D.Y, D.o, D.s, D.y, D.z, D.p, D.m, D.w, D.a, D.g, D.e, D.q, D.r, D.t, D.f, D.u, D.c, D.b, D.k, D.h, D.v, D.x, D.S, D.R, D.RD, D.n0, D.n1, D.n2, D.n3, D.n4, D.n5, D.n6, D.n7, D.n8, D.n9, D.n10, inB, h1]
set_option maxHeartbeats 4000000 in
theorem rcounts_eq (c : zg) : zq D.T 24 [.agg c.cells] [] = some (.bool (uF c), none) := by
 have k1 := in_eq c.mc
 have k2 := in_eq c.mt
 have k3 := in_eq c.mf
 rw [yF fn24]
 simp only [uF, zg.cells]
 generalize inB c.mc = p at *
 generalize inB c.mt = q at *
 generalize inB c.mf = r at *
 cases p <;> cases q <;> cases r <;> simp [D.l24, D.c24, xn, zY.zH, LVal.pfs, LVal.pf, Go.L.zc, yA, zU, zP, yo, yH, yl, yj, zV, yw, wB, ug, yP, kill, LVal.zb, LVal.within, yC, zW, Go.L.step, ya, x8, sem, RS.zu, RS.put, RS.yW, RS.take, RS.takes, RS.zS, RS.zR, RS.yt, RS.xe, RS.xp, RS.yJ, RS.settle, RS.alloc, ye, LVal.arg, LVal.isAgg, LVal.cells, LVal.yT, LVal.copy, LVal.down, LVal.plain, LVal.settled, uJ, wh, wi, unL, vP, xY, uS, xB, LVal.vE, vD, LOp.quiet, LOp.yy, LOp.yt, zj.fix, yE, yx, yK, yg, LVal.free, LVal.calm, LVal.xg, LOp.zQ, uk, RS.acquire, xu, x5, bound, xw, uI, xU, xq, yM, yL, yO, uj, xX, wF, chunks, LVal.soft, D.V, D.L, D.N, D.F, D.Y, D.o, D.s, D.y, D.z, D.p, D.m, D.w, D.a, D.g, D.e, D.q, D.r, D.t, D.f, D.u, D.c, D.b, D.k, D.h, D.v, D.x, D.S, D.R, D.RD, D.n0, D.n1, D.n2, D.n3, D.n4, D.n5, D.n6, D.n7, D.n8, D.n9, D.n10, k1, k2, k3]
def mn3 (a b d : Int) : Int := if d < (if b < a then b else a) then d else (if b < a then b else a)
def mx3 (a b d : Int) : Int := if d > (if b > a then b else a) then d else (if b > a then b else a)
set_option maxHeartbeats 8000000 in
theorem rgood_eq (c : zg) : zq D.T 9 [.agg c.cells] [] = some (.bool (qf c), none) := by
 have k := rcounts_eq c
 rw [yF fn9]
 simp only [qf]
 generalize uF c = p at *
 simp only [zg.cells] at k ⊢
 by_cases h1 : 8 ≤ c.mru <;> by_cases h2 : c.mru ≤ 65535 <;> cases p <;> simp [D.l9, D.c9, xn, zY.zH, LVal.pfs, LVal.pf, Go.L.zc, yA, zU, zP, yo, yH, yl, yj, zV, yw, wB, ug, yP, kill, LVal.zb, LVal.within, yC, zW, Go.L.step, ya, x8, sem, RS.zu, RS.put, RS.yW, RS.take, RS.takes, RS.zS, RS.zR, RS.yt, RS.xe, RS.xp, RS.yJ, RS.settle, RS.alloc, ye, LVal.arg, LVal.isAgg, LVal.cells, LVal.yT, LVal.copy, LVal.down, LVal.plain, LVal.settled, uJ, wh, wi, unL, vP, xY, uS, xB, LVal.vE, vD, LOp.quiet, LOp.yy, LOp.yt, zj.fix, yE, yx, yK, yg, LVal.free, LVal.calm, LVal.xg, LOp.zQ, uk, RS.acquire, xu, x5, bound, xw, uI, xU, xq, yM, yL, yO, uj, xX, wF, chunks, LVal.soft, D.V, D.L, D.N, D.F, D.Y, D.o, D.s, D.y, D.z, D.p, D.m, D.w, D.a, D.g, D.e, D.q, D.r, D.t, D.f, D.u, D.c, D.b, D.k, D.h, D.v, D.x, D.S, D.R, D.RD, D.n0, D.n1, D.n2, D.n3, D.n4, D.n5, D.n6, D.n7, D.n8, D.n9, D.n10, k, h1, h2]
end Go.Proofs.YtpfnlpakcldobaaGreat
set_option maxRecDepth 100000
namespace Go.Proofs.YtpfnlpakcldobaaGreat
open Go Go.L
def zD.given (s : zD) : Prop := s.ok ∧ s.o = .sh ∧ s.m = 4
theorem wf_i64 {n : Int} (h : (Lit.int .i64 n).wf = true) : i64 n := by
 simp only [Lit.wf, Bool.and_eq_true, decide_eq_true_eq, IntKind.min, IntKind.max, IntKind.signed, IntKind.bits] at h
 simp at h
 exact ⟨by omega, by omega⟩
theorem sh3 : vi Tryz.prog 3 = .int .i64 := by kernel_rfl
theorem sh4 : vi Tryz.prog 4 = .bool := by kernel_rfl
theorem sh9 : vi Tryz.prog 9 = .str := by kernel_rfl
theorem sh22 : vi Tryz.prog 22 = .int .u32 := by kernel_rfl
theorem sh24 : vi Tryz.prog 24 = .fields [3, 3, 3, 3, 9, 9, 3, 22, 4] := by kernel_rfl
theorem vt {d : Nat} {us : List LVal} (h : Rd Tryz.prog (d + 1) 3 us) : ∃ n, us = [.int .i64 n] ∧ i64 n := by
 obtain ⟨n, h1, h2⟩ := wv h sh3
 exact ⟨n, h1, wf_i64 h2⟩
theorem rd_u32 {d : Nat} {us : List LVal} (h : Rd Tryz.prog (d + 1) 22 us) : ∃ n, us = [.int .u32 n] := by
 obtain ⟨n, h1, h2⟩ := wv h sh22
 exact ⟨n, h1⟩
theorem tU {d : Nat} {us : List LVal} (h : Rd Tryz.prog (d + 1) 4 us) : ∃ b, us = [.bool b] := wv h sh4
theorem nm {d : Nat} {us : List LVal} (h : Rd Tryz.prog (d + 1) 9 us) : ∃ s, us = [.str s] ∧ s.length ≤ maxLen := wv h sh9
theorem rd_conf {d : Nat} {us : List LVal} (h : Rd Tryz.prog (d + 2) 24 us) : ∃ c : zg, us = c.cells ∧ i64 c.mc ∧ i64 c.mt ∧ i64 c.mf ∧ i64 c.mru := by
 obtain ⟨a, _, rfl, ha, b, _, rfl, hb, c, _, rfl, hc, e, _, rfl, he, f, _, rfl, hf, g, _, rfl, hg, i, _, rfl, hi, j, _, rfl, hj, k, _, rfl, hk, rfl⟩ := wv h sh24
 obtain ⟨n1, rfl, k1⟩ := vt ha
 obtain ⟨n2, rfl, k2⟩ := vt hb
 obtain ⟨n3, rfl, k3⟩ := vt hc
 obtain ⟨n4, rfl, k4⟩ := vt he
 obtain ⟨n5, rfl, _⟩ := nm hf
 obtain ⟨n6, rfl, _⟩ := nm hg
 obtain ⟨n7, rfl, _⟩ := vt hi
 obtain ⟨n8, rfl⟩ := rd_u32 hj
 obtain ⟨n9, rfl⟩ := tU hk
 exact ⟨⟨n1, n2, n3, n4, n5, n6, n7, n8, n9⟩, rfl, k1, k2, k3, k4⟩
end Go.Proofs.YtpfnlpakcldobaaGreat
namespace Go.Proofs.YtpfnlpakcldobaaGreat
open Go Go.L
theorem mG {v : LVal} (h : v.plain = true) : v.zr = false := by
 cases v with
 | vs b o n xs => cases o <;> simp_all [LVal.plain]
 | _ => rfl
theorem plain_down {v : LVal} (h : v.plain = true) : v.down = v := by
 cases v with
 | vs b o n xs => cases o <;> simp_all [LVal.plain, LVal.down]
 | _ => rfl
theorem plain_stay {v : LVal} (h : v.plain = true) : v.stay = v := by
 cases v with
 | vs b o n xs => cases o <;> simp_all [LVal.plain, LVal.stay]
 | _ => rfl
theorem mq {v : LVal} (h : v.plain = true) : v.settled = true := by
 cases v with
 | vs b o n xs => cases o <;> simp_all [LVal.plain, LVal.settled]
 | _ => rfl
mutual
theorem pH {n : Nat} : ∀ (v : LVal), v.pf = true → v.within n = true
 | .ptr .., h => by simp [LVal.pf] at h
 | .ms .., h => by simp [LVal.pf] at h
 | .map _, h => by simp [LVal.pf] at h
 | .func _ caps, h => by simp only [LVal.pf] at h; simp only [LVal.within]; exact tE caps h
 | .iface _ v, h => by simp only [LVal.pf] at h; simp only [LVal.within]; exact pH v h
 | .agg cs, h => by simp only [LVal.pf] at h; simp only [LVal.within]; exact tE cs h
 | .tup l, h => by simp only [LVal.pf] at h; simp only [LVal.within]; exact tE l h
 | .undef, _ => rfl
 | .bool _, _ => rfl
 | .int .., _ => rfl
 | .str _, _ => rfl
 | .ref _, _ => rfl
 | .vh, _ => rfl
 | .vs .., _ => rfl
 | .wq, _ => rfl
 | .x6, _ => rfl
 | .yX, _ => rfl
theorem tE {n : Nat} : ∀ (l : List LVal), LVal.pfs l = true → LVal.zb n l = true
 | [], _ => rfl
 | v :: r, h => by
  simp only [LVal.pfs, Bool.and_eq_true] at h
  simp only [LVal.zb, Bool.and_eq_true]
  exact ⟨pH v h.1, tE r h.2⟩
end
structure Flat (n : Nat) (cs : List LVal) : Prop where
 len : cs.length = n
 plain : ∀ x ∈ cs, x.plain = true
 pfs : LVal.pfs cs = true
 soft : cs.map LVal.soft = cs
theorem Flat.fx {n : Nat} {cs : List LVal} (h : Flat n cs) : cs.length = n ∧ LVal.pfs cs = true ∧ (∀ x ∈ cs, x.plain = true) ∧ (∀ x ∈ cs, x.settled = true) ∧ (∀ x ∈ cs, x.plain = true ∨ x.zr = true) ∧ cs.any LVal.zr = false ∧
 cs.map LVal.down = cs ∧ cs.map LVal.stay = cs ∧ List.take n cs = cs ∧ (¬ ∃ x, x ∈ cs ∧ x.zr = true) ∧ (∀ k, LVal.zb k cs = true) ∧ cs.map LVal.soft = cs := by
 refine ⟨h.len, h.pfs, h.plain, fun x hx => mq (h.plain x hx), fun x hx => .inl (h.plain x hx), ?_, ?_, ?_, ?_, ?_, fun k => tE _ h.pfs, h.soft⟩
 ·rw [List.any_eq_false]
  intro x hx
  rw [mG (h.plain x hx)]; simp
 ·conv => rhs; rw [← List.map_id cs]
  exact List.map_congr_left fun x hx => plain_down (h.plain x hx)
 ·conv => rhs; rw [← List.map_id cs]
  exact List.map_congr_left fun x hx => plain_stay (h.plain x hx)
 ·exact List.take_of_length_le (by rw [h.len]; exact Nat.le_refl _)
 ·rintro ⟨x, h1, h2⟩
  rw [mG (h.plain x h1)] at h2; cases h2
theorem zg.flat (c : zg) : Flat 9 c.cells := ⟨rfl, List.all_eq_true.1 rfl, rfl, rfl⟩
theorem zD.flat {s : zD} (h : s.o = .sh) : Flat 31 s.cells := by
 refine ⟨rfl, List.all_eq_true.1 ?_, rfl, ?_⟩
 all_goals simp only [zD.cells]; rw [h]; rfl
end Go.Proofs.YtpfnlpakcldobaaGreat
namespace Go.L
open Go
variable {P : Program} {vm : List Nat} {lm : List (Option Nat)} {ρ ρ' : List Nat} {S S' : Nat → Nat → Prop} {G G' : Nat → Cl} {σ σ' : RS} {a : Act} {w w' : World}
variable {C : xV} {im : TypeId → String → Option FuncId} {impl : TypeId → TypeId → Bool}
theorem fun_ok_gen {cd : zv → RS → Option (yS × RS)} {f : FuncId} {lf : zJ} {fn : Func} {c : Code} (hf : P.funcs[f]? = some fn) (hb : fn.body = some c) (k0 : (fn.name == "runtime.NumGoroutine") = false)
 (k1 : tL vm lf.init lf.nparams fn.ntmps = true) (k3 : wj P vm fn.results.toList lf.results = true) {args : List LVal} {st : List zt} {v : LVal} {ost : Option (List zt)}
 (hcd : ∀ ρ S G a w ex σ1 st0, CR P vm fn.ntmps ρ S G { vars := zc lf.init args, st := st0, rs := [] } a w → st0 = (if lf.mode.zH then [] else st) → cd lf.code { vars := zc lf.init args, st := st0, rs := [] } = some (ex, σ1) → ∀ Q : Exit → Act → World → Prop,
  (∀ a' w', (∃ ρ' S' G', CR P vm fn.ntmps ρ' S' G' σ1 a' w' ∧ Pr w S G ρ w' S' G' ρ') → Q (oV ex) a' w') → c.wp P Q a w)
 (hr : xn cd lf args st = some (v, ost)) : uW P f args st v ost := by
 refine ⟨by simp [vF, hf, hb, k0], ?_⟩
 intro cargs w S G ρ hrel hcell hV hs
 unfold xn at hr
 split at hr
 case isFalse => cases hr
 rename_i hpre
 simp only [Option.bind_eq_some_iff] at hr
 obtain ⟨⟨ex, σ1⟩, h1, h2⟩ := hr
 have h3 : (∀ id, ex ≠ .exit id) ∧ ((vP σ1 lf.results).bind fun v => vD lf.mode st v.1 v.2.st) = some (v, ost) := by
  cases ex with
  | exit id => cases h2
  | normal => exact ⟨by simp, h2⟩
  | ret => exact ⟨by simp, h2⟩
 obtain ⟨hex, h3⟩ := h3
 simp only [Option.bind_eq_some_iff] at h3
 obtain ⟨⟨u, σ2⟩, h4, h5⟩ := h3
 have hgo : ∀ (ρ0 : List Nat) (G0 : Nat → Cl) (st0 : List zt), vJ P w S G0 ρ0 st0 → VL w S ρ0 args cargs → st0 = (if lf.mode.zH then [] else st) → cd lf.code { vars := zc lf.init args, st := st0, rs := [] } = some (ex, σ1) →
  ∀ R : Ending → World → Prop, (∀ cv w' ρ1 S1 G1 S2 G2 a', Pr w S G0 ρ0 w' S1 G1 ρ1 → Rel P vm [] ρ1 S2 G2 σ2 a' w' → At P w' S2 G2 ρ1 yr .yd u cv → Pr w' S1 G1 ρ1 w' S2 G2 ρ1 → R (.returned cv) w') → Calls P f ⟨cargs⟩ w R := by
  intro ρ0 G0 st0 hc0 hV0 hst0 hcode R hR
  refine calls_of_wp hf hb ?_
  refine hcd ρ0 S G0 _ w ex σ1 st0 (CR.start k1 hc0 hV0 hs hpre.1) hst0 hcode _ ?_
  rintro a' w' ⟨ρ1, S1, G1, ⟨m1, m2, m3⟩, m4⟩
  have hn : σ1.uy := by intro i b p n xs hi; rw [m2] at hi; simp at hi
  obtain ⟨S2, G2, cv, q1, q2, q3, q4⟩ := lE m1 hn k3 h4
  have : bodyPost P fn R .normal a' w' := ⟨m1.defers, cv, q2, hR cv w' ρ1 S1 G1 S2 G2 a' m4 q1 q3 q4⟩
  cases ex with
  | exit id => exact absurd rfl (hex id)
  | normal => exact this
  | ret => exact this
 by_cases hm : lf.mode.zH = true
 ·rw [if_pos hm] at h1
  have hpf := hpre.2 hm
  refine hgo [] (fun _ => .ro) [] (vJ.pure hrel.swf) (hV.lL hpf) (by rw [if_pos hm]) h1 _ ?_
  intro cv w' ρ1 S1 G1 S2 G2 a' p1 p2 p3 p4
  have hfin : ∀ (S3 : Nat → Nat → Prop) (G3 : Nat → Cl) (u' : LVal), SWf w' S3 G3 → At P w' S3 G3 ρ1 yr .yd u' cv → Pr w' S2 G2 ρ1 w' S3 G3 ρ1 → u'.pf = true → v = u' → ost = none → ∃ cv_1, Ending.returned cv = .returned cv_1 ∧ vZ P w S G ρ st v ost cv_1 w' := by
   rintro S3 G3 u' hsw hat3 hp3 hvp rfl rfl
   have hp := (p1.trans p4).trans hp3
   obtain ⟨q1, q2, q3⟩ := hrel.ph hsw (hat3.re hvp) hp
   refine ⟨cv, rfl, ρ, S3, _, q1, q2, q3, fun _ b hb => ⟨(hp.frame b hb rfl).1, by unfold vM; rw [if_pos hb]⟩, fun b l e x hg => ?_⟩
   by_cases hb : b < w.heap.size
   ·unfold vM at hg; rw [if_pos hb] at hg
    exact .inl (hcell b l e x hg)
   ·unfold vM at hg
    rw [if_neg hb] at hg
    split at hg
    ·injection hg with g1 g2 g3; subst g1; exact .inr rfl
    ·cases hg
  cases hpm : lf.mode with
  | pure =>
   rw [hpm] at h5
   simp only [vD] at h5
   split at h5
   ·rename_i hvp
    injection h5 with h5; injection h5 with e1 e2
    exact hfin S2 G2 u p2.swf p3 (Pr.refl ..) hvp e1.symm e2.symm
   ·cases h5
  | pureF =>
   rw [hpm] at h5
   simp only [vD] at h5
   split at h5
   ·rename_i hvp
    injection h5 with h5; injection h5 with e1 e2
    obtain ⟨S3, G3, f1, f2, f3⟩ := p2.frz p3
    exact hfin S3 G3 _ f1 f2 f3 hvp e1.symm e2.symm
   ·cases h5
  | trim => rw [hpm] at hm; simp [zY.zH] at hm
  | yb => rw [hpm] at hm; simp [zY.zH] at hm
 ·rw [if_neg hm] at h1
  refine hgo ρ G st hrel hV (by rw [if_neg hm]) h1 _ ?_
  intro cv w' ρ1 S1 G1 S2 G2 a' p1 p2 p3 p4
  have hp := p1.trans p4
  have hd := p2.drop
  have hat : At P w' S2 (tj G2) ρ1 yr .yd u cv := p3.yb (Ext.refl _ _) (zB.refl _) (fun bl c e x hg => ⟨rfl, nH hg⟩) (fun _ _ _ h => h)
  have hpr : Pr w S G ρ w' S2 (tj G2) ρ1 := ⟨hp.os, hp.tape, hp.output, hp.size, hp.ext, hp.rho, fun b hb hg => ⟨(hp.frame b hb hg).1, nG (hp.frame b hb hg).2⟩, hp.tC⟩
  cases hmm : lf.mode with
  | pure => rw [hmm] at hm; simp [zY.zH] at hm
  | pureF => rw [hmm] at hm; simp [zY.zH] at hm
  | yb =>
   rw [hmm] at h5
   simp only [vD, Option.some.injEq, Prod.mk.injEq] at h5
   obtain ⟨e1, e2⟩ := h5; subst e1; subst e2
   exact ⟨cv, rfl, ρ1, S2, _, hd, hat, hpr, (fun e => by cases e), fun b l e x hg => (si hg).2⟩
  | trim =>
   rw [hmm] at h5
   simp only [vD] at h5
   split at h5
   ·rename_i hc
    obtain ⟨c1, c2, c3⟩ := hc
    injection h5 with h5; injection h5 with e1 e2; subst e1; subst e2
    refine ⟨cv, rfl, ρ1.take st.length, S2, _, hd.take c2, hat.within c1, ?_, (fun e => by cases e), fun b l e x hg => (si hg).2⟩
    refine ⟨hpr.os, hpr.tape, hpr.output, hpr.size, hpr.ext, fun id b hb => ?_, hpr.frame, hpr.tC⟩
    have hlt := (List.getElem?_eq_some_iff.1 hb).1
    rw [List.getElem?_take, if_pos (by rw [← hrel.len]; exact hlt)]
    exact hpr.rho id b hb
   ·cases h5
def tQ (C : xV) (im : TypeId → String → Option FuncId) (impl : TypeId → TypeId → Bool) (md : Region.Mode) (ops : Array Oper) (los : List zj) : Nat → Array Bool → RS → RS → Prop
 | 0, listed, σ, σf => Region.ready md ops listed = [] ∧ σ = σf
 | n + 1, listed, σ, σf => Region.ready md ops listed ≠ [] ∧ ∀ i ∈ Region.ready md ops listed, ∃ lo σ1, los[i]? = some lo ∧ lo.ix = i ∧ Go.L.step C im impl σ lo = some σ1 ∧ tQ C im impl md ops los n (listed.setIfInBounds i true) σ1 σf
theorem all_ok (wf : qc vm lm) (hC : vI P C) (hI : Impl P impl) {ops : Array Oper} {los : List zj} {Q : Exit → Act → World → Prop} {md : Region.Mode}
 (hat : ∀ (i : Nat) (lo : zj), los[i]? = some lo → ∃ o, ops[i]? = some o ∧ u6 P vm lm ops o lo = true) {σf : RS} :
 ∀ {fuel : Nat} {listed : Array Bool} {ρ S G σ a w}, Rel P vm lm ρ S G σ a w → tQ C im impl md ops los fuel listed σ σf → (∀ a' w', wK P vm lm ρ S G w σf a' w' → Q .normal a' w') → wpAny P md ops Q fuel listed a w := by
 intro fuel
 induction fuel with
 | zero =>
  intro listed ρ S G σ a w h hr hk
  obtain ⟨h1, rfl⟩ := hr
  exact ⟨h1, hk _ _ ⟨ρ, S, G, h, Pr.refl ..⟩⟩
 | succ fuel ih =>
  intro listed ρ S G σ a w h hr hk
  obtain ⟨h1, h2⟩ := hr
  refine ⟨fun e => absurd e h1, fun i hi => ?_⟩
  obtain ⟨lo, σ1, q1, q2, q3, q4⟩ := h2 i hi
  obtain ⟨o, ho, hck⟩ := hat i lo q1
  exact step_ok h wf hC hI ho hck q3 fun a' w' ⟨ρ', S', G', k1, k2⟩ => ih k1 q4 fun a2 w2 ⟨ρ2, S2, G2, m1, m2⟩ => hk a2 w2 ⟨ρ2, S2, G2, m1, k2.trans m2⟩
def qM (P : Program) (vm : List Nat) (nt : Nat) (ops : Array Oper) (n : Nat) (los : List zj) : Bool :=
 let lm := pw ops.toList los
 n == ops.size && los.length == ops.size && chkLm vm nt lm && tu P vm lm ops 0 los
theorem regionA_ok (hv : ue vm = true) (hC : vI P C) (hI : Impl P impl) {nt n id : Nat} {ops : Array Oper} {los : List zj} (hc : qM P vm nt ops n los = true) (h : CR P vm nt ρ S G σ a w) {σ1 : RS}
 (hr : ∀ md, tQ C im impl md ops los ops.size (Array.replicate ops.size false) { σ.settle with rs := List.replicate n .undef } σ1) {Q : Exit → Act → World → Prop}
 (hk : ∀ a' w', (∃ ρ' S' G', CR P vm nt ρ' S' G' { σ1 with rs := [] } a' w' ∧ Pr w S G ρ w' S' G' ρ') → Q .normal a' w') : (Code.region id ops true).wp P Q a w := by
 obtain ⟨h1, h2, h3⟩ := h
 simp only [qM, Bool.and_eq_true, beq_iff_eq] at hc
 obtain ⟨⟨⟨c1, c2⟩, c3⟩, c4⟩ := hc
 obtain ⟨wf, hlt⟩ := chkLm_ok hv c3
 have fin : ∀ {ρ0 S0 G0 w0} {e : Exit} {a' : Act} {w' : World}, Pr w S G ρ w0 S0 G0 ρ0 → Qs nt (fun e a' w' => e = .normal ∧ wK P vm (pw ops.toList los) ρ0 S0 G0 w0 σ1 a' w') e a' w' → Q e a' w' := by
  intro ρ0 S0 G0 w0 e a' w' hp hq
  obtain ⟨⟨rfl, ρ', S', G', k1, k2⟩, k3⟩ := hq
  exact hk a' w' ⟨ρ', S', G', ⟨k1.leave, rfl, k3 rfl⟩, hp.trans k2⟩
 have hlm : ∀ (i t : Nat), (pw ops.toList los)[i]? = some (some t) → t < a.tmps.size := fun i t hi => by rw [h3]; exact hlt i t hi
 obtain ⟨S0, G0, k0, p0⟩ := h1.settle
 obtain ⟨k1, p1⟩ := k0.drew
 have hE := k1.enter hlm n
 have hat : ∀ (i : Nat) (lo : zj), los[i]? = some lo → ∃ o, ops[i]? = some o ∧ u6 P vm (pw ops.toList los) ops o lo = true := fun i lo hi => by
  have := (sy c4 i lo hi).2
  simpa using this
 have any : ∀ md, wpAny P md ops (fun e a' w' => e = .normal ∧ wK P vm (pw ops.toList los) ρ S0 G0 w.drew σ1 a' w') ops.size (Array.replicate ops.size false) a w.drew := fun md =>
  all_ok (md := md) wf hC hI hat hE (hr md) (fun a' w' hA => ⟨rfl, hA⟩)
 have h5 : (Code.region id ops true).wp P (Qs nt fun e a' w' => e = .normal ∧ wK P vm (pw ops.toList los) ρ S0 G0 w.drew σ1 a' w') a w := by
  refine wp_region_draw fun t => uP _ h3 ?_
  unfold Region.schedule
  split
  ·exact wpAny_sound _ _ _ _ _ (any .any)
  ·exact wpAny_sound _ _ _ _ _ (any _)
 exact wp_mono h5 fun e a' w' hq => fin (p0.trans p1) hq
def Tbl.Le (T T' : Tbl) : Prop := T.im = T'.im ∧ T.impl = T'.impl ∧ ∀ f d, T.fns f = some d → T'.fns f = some d
theorem callN_le {T T' : Tbl} (h : T.Le T') : ∀ n, CLe (yG T n) (yG T' n)
 | 0 => fun f args st r hr => by simp [yG] at hr
 | n + 1 => fun f args st r hr => by
  obtain ⟨h1, h2, h3⟩ := h
  simp only [yG] at hr ⊢
  cases hf : T.fns f with
  | none => simp [hf] at hr
  | some d =>
   rw [h3 f d hf]
   cases d with
   | rC g => simpa [hf] using hr
   | fn lf =>
    simp only [hf] at hr
    dsimp only
    rw [← h1, ← h2]
    exact tT (fun s r h' => wH (callN_le ⟨h1, h2, h3⟩ n) (Nat.le_refl n) h') hr
theorem callW_le {T T' : Tbl} (h : T.Le T') {f : FuncId} {args : List LVal} {st : List zt} {r} (hr : zq T f args st = some r) : zq T' f args st = some r := by
 obtain ⟨n, hn⟩ := xJ.1 hr
 exact xJ.2 ⟨n, callN_le h n _ _ _ _ hn⟩
end Go.L
namespace Go.Proofs.YtpfnlpakcldobaaGreat
open Go Go.L
namespace D
open Classical in
noncomputable def hk (f : FuncId) (Sh : LVal → Prop) : List LVal → List zt → Option (LVal × Option (List zt)) := fun args st =>
 if h : ∃ v, Sh v ∧ uW Tryz.prog f args st v none then some (Classical.choose h, none) else none
theorem hk_some {f : FuncId} {Sh : LVal → Prop} {args : List LVal} {st : List zt} (h : ∃ v, Sh v ∧ uW Tryz.prog f args st v none) : ∃ v, Sh v ∧ hk f Sh args st = some (v, none) := by
 refine ⟨Classical.choose h, (Classical.choose_spec h).1, ?_⟩
 unfold hk
 rw [dif_pos h]
theorem hk_sound {f : FuncId} {Sh : LVal → Prop} {args : List LVal} {st : List zt} {v : LVal} {ost : Option (List zt)} (h : hk f Sh args st = some (v, ost)) : uW Tryz.prog f args st v ost := by
 unfold hk at h
 split at h
 ·rename_i hx
  injection h with h; injection h with h1 h2
  subst h1; subst h2
  exact (Classical.choose_spec hx).2
 ·cases h
def Sh90 (v : LVal) : Prop := ∃ xs : List LVal, v = .agg xs ∧ xs.length = 16 ∧ ∀ x ∈ xs, ∃ n, x = .int .u8 n
def h145 : List LVal → List zt → Option (LVal × Option (List zt)) := fun args st => match args with
 | [.int .u64 x, .int .i64 n, .bool true] => if n = 2 ∧ 0 ≤ x ∧ x < 65536 then some (.tup [.vs false .full 1 [.int .u8 (x / 256), .int .u8 (x % 256)], .bool true], none) else none
 | _ => none
def Sh155 (v : LVal) : Prop := ∃ b, v = .bool b
noncomputable def W : Tbl := { fns := fun f => if f = 90 then some (.rC (hk 90 Sh90)) else if f = 145 then some (.rC h145) else if f = 155 then some (.rC (hk 155 Sh155)) else D.T.fns f, im := D.T.im, impl := D.T.impl }
theorem le_W : Tbl.Le D.T D.W := ⟨rfl, rfl, fun f d h => by
 by_cases h1 : f = 90
 ·subst h1; cases h
 ·by_cases h2 : f = 145
  ·subst h2; cases h
  ·by_cases h3 : f = 155
   ·subst h3; cases h
   ·simp only [W, if_neg h1, if_neg h2, if_neg h3]; exact h⟩
end D
theorem fn90 : D.W.fns 90 = some (.rC (D.hk 90 D.Sh90)) := rfl
theorem fn145 : D.W.fns 145 = some (.rC D.h145) := rfl
theorem fn155 : D.W.fns 155 = some (.rC (D.hk 155 D.Sh155)) := rfl
theorem toW {f : FuncId} {args : List LVal} {st : List zt} {r} (h : zq D.T f args st = some r) : zq D.W f args st = some r := callW_le D.le_W h
end Go.Proofs.YtpfnlpakcldobaaGreat
namespace Go.Proofs.YtpfnlpakcldobaaGreat
open Go Go.L Go.RowKit
theorem sound145 : ∀ args st v ost, D.h145 args st = some (v, ost) → uW Tryz.prog 145 args st v ost := by
 intro args st v ost h
 refine ⟨by kernel_rfl, fun cargs w S G ρ hrel hcell hV hs => ?_⟩
 unfold D.h145 at h
 split at h
 case h_2 => cases h
 rename_i x n
 split at h
 case isFalse => cases h
 rename_i hx
 obtain ⟨rfl, h0, h1⟩ := hx
 injection h with h; injection h with e1 e2; subst e1; subst e2
 obtain ⟨c1, c2, c3, rfl, v1, v2, v3⟩ : ∃ c1 c2 c3, cargs = [c1, c2, c3] ∧ V w S ρ (.int .u64 x) c1 ∧ V w S ρ (.int .i64 2) c2 ∧ V w S ρ (.bool true) c3 := by
  cases hV with
  | cons v1 r => cases r with
   | cons v2 r => cases r with
    | cons v3 r => cases r with
     | nil => exact ⟨_, _, _, rfl, v1, v2, v3⟩
 cases v1; cases v2; cases v3
 refine (put_call x h0 h1 w).mono ?_
 rintro e w' ⟨rfl, hB, hc0, hc1, hlt⟩
 refine ⟨_, rfl, ?_⟩
 obtain ⟨k1, k2⟩ := hrel.grown hB
 refine ⟨ρ, _, G, k1, ?_, k2, fun _ b hb => ⟨hB.block b hb, rfl⟩, fun b l e x hg => .inl (hcell b l e x hg)⟩
 refine ⟨[.slice (some ⟨w.heap.size, 0, none⟩) 2 2, .bool true], rfl, rfl, ?_⟩
 have hS : ∀ o, kP S w w' w.heap.size o := fun o => .inr ⟨Nat.le_refl _, hlt⟩
 intro c u hu
 match c, hu with
 | 0, hu =>
  injection hu with hu; subst hu
  refine ⟨(fun l' h => by cases h), _, rfl, (At1.simple rfl).2 ?_⟩
  exact V.vs (xs := [.int .u8 (x / 256), .int .u8 (x % 256)]) (Nat.le_refl _) (by decide) (fun _ => rfl) (by intro z hz; simp only [List.mem_cons, List.mem_nil_iff, or_false] at hz; rcases hz with rfl | rfl <;> rfl)
   (.cons (hS 0) hc0 (.int _ _) rfl (.cons (hS 1) hc1 (.int _ _) rfl .nil))
 | 1, hu =>
  injection hu with hu; subst hu
  exact ⟨(fun l' h => by cases h), _, rfl, (At1.simple rfl).2 (.bool _)⟩
 | c + 2, hu => simp at hu
theorem oW : lp Tryz.prog D.W := ⟨lV, fun f d h => by
 by_cases h1 : f = 90
 ·subst h1
  rw [fn90] at h
  injection h with h; subst h
  exact fun args st v ost hh => D.hk_sound hh
 ·by_cases h2 : f = 145
  ·subst h2
   rw [fn145] at h
   injection h with h; subst h
   exact sound145
  ·by_cases h3 : f = 155
   ·subst h3
    rw [fn155] at h
    injection h with h; subst h
    exact fun args st v ost hh => D.hk_sound hh
   ·have : D.T.fns f = some d := by rw [← h]; simp only [D.W, if_neg h1, if_neg h2, if_neg h3]
    exact tblOk.2 f d this⟩
end Go.Proofs.YtpfnlpakcldobaaGreat
namespace Go.L
open Go
@[simp] theorem plainV_int (k n) : LVal.plain (.int k n) = true := rfl
@[simp] theorem plainV_bool (b) : LVal.plain (.bool b) = true := rfl
@[simp] theorem plainV_str (b) : LVal.plain (.str b) = true := rfl
@[simp] theorem plainV_ptr (i o) : LVal.plain (.ptr i o) = true := rfl
@[simp] theorem plainV_map (i) : LVal.plain (.map i) = true := rfl
@[simp] theorem plainV_nilmap : LVal.plain .wq = true := rfl
@[simp] theorem plainV_sh (b n xs) : LVal.plain (.vs b .sh n xs) = true := rfl
@[simp] theorem plainV_full (b n xs) : LVal.plain (.vs b .full n xs) = true := rfl
@[simp] theorem plainV_agg (cs) : LVal.plain (.agg cs) = false := rfl
@[simp] theorem plainV_own (b e x n xs) : LVal.plain (.vs b (.own e x) n xs) = false := rfl
@[simp] theorem plainV_func (f cs) : LVal.plain (.func f cs) = true := rfl
@[simp] theorem plainV_iface (f cs) : LVal.plain (.iface f cs) = true := rfl
@[simp] theorem settledV_int (k n) : LVal.settled (.int k n) = true := rfl
@[simp] theorem settledV_bool (b) : LVal.settled (.bool b) = true := rfl
@[simp] theorem settledV_str (b) : LVal.settled (.str b) = true := rfl
@[simp] theorem settledV_ptr (i o) : LVal.settled (.ptr i o) = true := rfl
@[simp] theorem settledV_map (i) : LVal.settled (.map i) = true := rfl
@[simp] theorem settledV_nilmap : LVal.settled .wq = true := rfl
@[simp] theorem settledV_sh (b n xs) : LVal.settled (.vs b .sh n xs) = true := rfl
@[simp] theorem settledV_full (b n xs) : LVal.settled (.vs b .full n xs) = true := rfl
@[simp] theorem settledV_own (b e n xs) (x : Bool) : LVal.settled (.vs b (.own e x) n xs) = !x := rfl
section
variable {T : Tbl} {s : RS} {Q : yS → RS → Prop} {v : List LVal} {st : List zt} {rs : List LVal}
inductive Wp (T : Tbl) (c : zv) (s : RS) (Q : yS → RS → Prop) : Prop
 | mk (ex : yS) (s' : RS) (h1 : xE T c s = some (ex, s')) (h2 : Q ex s') : Wp T c s Q
inductive mw (T : Tbl) (l : List zj) (s : RS) (Q : RS → Prop) : Prop
 | mk (s' : RS) (h1 : yC (zq T) T.im T.impl l s = some s') (h2 : Q s') : mw T l s Q
inductive mu (T : Tbl) (l : List zj) (s : RS) (Q : RS → Prop) : Prop
 | mk (s' : RS) (h1 : zW (zq T) T.im T.impl l s = some s') (h2 : Q s') : mu T l s Q
inductive za (T : Tbl) (b : zv) (Q : yS → RS → Prop) : yS → RS → Prop
 | n {s : RS} (h : Wp T b s Q) : za T b Q .normal s
 | e {id : Nat} {s : RS} (h : Q (.exit id) s) : za T b Q (.exit id) s
 | r {s : RS} (h : Q .ret s) : za T b Q .ret s
inductive Blk (id : Nat) (Q : yS → RS → Prop) : yS → RS → Prop
 | n {s : RS} (h : Q .normal s) : Blk id Q .normal s
 | r {s : RS} (h : Q .ret s) : Blk id Q .ret s
 | e {s : RS} (h : Q .normal s) : Blk id Q (.exit id) s
 | x {j : Nat} {s : RS} (hj : (j == id) = false) (h : Q (.exit j) s) : Blk id Q (.exit j) s
inductive Fen (n : Nat) (ks : List Nat) (Q : yS → RS → Prop) : yS → RS → Prop
 | mk {ex : yS} {s : RS} (r : yS × RS) (h1 : yP n ks (ex, s) = some r) (h : Q r.1 r.2) : Fen n ks Q ex s
inductive Fun (res : List qo) (m : zY) (st : List zt) (P : LVal → Option (List zt) → Prop) : yS → RS → Prop
 | mk {ex : yS} {s : RS} (h0 : ∀ id, ex ≠ .exit id) (v : LVal) (s2 : RS) (h1 : vP s res = some (v, s2)) (r : LVal × Option (List zt)) (h2 : vD m st v s2.st = some r) (h3 : P r.1 r.2) : Fun res m st P ex s
def Ret (T : Tbl) (f : FuncId) (args : List LVal) (st : List zt) (P : LVal → Option (List zt) → Prop) : Prop := ∃ v o, zq T f args st = some (v, o) ∧ P v o
theorem Wp.mono {c : zv} {Q' : yS → RS → Prop} (h : Wp T c s Q) (hq : ∀ e s, Q e s → Q' e s) : Wp T c s Q' := by
 obtain ⟨ex, s', h1, h2⟩ := h
 exact ⟨ex, s', h1, hq _ _ h2⟩
theorem wc (h : Q .normal s) : Wp T .skip s Q := ⟨_, _, yl s, h⟩
theorem wa {id : Nat} (h : Q (.exit id) s) : Wp T (.exit id) s Q := ⟨_, _, yj id s, h⟩
theorem vf (h : Q .ret s) : Wp T .ret s Q := ⟨_, _, yH s, h⟩
theorem wG {a b : zv} (h : Wp T a s (za T b Q)) : Wp T (.seq a b) s Q := by
 obtain ⟨ex, s1, h1, h2⟩ := h
 cases h2 with
 | n h2 =>
  obtain ⟨ex, s2, h3, h4⟩ := h2
  exact ⟨ex, s2, by rw [yA, h1]; exact h3, h4⟩
 | e h2 => exact ⟨_, s1, by rw [yA, h1]; rfl, h2⟩
 | r h2 => exact ⟨.ret, s1, by rw [yA, h1]; rfl, h2⟩
theorem xH {id : Nat} {b : zv} (h : Wp T b s (Blk id Q)) : Wp T (.block id b) s Q := by
 obtain ⟨ex, s1, h1, h2⟩ := h
 cases h2 with
 | n h2 => exact ⟨.normal, s1, by rw [zV, h1]; rfl, h2⟩
 | r h2 => exact ⟨.ret, s1, by rw [zV, h1]; rfl, h2⟩
 | e h2 => exact ⟨.normal, s1, by rw [zV, h1]; simp [ug], h2⟩
 | x hj h2 =>
  rename_i j
  have : ¬ j = id := by simpa using hj
  exact ⟨.exit j, s1, by rw [zV, h1]; simp [ug, this], h2⟩
theorem xG {ks : List Nat} {b : zv} (h : Wp T b s (Fen s.st.length ks Q)) : Wp T (.zX ks b) s Q := by
 obtain ⟨ex, s1, h1, h2⟩ := h
 obtain ⟨r, h2, h3⟩ := h2
 exact ⟨r.1, r.2, by rw [yw, h1]; exact h2, h3⟩
theorem um {n : Nat} {ks : List Nat} {r : RS} (h1 : yP n ks (.normal, s) = some (.normal, r)) (h : Q .normal r) : Fen n ks Q .normal s := ⟨_, h1, h⟩
theorem uC {n id : Nat} {ks : List Nat} (h : Q (.exit id) s) : Fen n ks Q (.exit id) s := ⟨_, rfl, h⟩
theorem uB {n : Nat} {ks : List Nat} (h : Q .ret s) : Fen n ks Q .ret s := ⟨_, rfl, h⟩
theorem vU {x : Opd} {a b : zv} {t : Bool} (h : s.zu x = some (.bool t)) (h1 : t = true → Wp T a s Q) (h2 : t = false → Wp T b s Q) : Wp T (.cond x a b) s Q := by
 cases t with
 | true => obtain ⟨ex, s', k1, k2⟩ := h1 rfl; exact ⟨ex, s', by rw [yo, h]; exact k1, k2⟩
 | false => obtain ⟨ex, s', k1, k2⟩ := h2 rfl; exact ⟨ex, s', by rw [yo, h]; exact k1, k2⟩
theorem ud {x : Opd} {a b : zv} (h : s.zu x = some (.bool true)) (h1 : Wp T a s Q) : Wp T (.cond x a b) s Q := vU h (fun _ => h1) (fun e => by cases e)
theorem ub {x : Opd} {a b : zv} (h : s.zu x = some (.bool false)) (h1 : Wp T b s Q) : Wp T (.cond x a b) s Q := vU h (fun e => by cases e) (fun _ => h1)
theorem xi {b : zv} (h : Wp T b s (za T (.loop b) Q)) : Wp T (.loop b) s Q := by
 obtain ⟨ex, s1, h1, h2⟩ := h
 cases h2 with
 | n h2 =>
  obtain ⟨ex, s2, h3, h4⟩ := h2
  exact ⟨ex, s2, by rw [wY, h1]; exact h3, h4⟩
 | e h2 => exact ⟨_, s1, by rw [wY, h1]; rfl, h2⟩
 | r h2 => exact ⟨.ret, s1, by rw [wY, h1]; rfl, h2⟩
theorem ve {n : Nat} {ops : List zj} (h : mw T ops ⟨v, st, List.replicate n .undef⟩ (fun s => Q .normal ⟨s.vars, s.st, []⟩)) : Wp T (.region n ops false) ⟨v, st, rs⟩ Q := by
 obtain ⟨s', h1, h2⟩ := h
 exact ⟨.normal, _, by rw [zU, h1]; rfl, h2⟩
theorem wb {n : Nat} {ops : List zj} {p : List LVal × List zt} (hs : (v.map LVal.stay, st.map zt.settle) = p) (h : mu T ops ⟨p.1, p.2, List.replicate n .undef⟩ (fun s => Q .normal ⟨s.vars, s.st, []⟩)) : Wp T (.region n ops true) ⟨v, st, rs⟩ Q := by
 obtain ⟨s', h1, h2⟩ := h
 refine ⟨.normal, _, ?_, h2⟩
 subst hs
 rw [zP]
 simp only [RS.settle, h1]
 rfl
theorem we {K : RS → Prop} (h : K s) : mw T [] s K := ⟨_, rfl, h⟩
theorem xO {K : RS → Prop} (h : K s) : mu T [] s K := ⟨_, rfl, h⟩
theorem xC {o : zj} {r : List zj} {s1 : RS} {K : RS → Prop} (h1 : Go.L.step (zq T) T.im T.impl s o = some s1) (h2 : mw T r s1 K) : mw T (o :: r) s K := by
 obtain ⟨s', k1, k2⟩ := h2
 exact ⟨s', by rw [yC, h1]; exact k1, k2⟩
theorem yZ {o : zj} {r : List zj} {s1 : RS} {K : RS → Prop} (h1 : ya (zq T) T.im T.impl s o = some s1) (h2 : mu T r s1 K) : mu T (o :: r) s K := by
 obtain ⟨s', k1, k2⟩ := h2
 exact ⟨s', by rw [zW, h1]; exact k1, k2⟩
theorem uf {ix j : Nat} {sc : Bool} {aw : List (Opd × Nat)} {r : List zj} {t : Bool} {K : RS → Prop} (h : rs[j]? = some (.bool t)) (h1 : t = true → mw T r ⟨v, st, rs.set ix (.bool true)⟩ K) (h2 : t = false → mw T r ⟨v, st, rs.set ix (.bool false)⟩ K) :
 mw T (⟨ix, none, none, .mv (.loc j) false, sc, aw⟩ :: r) ⟨v, st, rs⟩ K := by
 refine xC (s1 := ⟨v, st, rs.set ix (.bool t)⟩) (by simp [Go.L.step, sem, RS.yW, h, RS.put]) ?_
 cases t with
 | true => exact h1 rfl
 | false => exact h2 rfl
theorem vQ {ix j : Nat} {sc : Bool} {aw : List (Opd × Nat)} {g : Opd} {want : Bool} {r : List zj} {t : Bool} {K : RS → Prop} (hg : (⟨v, st, rs⟩ : RS).zu g = some (.bool want)) (h : rs[j]? = some (.bool t)) (h1 : t = true → mw T r ⟨v, st, rs.set ix (.bool true)⟩ K) (h2 : t = false → mw T r ⟨v, st, rs.set ix (.bool false)⟩ K) :
 mw T (⟨ix, none, some (g, want), .mv (.loc j) false, sc, aw⟩ :: r) ⟨v, st, rs⟩ K := by
 refine xC (s1 := ⟨v, st, rs.set ix (.bool t)⟩) (by simp [Go.L.step, hg, sem, RS.yW, h, RS.put]) ?_
 cases t with
 | true => exact h1 rfl
 | false => exact h2 rfl
theorem vR {ix j : Nat} {sc : Bool} {aw : List (Opd × Nat)} {r : List zj} {t : Bool} {K : RS → Prop} (h : rs[j]? = some (.bool t)) (h1 : t = true → mu T r ⟨v, st, rs.set ix (.bool true)⟩ K) (h2 : t = false → mu T r ⟨v, st, rs.set ix (.bool false)⟩ K) :
 mu T (⟨ix, none, none, .mv (.loc j) false, sc, aw⟩ :: r) ⟨v, st, rs⟩ K := by
 refine yZ (s1 := ⟨v, st, rs.set ix (.bool t)⟩) ?_ ?_
 ·simp [ya, x8, sem, RS.yW, h, RS.put, LOp.quiet, LOp.yy, yE, LOp.zQ, RS.zu, LVal.calm, LVal.xg, yx, yK, yg, zj.fix, LOp.yt, LVal.stay, LVal.yT]
 ·cases t with
  | true => exact h1 rfl
  | false => exact h2 rfl
theorem vr {ix j : Nat} {sc : Bool} {aw : List (Opd × Nat)} {g : Opd} {want : Bool} {r : List zj} {t : Bool} {K : RS → Prop} (hg : (⟨v, st, rs⟩ : RS).zu g = some (.bool want)) (h : rs[j]? = some (.bool t)) (h1 : t = true → mu T r ⟨v, st, rs.set ix (.bool true)⟩ K) (h2 : t = false → mu T r ⟨v, st, rs.set ix (.bool false)⟩ K) :
 mu T (⟨ix, none, some (g, want), .mv (.loc j) false, sc, aw⟩ :: r) ⟨v, st, rs⟩ K := by
 refine yZ (s1 := ⟨v, st, rs.set ix (.bool t)⟩) ?_ ?_
 ·unfold ya
  simp only [hg, Option.bind_some]
  simp [x8, sem, RS.yW, h, RS.put, LOp.quiet, LOp.yy, yE, LOp.zQ, RS.zu, LVal.calm, LVal.xg, yx, yK, yg, zj.fix, LOp.yt, LVal.stay, LVal.yT]
 ·cases t with
  | true => exact h1 rfl
  | false => exact h2 rfl
theorem yU {f : FuncId} {np : Nat} {ini : List (Option Nat)} {c : zv} {res : List qo} {m : zY} {args : List LVal} {P : LVal → Option (List zt) → Prop} (hf : T.fns f = some (.fn ⟨np, ini, c, res, m⟩)) (hn : args.length = np)
 (hp : m.zH = true → LVal.pfs args = true) (h : Wp T c ⟨zc ini args, if m.zH then [] else st, []⟩ (Fun res m st P)) : Ret T f args st P := by
 obtain ⟨ex, s', h1, h2⟩ := h
 obtain ⟨h2, v, s2, h3, r, h4, h5⟩ := h2
 refine ⟨r.1, r.2, ?_, h5⟩
 rw [yF hf]
 unfold xn
 rw [if_pos ⟨hn, hp⟩, h1]
 cases ex with
 | exit id => exact absurd rfl (h2 id)
 | normal => simp only [Option.bind_some]; rw [h3]; exact h4
 | ret => simp only [Option.bind_some]; rw [h3]; exact h4
theorem og {res : List qo} {m : zY} {P : LVal → Option (List zt) → Prop} {p : LVal × RS} {q : LVal × Option (List zt)} (h1 : vP s res = some p) (h2 : vD m st p.1 p.2.st = some q) (h3 : P q.1 q.2) : Fun res m st P .ret s :=
 ⟨(fun _ e => by cases e), p.1, p.2, h1, _, h2, h3⟩
theorem oe {res : List qo} {m : zY} {P : LVal → Option (List zt) → Prop} {p : LVal × RS} {q : LVal × Option (List zt)} (h1 : vP s res = some p) (h2 : vD m st p.1 p.2.st = some q) (h3 : P q.1 q.2) : Fun res m st P .normal s :=
 ⟨(fun _ e => by cases e), p.1, p.2, h1, _, h2, h3⟩
theorem Ret.ex {f : FuncId} {args : List LVal} {P : LVal → Prop} (h : Ret T f args st (fun v o => o = none ∧ P v)) : ∃ v, zq T f args st = some (v, none) ∧ P v := by
 obtain ⟨v, o, h1, rfl, h2⟩ := h
 exact ⟨v, h1, h2⟩
theorem Ret.eq {f : FuncId} {args : List LVal} {v : LVal} {o : Option (List zt)} (h : Ret T f args st (fun v' o' => v' = v ∧ o' = o)) : zq T f args st = some (v, o) := by
 obtain ⟨v', o', h1, rfl, rfl⟩ := h
 exact h1
end
end Go.L
