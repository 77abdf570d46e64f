/- Texts of the proof: RJ11 RE2 RJ2. -/
import Derived.Test.YtpfnlpakcldobaaGreatARJ7
import Derived.Test.YtpfnlpakcldobaaGreatARE8
import Derived.Test.YtpfnlpakcldobaaGreatARC
import Derived.Test.YtpfnlpakcldobaaGreatARJ1
import Derived.Test.YtpfnlpakcldobaaGreatARP1
set_option linter.unusedVariables false
set_option linter.unusedSimpArgs false
set_option linter.unusedSectionVars false
namespace Go.Proofs.YtpfnlpakcldobaaGreat
open Go Go.L
def FreeA (a : AW) (x : wN) (q : Bool) (a' : AW) : Prop :=
 ∃ g', g'.value.length ≤ 70000 ∧ a' = { a with g := g' } ∧ (q = true → vX x.zd = -1 ∨ ∃ p, pd x.data p ∧ p.code ≠ 2 ∧ p.code ≠ 3)
set_option maxHeartbeats 80000000 in
theorem lZ {N K : Nat} {st : List zt} (hs : xA N K st) (a : AW) (ha : a.ok 90000) (dv cv : LVal) (hdv : zK dv a.ds) (hcv : zN cv a.n) (hK : st[K]? = some (a.mk' dv cv).obj) (x : wN) (hxw : Wb x.nil x.m x.data) (hxl : x.data.length ≤ 65531) :
 Leaves 42 [.ptr K 0, .agg x.cells] st K (fun v a' => ∃ q : Bool, v = .bool q ∧ FreeA a x q a') := by
 suffices h : Ret D.W 42 [.ptr K 0, .agg x.cells] st (fun v o => ∃ (a' : AW) (dv' cv' : LVal) (q : Bool), zK dv' a'.ds ∧ zN cv' a'.n ∧ o = some (st.set K (a'.mk' dv' cv').obj) ∧ v = .bool q ∧ FreeA a x q a') by
  obtain ⟨v, o, k, a', dv', cv', q, x1, x2, rfl, x3, x4⟩ := h
  exact ⟨v, a', dv', cv', x1, x2, k, q, x3, x4⟩
 have hlt := hs.lt
 have hlt1 : K < N + 1 := by omega
 have hlt2 : K < N + 2 := by omega
 have hlt3 : K < N + 3 := by omega
 have F0 := sF hs
 obtain ⟨p, e, kg, hp, _, _, hgot⟩ := get47 x.nil x.m x.data hxw (by omega)
 have e1 := zx x.data
 have e2 := zx p.data
 have al : ∀ (a : AW) (dv cv : LVal), zK dv a.ds → zN cv a.n → ∀ x ∈ stW st K (a.mk' dv cv).obj [], zt.within N x = true := fun a dv cv x y => xm hs (zw.within _ x y N)
 have same : ∀ q : Bool, (q = true → vX x.zd = -1 ∨ ∃ p, pd x.data p ∧ p.code ≠ 2 ∧ p.code ≠ 3) → FreeA a x q a := fun q h => ⟨a.g, ha.g, rfl, h⟩
 obtain ⟨b', m', hda, hwd⟩ := pS hdv
 have k16 := rb a b' m'
 obtain ⟨dv1, cv1, hdv1, hcv1, hld⟩ : ∃ dv1 cv1, zK dv1 a.ds ∧ zN cv1 a.n ∧ ((dv.zr = true ∧ dv1 = dv.stay ∧ cv1 = cv.stay) ∨ (dv.zr = false ∧ dv1 = dv ∧ cv1 = cv)) := by
  cases h : dv.zr with
  | true => exact ⟨_, _, hdv.stay, hcv.stay, .inl ⟨rfl, rfl, rfl⟩⟩
  | false => exact ⟨_, _, hdv, hcv, .inr ⟨rfl, rfl, rfl⟩⟩
 have al0 := al a dv cv hdv hcv
 have al1 := al a dv1 cv1 hdv1 hcv1
 rw [zC hK]
 by_cases h33 : x.zd = 33
 ·have hno : vX x.zd = -1 := by rw [h33]; rfl
  unfold zD.cells at k16
  unfold AW.mk' zw.obj zw.cells zg.cells zA.cells zl.cells wN.cells zE.cells at *
  simp only [List.cons_append, List.nil_append] at *
  cases hn : a.net
  all_goals
   rw [hn] at k16
   rcases hld with ⟨hio, rfl, rfl⟩ | ⟨hio, rfl, rfl⟩
  all_goals
   have F := an F0 (an e1 (an e2 (an kg (an h33 (an k16 (an hio (an hda (eq_true al1))))))))
   refine Ret.of wk ?_
   exact ⟨a, _, _, _, hdv1, hcv1, by rw [zz hs], rfl, same _ (fun _ => .inl hno)⟩
 by_cases h87 : x.zd = 87
 ·have hno : vX x.zd = -1 := by rw [h87]; rfl
  unfold zD.cells at k16
  unfold AW.mk' zw.obj zw.cells zg.cells zA.cells zl.cells wN.cells zE.cells at *
  simp only [List.cons_append, List.nil_append] at *
  cases hn : a.net
  all_goals
   rw [hn] at k16
   rcases hld with ⟨hio, rfl, rfl⟩ | ⟨hio, rfl, rfl⟩
  all_goals
   have F := an F0 (an e1 (an e2 (an kg (an h33 (an h87 (an k16 (an hio (an hda (eq_true al1)))))))))
   refine Ret.of wk ?_
   exact ⟨a, _, _, _, hdv1, hcv1, by rw [zz hs], rfl, same _ (fun _ => .inl hno)⟩
 by_cases he : e = 0
 case neg =>
  have hb : (e != 0) = true := by simpa using he
  unfold AW.mk' zw.obj zw.cells zg.cells zA.cells zl.cells wN.cells zE.cells at *
  simp only [List.cons_append, List.nil_append] at *
  have F := an F0 (an e1 (an e2 (an kg (an h33 (an h87 (an he (an hb (eq_true al0))))))))
  refine Ret.of wk ?_
  exact ⟨a, _, _, _, hdv, hcv, by rw [zz hs], rfl, same _ (fun e => by cases e)⟩
 subst he
 by_cases h9 : a.l0.st = 9
 case neg =>
  have hb : (a.l0.st != 9) = true := by simpa using h9
  unfold AW.mk' zw.obj zw.cells zg.cells zA.cells zl.cells wN.cells zE.cells at *
  simp only [List.cons_append, List.nil_append] at *
  have F := an F0 (an e1 (an e2 (an kg (an h33 (an h87 (an hb (eq_true al0)))))))
  refine Ret.of wk ?_
  exact ⟨a, _, _, _, hdv, hcv, by rw [zz hs], rfl, same _ (fun e => by cases e)⟩
 have hb9 : (a.l0.st != 9) = false := by rw [h9]; rfl
 by_cases hl : x.zd = 49185
 ·obtain ⟨y, b, m, r, ok, k1, hwr, hr, hmc⟩ := ra p _ hp (by omega)
  have e3 := zx r
  have hc : ok = true → vX x.zd = -1 ∨ ∃ p, pd x.data p ∧ p.code ≠ 2 ∧ p.code ≠ 3 := fun h => .inr ⟨p, hgot rfl, by rcases hmc h with h | h | h <;> omega, by rcases hmc h with h | h | h <;> omega⟩
  unfold AW.mk' zw.obj zw.cells zg.cells zA.cells zl.cells wN.cells zE.cells at *
  simp only [List.cons_append, List.nil_append] at *
  cases ok with
  | true =>
   have F := an F0 (an e1 (an e2 (an e3 (an kg (an h33 (an h87 (an hb9 (an hl (an k1 (eq_true al0))))))))))
   refine Ret.of wk ?_
   exact ⟨a, _, _, _, hdv, hcv, by rw [zz hs], rfl, same _ (fun _ => hc rfl)⟩
  | false =>
   have F := an F0 (an e1 (an e2 (an e3 (an kg (an h33 (an h87 (an hb9 (an hl (an k1 (eq_true al0))))))))))
   refine Ret.of wk ?_
   exact ⟨a, _, _, _, hdv, hcv, by rw [zz hs], rfl, same _ (fun e => by cases e)⟩
 ·obtain ⟨g', q, k51, hgv, hq⟩ := begin_ex a.g x.zd p _ hp (by omega) ha.g
  have al3 := al { a with g := g' } dv.stay cv.stay hdv.stay hcv.stay
  have hc : q = true → vX x.zd = -1 ∨ ∃ p, pd x.data p ∧ p.code ≠ 2 ∧ p.code ≠ 3 := fun h => .inl (by rcases hq h with h | h <;> rw [h] <;> rfl)
  unfold AW.mk' zw.obj zw.cells zg.cells zA.cells zl.cells wN.cells zE.cells at *
  simp only [List.cons_append, List.nil_append] at *
  have F := an F0 (an e1 (an e2 (an kg (an h33 (an h87 (an hb9 (an hl (an k51 (eq_true al3)))))))))
  refine Ret.of wk ?_
  exact ⟨{ a with g := g' }, _, _, q, hdv.stay, hcv.stay, by rw [zz hs], rfl, ⟨g', hgv, rfl, hc⟩⟩
end Go.Proofs.YtpfnlpakcldobaaGreat
namespace Go.Proofs.YtpfnlpakcldobaaGreat
open Go Go.L
theorem fn147 : D.W.fns 147 = some (.fn D.l147) := rfl
theorem fn143 : D.W.fns 143 = some (.fn D.l143) := rfl
set_option maxHeartbeats 4000000 in
theorem put_ex (p : zE) (n : Nat) (hp : p.wf n) (hn : n ≤ 65531) : ∃ b m r e, zq D.W 142 [.agg p.cells] [] = some (.tup [.vs b .sh m (zy r), .int .i64 e], none) ∧ Wb b m r ∧ r.length ≤ 65535 := by
 obtain ⟨h1, h2, h3, h4, hw, hl⟩ := hp
 suffices h : Ret D.W 142 [.agg p.cells] [] (fun v o => o = none ∧ ∃ b m r e, v = .tup [.vs b .sh m (zy r), .int .i64 e] ∧ Wb b m r ∧ r.length ≤ 65535) by
  obtain ⟨v, k, b, m, r, e, rfl, h⟩ := h.ex
  exact ⟨b, m, r, e, k, h⟩
 have e2 := zx p.data
 have e3 := ze p.data
 have c1 : ¬ p.code < 0 := by omega
 have c2 : ¬ 255 < p.code := by omega
 have c3 : ¬ p.id < 0 := by omega
 have c4 : ¬ 255 < p.id := by omega
 have c5 : ¬ (65531 : Int) < p.data.length := by omega
 have c6 : (4 + p.data.length) ≤ 140737488355328 := by omega
 obtain ⟨b0, w0⟩ := tg p.code
 obtain ⟨b1, w1⟩ := tg p.id
 have hcat : ∀ b2 b3 : UInt8, LVal.int .u8 b0.toNat :: LVal.int .u8 b1.toNat :: LVal.int .u8 b2.toNat :: LVal.int .u8 b3.toNat :: zy p.data = zy (b0 :: b1 :: b2 :: b3 :: p.data) := fun b2 b3 => rfl
 have hm1 : p.data ≠ [] → p.m = 1 := fun h => (hw.ne h).2
 unfold zE.cells
 obtain ⟨b2, w2⟩ := tg ((IntKind.i64.wrap (4 + (p.data.length : Int))).fdiv (2 ^ (min 8 IntKind.i64.bits)))
 obtain ⟨b3, w3⟩ := tg (IntKind.i64.wrap (4 + (p.data.length : Int)))
 rw [show (2 : Int) ^ (min 8 IntKind.i64.bits) = 256 from rfl] at w2
 have w4 : IntKind.i64.wrap (4 + (p.data.length : Int)) = 4 + p.data.length := vG (by omega) (by omega)
 rw [w4] at w2 w3
 by_cases h : p.data = []
 ·obtain ⟨b4, w5⟩ := tg ((IntKind.i64.wrap 4).fdiv 256)
  obtain ⟨b5, w6⟩ := tg (IntKind.i64.wrap 4)
  rw [h] at *
  have F := an c1 (an c2 (an c3 (an c4 (an c5 (an e2 (an e3 (an w0 (an w1 (an w5 (an w6 (an mn8 (an mb' xz))))))))))))
  refine Ret.of wk ?_
  exact ⟨rfl, false, 1, [b0, b1, b4, b5], 0, rfl, Wb.one, by simp⟩
 ·have hm2 := hm1 h
  have h' : ¬ zy p.data = [] := fun e => h (List.map_eq_nil_iff.1 e)
  have F := an c1 (an c2 (an c3 (an c4 (an c5 (an c6 (an e2 (an e3 (an w0 (an w1 (an w2 (an w3 (an w4 (an mn8 (an mb' (an hm2 (an h h'))))))))))))))))
  refine Ret.of wk ?_
  exact ⟨rfl, false, 1, b0 :: b1 :: b2 :: b3 :: p.data, 0, rfl, Wb.one, by simp; omega⟩
theorem fit_ex (n : Int) : ∃ k : Int, 0 ≤ k ∧ k ≤ 65531 ∧ zq D.W 147 [.int .i64 n] [] = some (.int .i64 k, none) := by
 rw [yF fn147]
 by_cases h0 : n < 0
 ·exact ⟨0, by omega, by omega, by simp [D.l147, D.c147, go_sem, mmL, sN, h0]⟩
 ·by_cases h1 : 65531 < n
  ·exact ⟨65531, by omega, by omega, by simp [D.l147, D.c147, go_sem, mmL, sN, h0, h1]⟩
  ·exact ⟨n, by omega, by omega, by simp [D.l147, D.c147, go_sem, mmL, sN, h0, h1]⟩
set_option maxHeartbeats 4000000 in
theorem mY (b : Bool) (m : Nat) (l : List UInt8) (hm : Wb b m l) (hl : l.length ≤ 70000) (n : Int) : ∃ b' m' r, zq D.W 146 [.vs b .sh m (zy l), .int .i64 n] [] = some (.vs b' .sh m' (zy r), none) ∧ Wb b' m' r ∧ r.length ≤ l.length := by
 have hmx : l.length ≤ xl := by rw [mb']; omega
 have key : ∀ k : Nat, k ≤ l.length → (if 0 > n then (0 : Int) else n) = (if (l.length : Int) < (if 0 > n then (0 : Int) else n) then (if 0 > n then (0 : Int) else n) else k) ∨ True → True := fun _ _ _ => trivial
 obtain ⟨k, hk, hq⟩ : ∃ k : Nat, k ≤ l.length ∧ ((n < 0 ∧ k = 0) ∨ (¬ n < 0 ∧ (l.length : Int) < n ∧ k = l.length) ∨ (¬ n < 0 ∧ ¬ (l.length : Int) < n ∧ (k : Int) = n)) := by
  by_cases h0 : n < 0
  ·exact ⟨0, Nat.zero_le _, .inl ⟨h0, rfl⟩⟩
  ·by_cases h1 : (l.length : Int) < n
   ·exact ⟨l.length, Nat.le_refl _, .inr (.inl ⟨h0, h1, rfl⟩)⟩
   ·exact ⟨n.toNat, by omega, .inr (.inr ⟨h0, h1, by omega⟩)⟩
 have k1 : zq D.W 55 [.vs b .sh m (zy l), .int .i64 0, .int .i64 k] [] = _ := nM b m l hm hmx 0 k (by omega)
 simp only [Nat.zero_add, List.drop_zero] at k1
 have e2 := zx l
 have e3 := ze l
 have e4 := zx (l.take k)
 have hw : Wb b (clN b) (l.take k) := by have := hm.cl.sub k 0; simpa using this
 suffices h : Ret D.W 146 [.vs b .sh m (zy l), .int .i64 n] [] (fun v o => o = none ∧ ∃ b' m' r, v = .vs b' .sh m' (zy r) ∧ Wb b' m' r ∧ r.length ≤ l.length) by
  obtain ⟨v, k, b', m', r, rfl, h⟩ := h.ex
  exact ⟨b', m', r, k, h⟩
 have e5 : ¬ (l.length : Int) < 0 := by omega
 rcases hq with ⟨h0, rfl⟩ | ⟨h0, h1, rfl⟩ | ⟨h0, h1, h2⟩
 ·simp only [List.take_zero, xz, Int.natCast_zero] at k1
  have F := an h0 (an e2 (an e3 (an e5 k1)))
  refine Ret.of wk ?_
  exact ⟨rfl, b, clN b, [], rfl, by have := hm.cl.sub 0 0; simpa using this, Nat.zero_le _⟩
 ·have F := an h0 (an h1 (an e2 (an e3 (an e4 k1))))
  refine Ret.of wk ?_
  exact ⟨rfl, _, _, l, rfl, by simpa using hw, Nat.le_refl _⟩
 ·subst h2
  have F := an h0 (an h1 (an e2 (an e3 (an e4 k1))))
  refine Ret.of wk ?_
  exact ⟨rfl, _, _, _, rfl, hw, by simp; omega⟩
theorem coderej_ex (b : Bool) (m : Nat) (l : List UInt8) (hm : Wb b m l) (hl : l.length ≤ 70000) (n : Int) : ∃ b' m' r, zq D.W 143 [.vs b .sh m (zy l), .int .i64 n] [] = some (.vs b' .sh m' (zy r), none) ∧ Wb b' m' r ∧ r.length ≤ l.length := by
 obtain ⟨k, h0, h1, k1⟩ := fit_ex n
 obtain ⟨b', m', r, k2, h⟩ := mY b m l hm hl (IntKind.i64.wrap (k - 4))
 refine ⟨b', m', r, ?_, h⟩
 have e2 := zx l
 have e3 := zx r
 rw [yF fn143]
 simp [D.l143, D.c143, go_sem, k1, k2, e2, e3]
set_option maxHeartbeats 4000000 in
theorem jy (x : Int) (hx0 : 1 ≤ x) (hx1 : x ≤ 65535) (b : Bool) (m : Nat) (l : List UInt8) (hm : Wb b m l) (hl : l.length ≤ 69000) (n : Int) : ∃ b' m' r, zq D.W 137 [.int .i64 x, .vs b .sh m (zy l), .int .i64 n] [] = some (.vs b' .sh m' (zy r), none) ∧ Wb b' m' r ∧ r.length ≤ 70000 := by
 obtain ⟨k, h0, h1, k1⟩ := fit_ex n
 obtain ⟨b', m', r, k2, hw, hr⟩ := mY b m l hm (by omega) (IntKind.i64.wrap (IntKind.i64.wrap (k - 4) - 2))
 have hx2 : (0 : Int) ≤ x := by omega
 have hx3 : x < 65536 := by omega
 have k3 : zq D.W 145 [.int .u64 x, .int .i64 2, .bool true] [] = some (.tup [.vs false .full 1 [.int .u8 (x / 256), .int .u8 (x % 256)], .bool true], none) := by
  rw [nS fn145]
  simp [D.h145, hx2, hx3]
 have w1 : IntKind.u64.wrap x = x := w64 (by omega) (by omega)
 have e2 := zx l
 have e3 := zx r
 have e4 := ze r
 obtain ⟨b0, w2⟩ : ∃ b0 : UInt8, x / 256 = (b0.toNat : Int) := by obtain ⟨b0, h⟩ := tg (x / 256); exact ⟨b0, by rw [← h, IntKind.wrap_u8']; omega⟩
 obtain ⟨b1, w3⟩ : ∃ b1 : UInt8, x % 256 = (b1.toNat : Int) := by obtain ⟨b0, h⟩ := tg (x % 256); exact ⟨b0, by rw [← h, IntKind.wrap_u8']; omega⟩
 rw [w2, w3] at k3
 have c6 : (2 + r.length) ≤ 140737488355328 := by omega
 suffices h : Ret D.W 137 [.int .i64 x, .vs b .sh m (zy l), .int .i64 n] [] (fun v o => o = none ∧ ∃ b' m' r, v = .vs b' .sh m' (zy r) ∧ Wb b' m' r ∧ r.length ≤ 70000) by
  obtain ⟨v, k, b', m', r, rfl, h⟩ := h.ex
  exact ⟨b', m', r, k, h⟩
 by_cases h : r = []
 ·subst h
  have F := an k1 (an k2 (an k3 (an w1 (an e2 (an e3 (an e4 xz))))))
  refine Ret.of wk ?_
  exact ⟨rfl, false, 1, [b0, b1], rfl, Wb.one, by simp⟩
 ·have hm2 := (hw.ne h).2
  have h' : ¬ zy r = [] := fun e => h (List.map_eq_nil_iff.1 e)
  have F := an k1 (an k2 (an k3 (an w1 (an e2 (an e3 (an e4 (an h (an h' (an hm2 (an c6 mb'))))))))))
  refine Ret.of wk ?_
  exact ⟨rfl, false, 1, b0 :: b1 :: r, rfl, Wb.one, by simp; omega⟩
end Go.Proofs.YtpfnlpakcldobaaGreat
namespace Go.Proofs.YtpfnlpakcldobaaGreat
open Go Go.L
theorem sR (a : AW) (i e : Nat) (id : Int) (data : List UInt8) : (zk a i e id data).1.l0.opts = a.l0.opts ∧ (zk a i e id data).1.l1.opts = a.l1.opts ∧ (zk a i e id data).1.l2.opts = a.l2.opts := by
 unfold zk
 dsimp only
 split
 ·unfold AW.xa AW.link
  split
  ·exact ⟨rfl, rfl, rfl⟩
  ·split <;> exact ⟨rfl, rfl, rfl⟩
 ·exact ⟨rfl, rfl, rfl⟩
def Ansd (a : AW) (i : Nat) (id : Int) (a' : AW) : Prop :=
 a' = a ∨ ∃ e, (e = 9 ∨ e = 10) ∧ (a' = (zk (a.xa i { a.link i with zm := true }) i e id []).1 ∨
  (i = 0 ∧ e = 9 ∧ ∃ t : Int, a' = { (zk (a.xa i { a.link i with zm := true }) i e id []).1 with g := { (zk (a.xa i { a.link i with zm := true }) i e id []).1.g with ours := t } }))
theorem AW.ok.xa {a : AW} {k : Nat} (h : a.ok k) (i : Nat) (l : zA) (hl : l.fit) : (a.xa i l).ok k := by
 unfold AW.xa
 split
 ·exact ⟨h.due, h.cel, h.mc, h.mt, h.mf, h.s1, h.s2, hl, h.a1, h.a2, h.g, h.ds⟩
 ·split
  ·exact ⟨h.due, h.cel, h.mc, h.mt, h.mf, h.s1, h.s2, h.a0, hl, h.a2, h.g, h.ds⟩
  ·exact ⟨h.due, h.cel, h.mc, h.mt, h.mf, h.s1, h.s2, h.a0, h.a1, hl, h.g, h.ds⟩
set_option maxHeartbeats 40000000 in
theorem kF {N K : Nat} {st : List zt} (hs : xA N K st) (a : AW) (ha : a.ok 90000) (dv cv : LVal) (hdv : zK dv a.ds) (hcv : zN cv a.n) (hK : st[K]? = some (a.mk' dv cv).obj) (p : zE) (n : Nat) (hp : p.wf n) (hn : n ≤ 70000) :
 Leaves 139 [.ptr K 0, .int .i64 0, .agg p.cells] st K (fun v a' => v = .tup [] ∧ Ansd a 0 p.id a') := by
 suffices h : Ret D.W 139 [.ptr K 0, .int .i64 0, .agg p.cells] st (fun v o => ∃ a' dv' cv', zK dv' a'.ds ∧ zN cv' a'.n ∧ o = some (st.set K (a'.mk' dv' cv').obj) ∧ v = .tup [] ∧ Ansd a 0 p.id a') by
  obtain ⟨v, o, k, a', dv', cv', x1, x2, rfl, x3⟩ := h
  exact ⟨v, a', dv', cv', x1, x2, k, x3⟩
 have hlt := hs.lt
 have F0 := sF hs
 have e1 := zx p.data
 obtain ⟨f1, f2, f3, f4, f5, f6⟩ := ha.fit 0
 obtain ⟨e, ke, he⟩ := nL (a.link 0) p n hp hn f6
 have he17 : e < 17 := by rcases he with rfl | rfl | rfl <;> decide
 have hall : ∃ dv' cv', zK dv' (zk (a.xa 0 { a.link 0 with zm := true }) 0 e p.id []).1.ds ∧ zN cv' (zk (a.xa 0 { a.link 0 with zm := true }) 0 e p.id []).1.n ∧
  zq D.W 52 [.ptr K 0, .int .i64 0, .int .i64 e, .int .i64 p.id, .str []] (stW st K ((a.xa 0 { a.link 0 with zm := true }).mk' dv.stay cv.stay).obj [.cells 57 p.cells]) = some (.bool (zk (a.xa 0 { a.link 0 with zm := true }) 0 e p.id []).2, some (stW st K ((zk (a.xa 0 { a.link 0 with zm := true }) 0 e p.id []).1.mk' dv' cv').obj [.cells 57 p.cells])) := by
  obtain ⟨dv', cv', x1, x2, k⟩ := uq (qp hs (a.xa 0 { a.link 0 with zm := true }) dv.stay cv.stay hdv.stay hcv.stay [.cells 57 p.cells] (by simp [zE.cells, LVal.zb, LVal.within]) (by simp [zE.cells])) (a.xa 0 { a.link 0 with zm := true }) (ha.xa 0 { a.link 0 with zm := true } ⟨f1, f2, f3, f4, f5, f6⟩) dv.stay cv.stay hdv.stay hcv.stay (xM hs _ _) 0 (by decide) e he17 p.id []
  rw [zz hs] at k
  exact ⟨dv', cv', x1, x2, k⟩
 have al : ∀ (a : AW) (dv cv : LVal), zK dv a.ds → zN cv a.n → ∀ x ∈ stW st K (a.mk' dv cv).obj [], zt.within N x = true := fun a dv cv x y => xm hs (zw.within _ x y N)
 obtain ⟨dv', cv', x1, x2, k⟩ := hall
 have al0 := al a dv.stay cv.stay hdv.stay hcv.stay
 have al1 := al _ dv' cv' x1 x2
 have ho : (zk (a.xa 0 { a.link 0 with zm := true }) 0 e p.id []).1.l0.opts.length ≤ 70000 := by rw [(sR _ _ _ _ _).1]; exact ha.a0.2.2.2.2.2
 generalize hA : zk (a.xa 0 { a.link 0 with zm := true }) 0 e p.id [] = A at *
 obtain ⟨a1, q⟩ := A
 dsimp only at *
 have e3 : a1.l0.opts.length ≤ 140737488355328 := by omega
 have e4 := zx a1.l0.opts
 obtain ⟨t, kt⟩ := oR false 1 a1.l0.opts Wb.one ho
 have al2 := al { a1 with g := { a1.g with ours := t } } dv' cv' x1 x2
 have hl : a.link 0 = a.l0 := rfl
 have hset : a.xa 0 { a.link 0 with zm := true } = { a with l0 := { a.l0 with zm := true } } := rfl
 rw [hl] at ke
 rw [hset] at k
 rw [zC hK]
 unfold AW.mk' zw.obj zw.cells zg.cells zA.cells zl.cells zE.cells at *
 simp only [List.cons_append, List.nil_append] at *
 rcases he with rfl | rfl | rfl
 ·have ke' : zq D.W 149 _ [] = some (.int .i64 0, none) := ke
  have F := an F0 (an e1 (an e3 (an ke' (eq_true al0))))
  refine Ret.of wk ?_
  exact ⟨a, dv.stay, cv.stay, hdv.stay, hcv.stay, by rw [zz hs], rfl, .inl rfl⟩
 ·have ke' : zq D.W 149 _ [] = some (.int .i64 9, none) := ke
  have k' : zq D.W 52 [.ptr K 0, .int .i64 0, .int .i64 9, _, _] _ = _ := k
  have F := an F0 (an e1 (an e3 (an ke' (an k' (an kt (an e4 (an mb' (eq_true al2))))))))
  refine Ret.of wk ?_
  exact ⟨{ a1 with g := { a1.g with ours := t } }, dv', cv', x1, x2, by rw [zz hs], rfl, .inr ⟨9, .inl rfl, .inr ⟨rfl, rfl, t, by rw [hA]⟩⟩⟩
 ·have ke' : zq D.W 149 _ [] = some (.int .i64 10, none) := ke
  have k' : zq D.W 52 [.ptr K 0, .int .i64 0, .int .i64 10, _, _] _ = _ := k
  have F := an F0 (an e1 (an e3 (an ke' (an k' (eq_true al1)))))
  refine Ret.of wk ?_
  exact ⟨a1, dv', cv', x1, x2, by rw [zz hs], rfl, .inr ⟨10, .inr rfl, .inl (by rw [hA])⟩⟩
set_option maxHeartbeats 40000000 in
theorem kE {N K : Nat} {st : List zt} (hs : xA N K st) (a : AW) (ha : a.ok 90000) (dv cv : LVal) (hdv : zK dv a.ds) (hcv : zN cv a.n) (hK : st[K]? = some (a.mk' dv cv).obj) (p : zE) (n : Nat) (hp : p.wf n) (hn : n ≤ 70000) :
 Leaves 139 [.ptr K 0, .int .i64 1, .agg p.cells] st K (fun v a' => v = .tup [] ∧ Ansd a 1 p.id a') := by
 suffices h : Ret D.W 139 [.ptr K 0, .int .i64 1, .agg p.cells] st (fun v o => ∃ a' dv' cv', zK dv' a'.ds ∧ zN cv' a'.n ∧ o = some (st.set K (a'.mk' dv' cv').obj) ∧ v = .tup [] ∧ Ansd a 1 p.id a') by
  obtain ⟨v, o, k, a', dv', cv', x1, x2, rfl, x3⟩ := h
  exact ⟨v, a', dv', cv', x1, x2, k, x3⟩
 have hlt := hs.lt
 have F0 := sF hs
 have e1 := zx p.data
 obtain ⟨f1, f2, f3, f4, f5, f6⟩ := ha.fit 1
 obtain ⟨e, ke, he⟩ := nL (a.link 1) p n hp hn f6
 have he17 : e < 17 := by rcases he with rfl | rfl | rfl <;> decide
 have hall : ∃ dv' cv', zK dv' (zk (a.xa 1 { a.link 1 with zm := true }) 1 e p.id []).1.ds ∧ zN cv' (zk (a.xa 1 { a.link 1 with zm := true }) 1 e p.id []).1.n ∧
  zq D.W 52 [.ptr K 0, .int .i64 1, .int .i64 e, .int .i64 p.id, .str []] (stW st K ((a.xa 1 { a.link 1 with zm := true }).mk' dv.stay cv.stay).obj [.cells 57 p.cells]) = some (.bool (zk (a.xa 1 { a.link 1 with zm := true }) 1 e p.id []).2, some (stW st K ((zk (a.xa 1 { a.link 1 with zm := true }) 1 e p.id []).1.mk' dv' cv').obj [.cells 57 p.cells])) := by
  obtain ⟨dv', cv', x1, x2, k⟩ := uq (qp hs (a.xa 1 { a.link 1 with zm := true }) dv.stay cv.stay hdv.stay hcv.stay [.cells 57 p.cells] (by simp [zE.cells, LVal.zb, LVal.within]) (by simp [zE.cells])) (a.xa 1 { a.link 1 with zm := true }) (ha.xa 1 { a.link 1 with zm := true } ⟨f1, f2, f3, f4, f5, f6⟩) dv.stay cv.stay hdv.stay hcv.stay (xM hs _ _) 1 (by decide) e he17 p.id []
  rw [zz hs] at k
  exact ⟨dv', cv', x1, x2, k⟩
 have al : ∀ (a : AW) (dv cv : LVal), zK dv a.ds → zN cv a.n → ∀ x ∈ stW st K (a.mk' dv cv).obj [], zt.within N x = true := fun a dv cv x y => xm hs (zw.within _ x y N)
 obtain ⟨dv', cv', x1, x2, k⟩ := hall
 have al0 := al a dv.stay cv.stay hdv.stay hcv.stay
 have al1 := al _ dv' cv' x1 x2
 have ho : (zk (a.xa 1 { a.link 1 with zm := true }) 1 e p.id []).1.l0.opts.length ≤ 70000 := by rw [(sR _ _ _ _ _).1]; exact ha.a0.2.2.2.2.2
 generalize hA : zk (a.xa 1 { a.link 1 with zm := true }) 1 e p.id [] = A at *
 obtain ⟨a1, q⟩ := A
 dsimp only at *
 have e3 : a1.l0.opts.length ≤ 140737488355328 := by omega
 have e4 := zx a1.l0.opts
 obtain ⟨t, kt⟩ := oR false 1 a1.l0.opts Wb.one ho
 have al2 := al { a1 with g := { a1.g with ours := t } } dv' cv' x1 x2
 have hl : a.link 1 = a.l1 := rfl
 have hset : a.xa 1 { a.link 1 with zm := true } = { a with l1 := { a.l1 with zm := true } } := rfl
 rw [hl] at ke
 rw [hset] at k
 rw [zC hK]
 unfold AW.mk' zw.obj zw.cells zg.cells zA.cells zl.cells zE.cells at *
 simp only [List.cons_append, List.nil_append] at *
 rcases he with rfl | rfl | rfl
 ·have ke' : zq D.W 149 _ [] = some (.int .i64 0, none) := ke
  have F := an F0 (an e1 (an e3 (an ke' (eq_true al0))))
  refine Ret.of wk ?_
  exact ⟨a, dv.stay, cv.stay, hdv.stay, hcv.stay, by rw [zz hs], rfl, .inl rfl⟩
 ·have ke' : zq D.W 149 _ [] = some (.int .i64 9, none) := ke
  have k' : zq D.W 52 [.ptr K 0, .int .i64 1, .int .i64 9, _, _] _ = _ := k
  have F := an F0 (an e1 (an e3 (an ke' (an k' (an kt (an e4 (an mb' (eq_true al1))))))))
  refine Ret.of wk ?_
  exact ⟨a1, dv', cv', x1, x2, by rw [zz hs], rfl, .inr ⟨9, .inl rfl, .inl (by rw [hA])⟩⟩
 ·have ke' : zq D.W 149 _ [] = some (.int .i64 10, none) := ke
  have k' : zq D.W 52 [.ptr K 0, .int .i64 1, .int .i64 10, _, _] _ = _ := k
  have F := an F0 (an e1 (an e3 (an ke' (an k' (eq_true al1)))))
  refine Ret.of wk ?_
  exact ⟨a1, dv', cv', x1, x2, by rw [zz hs], rfl, .inr ⟨10, .inr rfl, .inl (by rw [hA])⟩⟩
set_option maxHeartbeats 40000000 in
theorem kD {N K : Nat} {st : List zt} (hs : xA N K st) (a : AW) (ha : a.ok 90000) (dv cv : LVal) (hdv : zK dv a.ds) (hcv : zN cv a.n) (hK : st[K]? = some (a.mk' dv cv).obj) (p : zE) (n : Nat) (hp : p.wf n) (hn : n ≤ 70000) :
 Leaves 139 [.ptr K 0, .int .i64 2, .agg p.cells] st K (fun v a' => v = .tup [] ∧ Ansd a 2 p.id a') := by
 suffices h : Ret D.W 139 [.ptr K 0, .int .i64 2, .agg p.cells] st (fun v o => ∃ a' dv' cv', zK dv' a'.ds ∧ zN cv' a'.n ∧ o = some (st.set K (a'.mk' dv' cv').obj) ∧ v = .tup [] ∧ Ansd a 2 p.id a') by
  obtain ⟨v, o, k, a', dv', cv', x1, x2, rfl, x3⟩ := h
  exact ⟨v, a', dv', cv', x1, x2, k, x3⟩
 have hlt := hs.lt
 have F0 := sF hs
 have e1 := zx p.data
 obtain ⟨f1, f2, f3, f4, f5, f6⟩ := ha.fit 2
 obtain ⟨e, ke, he⟩ := nL (a.link 2) p n hp hn f6
 have he17 : e < 17 := by rcases he with rfl | rfl | rfl <;> decide
 have hall : ∃ dv' cv', zK dv' (zk (a.xa 2 { a.link 2 with zm := true }) 2 e p.id []).1.ds ∧ zN cv' (zk (a.xa 2 { a.link 2 with zm := true }) 2 e p.id []).1.n ∧
  zq D.W 52 [.ptr K 0, .int .i64 2, .int .i64 e, .int .i64 p.id, .str []] (stW st K ((a.xa 2 { a.link 2 with zm := true }).mk' dv.stay cv.stay).obj [.cells 57 p.cells]) = some (.bool (zk (a.xa 2 { a.link 2 with zm := true }) 2 e p.id []).2, some (stW st K ((zk (a.xa 2 { a.link 2 with zm := true }) 2 e p.id []).1.mk' dv' cv').obj [.cells 57 p.cells])) := by
  obtain ⟨dv', cv', x1, x2, k⟩ := uq (qp hs (a.xa 2 { a.link 2 with zm := true }) dv.stay cv.stay hdv.stay hcv.stay [.cells 57 p.cells] (by simp [zE.cells, LVal.zb, LVal.within]) (by simp [zE.cells])) (a.xa 2 { a.link 2 with zm := true }) (ha.xa 2 { a.link 2 with zm := true } ⟨f1, f2, f3, f4, f5, f6⟩) dv.stay cv.stay hdv.stay hcv.stay (xM hs _ _) 2 (by decide) e he17 p.id []
  rw [zz hs] at k
  exact ⟨dv', cv', x1, x2, k⟩
 have al : ∀ (a : AW) (dv cv : LVal), zK dv a.ds → zN cv a.n → ∀ x ∈ stW st K (a.mk' dv cv).obj [], zt.within N x = true := fun a dv cv x y => xm hs (zw.within _ x y N)
 obtain ⟨dv', cv', x1, x2, k⟩ := hall
 have al0 := al a dv.stay cv.stay hdv.stay hcv.stay
 have al1 := al _ dv' cv' x1 x2
 have ho : (zk (a.xa 2 { a.link 2 with zm := true }) 2 e p.id []).1.l0.opts.length ≤ 70000 := by rw [(sR _ _ _ _ _).1]; exact ha.a0.2.2.2.2.2
 generalize hA : zk (a.xa 2 { a.link 2 with zm := true }) 2 e p.id [] = A at *
 obtain ⟨a1, q⟩ := A
 dsimp only at *
 have e3 : a1.l0.opts.length ≤ 140737488355328 := by omega
 have e4 := zx a1.l0.opts
 obtain ⟨t, kt⟩ := oR false 1 a1.l0.opts Wb.one ho
 have al2 := al { a1 with g := { a1.g with ours := t } } dv' cv' x1 x2
 have hl : a.link 2 = a.l2 := rfl
 have hset : a.xa 2 { a.link 2 with zm := true } = { a with l2 := { a.l2 with zm := true } } := rfl
 rw [hl] at ke
 rw [hset] at k
 rw [zC hK]
 unfold AW.mk' zw.obj zw.cells zg.cells zA.cells zl.cells zE.cells at *
 simp only [List.cons_append, List.nil_append] at *
 rcases he with rfl | rfl | rfl
 ·have ke' : zq D.W 149 _ [] = some (.int .i64 0, none) := ke
  have F := an F0 (an e1 (an e3 (an ke' (eq_true al0))))
  refine Ret.of wk ?_
  exact ⟨a, dv.stay, cv.stay, hdv.stay, hcv.stay, by rw [zz hs], rfl, .inl rfl⟩
 ·have ke' : zq D.W 149 _ [] = some (.int .i64 9, none) := ke
  have k' : zq D.W 52 [.ptr K 0, .int .i64 2, .int .i64 9, _, _] _ = _ := k
  have F := an F0 (an e1 (an e3 (an ke' (an k' (an kt (an e4 (an mb' (eq_true al1))))))))
  refine Ret.of wk ?_
  exact ⟨a1, dv', cv', x1, x2, by rw [zz hs], rfl, .inr ⟨9, .inl rfl, .inl (by rw [hA])⟩⟩
 ·have ke' : zq D.W 149 _ [] = some (.int .i64 10, none) := ke
  have k' : zq D.W 52 [.ptr K 0, .int .i64 2, .int .i64 10, _, _] _ = _ := k
  have F := an F0 (an e1 (an e3 (an ke' (an k' (eq_true al1)))))
  refine Ret.of wk ?_
  exact ⟨a1, dv', cv', x1, x2, by rw [zz hs], rfl, .inr ⟨10, .inr rfl, .inl (by rw [hA])⟩⟩
end Go.Proofs.YtpfnlpakcldobaaGreat
