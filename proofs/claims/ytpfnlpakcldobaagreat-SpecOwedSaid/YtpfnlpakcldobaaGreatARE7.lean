/- Texts of the proof: RE6 RE7. -/
import Derived.Test.YtpfnlpakcldobaaGreatARC
import Derived.Test.YtpfnlpakcldobaaGreatARM
set_option linter.unusedVariables false
set_option linter.unusedSimpArgs false
set_option linter.unusedSectionVars false
namespace Go.Proofs.YtpfnlpakcldobaaGreat
open Go Go.L
theorem fn61 : D.W.fns 61 = some (.fn D.l61) := rfl
set_option maxHeartbeats 8000000 in
theorem chapRead_ex (b : Bool) (m : Nat) (l : List UInt8) (hm : Wb b m l) (hl : l.length ≤ 70000) : ∃ b' m' v s e, zq D.W 78 [.vs b .sh m (zy l)] [] = some (.tup [.agg [.vs b' .sh m' (zy v), .str s], .int .i64 e], none) ∧ Wb b' m' v ∧ v.length ≤ l.length := by
 suffices h : Ret D.W 78 [.vs b .sh m (zy l)] [] (fun v o => o = none ∧ ∃ b' m' x s e, v = .tup [.agg [.vs b' .sh m' (zy x), .str s], .int .i64 e] ∧ Wb b' m' x ∧ x.length ≤ l.length) by
  obtain ⟨v, k, b', m', x, s, e, rfl, h⟩ := h.ex
  exact ⟨b', m', x, s, e, k, h⟩
 have e2 := zx l
 have e3 := ze l
 by_cases hne : l = []
 ·subst hne
  have F := xz
  refine Ret.of wk ?_
  exact ⟨rfl, true, 0, [], _, _, rfl, Wb.nil, Nat.zero_le _⟩
 ·obtain ⟨rfl, rfl⟩ := hm.ne hne
  have hpos : 0 < l.length := List.length_pos_iff.2 hne
  have h0 : ¬ (l.length : Int) = 0 := by omega
  have g0 : (zy l)[0]? = some (.int .u8 (((l.getD 0 0).toNat : Nat) : Int)) := by rw [vB, List.getElem?_eq_getElem hpos, sj hpos]; rfl
  have g0' : ∀ h, (zy l)[0]'h = .int .u8 (((l.getD 0 0).toNat : Nat) : Int) := fun h => by have := List.getElem?_eq_getElem h; rw [g0] at this; exact (Option.some.inj this).symm
  have t0 := oa (l.getD 0 0)
  have hb0 := (l.getD 0 0).toNat_lt
  generalize ((l.getD 0 0).toNat : Nat) = b0 at *
  have c1 : (1 : Int) ≤ l.length := by omega
  have c2 : 1 ≤ l.length := by omega
  have d1 : (zy l).drop 1 = zy (l.drop 1) := xK l 1
  have d2 : ((zy l).take l.length).drop 1 = zy (l.drop 1) := by rw [wD, List.take_length, xK]
  have hr : (l.drop 1).length + 1 = l.length := by simp; omega
  generalize l.drop 1 = r at *
  have e4 := ze r
  by_cases h1 : b0 = 0
  ·have w0 : IntKind.i64.wrap 0 = 0 := rfl
   have F := an e3 (an hne (an hpos (an h0 (an g0 (an g0' (an t0 (an c1 (an c2 (an d1 (an d2 (an e4 (an h1 w0))))))))))))
   refine Ret.of wk ?_
   exact ⟨rfl, true, 0, [], _, _, rfl, Wb.nil, Nat.zero_le _⟩
  ·by_cases h2 : (r.length : Int) < b0
   ·have F := an e3 (an hne (an hpos (an h0 (an g0 (an g0' (an t0 (an c1 (an c2 (an d1 (an d2 (an e4 (an h1 h2))))))))))))
    refine Ret.of wk ?_
    exact ⟨rfl, true, 0, [], _, _, rfl, Wb.nil, Nat.zero_le _⟩
   ·have w1 : IntKind.i64.wrap ((r.length : Int) - b0) = (r.length : Int) - b0 := vG (by omega) (by omega)
    by_cases h3 : (65526 : Int) < (r.length : Int) - b0
    ·have F := an e3 (an hne (an hpos (an h0 (an g0 (an g0' (an t0 (an c1 (an c2 (an d1 (an d2 (an e4 (an h1 (an h2 (an w1 h3))))))))))))))
     refine Ret.of wk ?_
     exact ⟨rfl, true, 0, [], _, _, rfl, Wb.nil, Nat.zero_le _⟩
    ·have k := lq false 1 (r.take b0) Wb.one (by rw [mb']; simp; omega)
     have d3 : (zy r).take b0 = zy (r.take b0) := wD r b0
     have d4 : (zy r).drop b0 = zy (r.drop b0) := xK r b0
     have d5 : ((zy r).take r.length).drop b0 = zy (r.drop b0) := by rw [wD, List.take_length, xK]
     have d6 := yq (r.drop b0)
     have e5 := zx (r.take b0)
     have q1 : 0 ≤ (b0 : Int) ∧ (b0 : Int) ≤ (r.length : Int) := by omega
     have q2 : (b0 : Int) ≤ (r.length : Int) := by omega
     have q3 : b0 ≤ r.length := by omega
     have hlen : (r.take b0).length ≤ l.length := by simp; omega
     generalize r.take b0 = x at *
     generalize r.drop b0 = y at *
     have F := an e3 (an hne (an hpos (an h0 (an g0 (an g0' (an t0 (an c1 (an c2 (an d1 (an d2 (an e4 (an h1 (an h2 (an w1 (an h3 (an k (an d3 (an d4 (an d5 (an d6 (an e5 (an q1 (an q2 q3)))))))))))))))))))))))
     refine Ret.of wk ?_
     exact ⟨rfl, _, _, _, _, _, rfl, Wb.one, hlen⟩
set_option maxHeartbeats 4000000 in
theorem oU (p : zE) (n : Nat) (hp : p.wf n) (hn : n ≤ 70000) : ∃ b m v ok, zq D.W 61 [.agg p.cells] [] = some (.tup [.vs b .sh m (zy v), .bool ok], none) ∧ Wb b m v ∧ v.length ≤ p.data.length := by
 obtain ⟨_, _, _, _, hw, hl⟩ := hp
 obtain ⟨b, m, v, s, e, k, h⟩ := chapRead_ex p.nil p.m p.data hw (by omega)
 have e2 := zx p.data
 have e3 := zx v
 rw [yF fn61]
 exact ⟨b, m, v, e == 0, by simp [D.l61, D.c61, zE.cells, go_sem, k, e2, e3], h⟩
end Go.Proofs.YtpfnlpakcldobaaGreat
namespace Go.Proofs.YtpfnlpakcldobaaGreat
open Go Go.L
theorem kH {xs : List LVal} (hl : xs.length = 16) (h : ∀ x ∈ xs, ∃ n, x = .int .u8 n) : Flat 16 xs := by
 refine ⟨hl, fun x hx => by obtain ⟨n, rfl⟩ := h x hx; rfl, ?_, ?_⟩
 ·clear hl
  induction xs with
  | nil => rfl
  | cons x xs ih =>
   obtain ⟨n, rfl⟩ := h x (List.mem_cons_self ..)
   simp only [LVal.pfs, LVal.pf, Bool.true_and]
   exact ih fun y hy => h y (List.mem_cons_of_mem _ hy)
 ·conv => rhs; rw [← List.map_id xs]
  exact List.map_congr_left fun x hx => by obtain ⟨n, rfl⟩ := h x hx; rfl
set_option maxHeartbeats 4000000 in
theorem answer_ex (id : Int) (s : List UInt8) (b : Bool) (m : Nat) (l : List UInt8) (hs : s.length ≤ 70000) (hw : Wb b m l) (hl : l.length ≤ 70000) :
 ∃ xs : List LVal, zq D.W 79 [.int .i64 id, .str s, .vs b .sh m (zy l)] [] = some (.agg xs, none) ∧ xs.length = 16 ∧ ∀ x ∈ xs, ∃ n, x = .int .u8 n := by
 suffices h : Ret D.W 79 [.int .i64 id, .str s, .vs b .sh m (zy l)] [] (fun v o => o = none ∧ ∃ xs : List LVal, v = .agg xs ∧ xs.length = 16 ∧ ∀ x ∈ xs, ∃ n, x = .int .u8 n) by
  obtain ⟨v, k, xs, rfl, h⟩ := h.ex
  exact ⟨xs, k, h⟩
 obtain ⟨b0, w0⟩ := tg id
 obtain ⟨xs, k', hx, hu⟩ := sum_ex [b0] s b m l (by simp) hs hw hl
 have k : zq D.W 90 [.vs false .sh 1 [.vs false .sh 1 [.int .u8 b0.toNat], .vs false .sh 1 (zy s), .vs b .sh m (zy l)]] [] = some (.agg xs, none) := k'
 obtain ⟨a1, a2, a3, a4, a5, a6, a7, a8, a9, a10, a11, a12⟩ := (kH hx hu).fx
 have e1 := zx s
 have e2 := zx l
 have e3 : s.length ≤ 140737488355328 := by omega
 have F := an k (an w0 (an e1 (an e2 (an e3 (an mb' (an a1 (an a2 (an (eq_true a3) (an (eq_true a4) (an (eq_true a5) (an a6 (an a7 (an a8 (an a9 (an a10 (an a11 a12))))))))))))))))
 refine Ret.of wk ?_
 exact ⟨rfl, xs, rfl, hx, hu⟩
theorem nC : ∀ (n : Nat) (xs : List LVal), xs.length = n → (∀ x ∈ xs, ∃ k, x = .int .u8 k) → ym (List.replicate n (.i .u8)) xs = true
 | 0, xs, hl, h => by
  have := List.length_eq_zero_iff.1 hl; subst this; rfl
 | n + 1, [], hl, h => by simp at hl
 | n + 1, x :: xs, hl, h => by
  obtain ⟨k, rfl⟩ := h x (List.mem_cons_self ..)
  simp only [List.replicate_succ, ym, xh, decide_true, Bool.true_and]
  exact nC n xs (by simpa using hl) fun y hy => h y (List.mem_cons_of_mem _ hy)
theorem eq_u8 : ∀ (xs ys : List LVal), xs.length = ys.length → (∀ x ∈ xs, ∃ k, x = .int .u8 k) → (∀ x ∈ ys, ∃ k, x = .int .u8 k) → ∃ q, yQ xs ys = some q
 | [], [], _, _, _ => ⟨true, rfl⟩
 | [], y :: ys, h, _, _ => by simp at h
 | x :: xs, [], h, _, _ => by simp at h
 | x :: xs, y :: ys, h, h1, h2 => by
  obtain ⟨a, rfl⟩ := h1 x (List.mem_cons_self ..)
  obtain ⟨b, rfl⟩ := h2 y (List.mem_cons_self ..)
  obtain ⟨q, hq⟩ := eq_u8 xs ys (by simpa using h) (fun y hy => h1 y (List.mem_cons_of_mem _ hy)) (fun y hy => h2 y (List.mem_cons_of_mem _ hy))
  exact ⟨(a == b) && q, by simp only [yQ, eqS, if_true, Option.bind_some, hq, Option.map_some]⟩
theorem lz (l : List UInt8) : ∀ x ∈ zy l, ∃ k, x = .int .u8 k := by
 intro x hx
 obtain ⟨b, _, rfl⟩ := List.mem_map.1 hx
 exact ⟨_, rfl⟩
theorem nI : ∀ (l : List UInt8), (zy l).flatMap LVal.cells = zy l
 | [] => rfl
 | b :: l => by
  have := nI l
  simp only [zy, List.map_cons, List.flatMap_cons] at this ⊢
  rw [this]; rfl
set_option maxHeartbeats 8000000 in
theorem kV (id : Int) (s : List UInt8) (b : Bool) (m : Nat) (l : List UInt8) (b' : Bool) (m' : Nat) (l' : List UInt8) (hs : s.length ≤ 70000) (hw : Wb b m l) (hl : l.length ≤ 70000) (hw' : Wb b' m' l') (hl' : l'.length ≤ 70000) :
 ∃ q : Bool, zq D.W 62 [.int .i64 id, .str s, .vs b .sh m (zy l), .vs b' .sh m' (zy l')] [] = some (.bool q, none) := by
 suffices h : Ret D.W 62 [.int .i64 id, .str s, .vs b .sh m (zy l), .vs b' .sh m' (zy l')] [] (fun v o => o = none ∧ ∃ q : Bool, v = .bool q) by
  obtain ⟨v, k, q, rfl⟩ := h.ex
  exact ⟨q, k⟩
 obtain ⟨xs, k, hx, hu⟩ := answer_ex id s b m l hs hw hl
 have e1 := zx l
 have e2 := zx l'
 have e3 := ze l'
 by_cases h : l'.length = 16
 ·obtain ⟨rfl, rfl⟩ := hw'.ne (fun e => by subst e; simp at h)
  have hl16 : (zy l').length = 16 := by rw [e3, h]
  have h1 : ym [.i .u8, .i .u8, .i .u8, .i .u8, .i .u8, .i .u8, .i .u8, .i .u8, .i .u8, .i .u8, .i .u8, .i .u8, .i .u8, .i .u8, .i .u8, .i .u8] xs = true := nC 16 xs hx hu
  have h2 : ym [.i .u8, .i .u8, .i .u8, .i .u8, .i .u8, .i .u8, .i .u8, .i .u8, .i .u8, .i .u8, .i .u8, .i .u8, .i .u8, .i .u8, .i .u8, .i .u8] (zy l') = true := nC 16 _ hl16 (lz l')
  obtain ⟨q, hq⟩ := eq_u8 (zy l') xs (by rw [hl16, hx]) (lz l') hu
  have e4 : (zy l').take 16 = zy l' := List.take_of_length_le (by omega)
  have e5 := nI l'
  have e6 := (kH hx hu).pfs
  have hi : (l'.length : Int) = 16 := by omega
  have F := an k (an e1 (an e2 (an e3 (an h (an hi (an h1 (an h2 (an hq (an e4 (an e5 (an e6 hl16)))))))))))
  refine Ret.of wk ?_
  exact ⟨rfl, _, rfl⟩
 ·have hi : ¬ (l'.length : Int) = 16 := by omega
  have F := an k (an e1 (an e2 (an e3 (an h hi))))
  refine Ret.of wk ?_
  exact ⟨rfl, _, rfl⟩
end Go.Proofs.YtpfnlpakcldobaaGreat
