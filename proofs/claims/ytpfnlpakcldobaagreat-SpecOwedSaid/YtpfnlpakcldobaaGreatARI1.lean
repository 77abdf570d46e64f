/- Texts of the proof: RH2 RI1. -/
import Derived.Test.YtpfnlpakcldobaaGreatARH1
import Derived.Test.YtpfnlpakcldobaaGreatARS1
import Derived.Test.YtpfnlpakcldobaaGreatARE9
set_option linter.unusedVariables false
set_option linter.unusedSimpArgs false
set_option linter.unusedSectionVars false
namespace Go.Proofs.YtpfnlpakcldobaaGreat
open Go Go.L
theorem sP : ∀ s, s < 10 → ∀ e, e < 17 → (look s e).2.1.length ≤ 3 ∧ (look s e).1 < 10 := by decide
def se (s e : Nat) (r : Int) : Bool := (look s e).2.2 && !(e == 5 && r == 0) && !(e == 6 && decide (0 < r))
theorem sb (a : List Nat) : actsV a = if a = [] then .vs true .sh 0 [] else .vs false .sh 1 (wx a) := by
 cases a <;> rfl
set_option maxHeartbeats 16000000 in
theorem pB (c : zg) (s e : Nat) (hs : s < 10) (he : e < 17) (r : Int) (hr : i16 r) (h : se s e r = false) :
 zq D.W 65 [.agg c.cells, .agg [.int .i64 s, .int .i64 r], .int .i64 e] [] = some (.tup [.agg [.int .i64 0, .int .i64 0], .vs true .sh 0 [], .bool false], none) := by
 refine Ret.eq ?_
 have k := toW (look_eq hs he)
 simp only [tk, sb] at k
 unfold se at h
 generalize (look s e).2.2 = q at *
 generalize (look s e).1 = nx at *
 generalize (look s e).2.1 = a at *
 unfold zg.cells
 cases q with
 | false =>
  by_cases ha : a = []
  ·rw [if_pos ha] at k
   have F := k
   refine Ret.of wk ?_
   exact ⟨rfl, rfl⟩
  ·rw [if_neg ha] at k
   have e1 := vp a
   have F := an k e1
   refine Ret.of wk ?_
   exact ⟨rfl, rfl⟩
 | true =>
  by_cases h5 : e = 5
  ·subst h5
   have h0 : r = 0 := by simpa using h
   subst h0
   by_cases ha : a = []
   ·rw [if_pos ha] at k
    have k' : zq D.W 83 [.int .i64 s, .int .i64 5] [] = _ := k
    have F := k'
    refine Ret.of wk ?_
    exact ⟨rfl, rfl⟩
   ·rw [if_neg ha] at k
    have k' : zq D.W 83 [.int .i64 s, .int .i64 5] [] = _ := k
    have e1 := vp a
    have F := an k' e1
    refine Ret.of wk ?_
    exact ⟨rfl, rfl⟩
  ·have h5' : ¬ (e : Int) = 5 := by omega
   by_cases h6 : e = 6
   ·subst h6
    have h0 : 0 < r := by simpa using h
    by_cases ha : a = []
    ·rw [if_pos ha] at k
     have k' : zq D.W 83 [.int .i64 s, .int .i64 6] [] = _ := k
     have F := an k' h0
     refine Ret.of wk ?_
     exact ⟨rfl, rfl⟩
    ·rw [if_neg ha] at k
     have k' : zq D.W 83 [.int .i64 s, .int .i64 6] [] = _ := k
     have e1 := vp a
     have F := an k' (an e1 h0)
     refine Ret.of wk ?_
     exact ⟨rfl, rfl⟩
   ·exfalso
    have g1 : (e == 5) = false := by simpa using h5
    have g2 : (e == 6) = false := by simpa using h6
    simp [g1, g2] at h
set_option maxHeartbeats 16000000 in
theorem pA (c : zg) (hc1 : i16 c.mc) (hc2 : i16 c.mt) (s e : Nat) (hs : s < 10) (he : e < 17) (r : Int) (hr : i16 r) (h : se s e r = true) :
 zq D.W 65 [.agg c.cells, .agg [.int .i64 s, .int .i64 r], .int .i64 e] [] = some (.tup [.agg [.int .i64 (look s e).1, .int .i64 (uv c.mc c.mt (look s e).2.1 r)], actsV (look s e).2.1, .bool true], none) := by
 refine Ret.eq ?_
 have k := toW (look_eq hs he)
 obtain ⟨hsm, _⟩ := sP s hs e he
 simp only [tk, sb] at k ⊢
 unfold se at h
 generalize (look s e).2.2 = q at *
 generalize (look s e).1 = nx at *
 generalize (look s e).2.1 = a at *
 have hq : q = true := by cases q <;> simp_all
 subst hq
 have hcond : (¬ (e : Int) = 5 ∨ ¬ r = 0) ∧ (¬ (e : Int) = 6 ∨ ¬ 0 < r) := by
  simp at h
  constructor
  ·rcases h.1 with g | g
   ·exact .inl (by omega)
   ·exact .inr g
  ·rcases h.2 with g | g
   ·exact .inl (by omega)
   ·exact .inr (by omega)
 clear h
 obtain ⟨g1, g2⟩ := hcond
 have e1 := vp a
 have e4 := ur a
 have e7 := wA
 have hcc : c.cells = [.int .i64 c.mc, .int .i64 c.mt, .int .i64 c.mf, .int .i64 c.mru, .str c.s1, .str c.s2, .int .i64 c.n, .int .u32 c.m, .bool c.b] := rfl
 by_cases ha : a = []
 ·subst ha
  simp only [if_true] at k ⊢
  rw [hcc]
  refine yU fn65 rfl (fun _ => ?_) ?_
  ·simp [LVal.pfs, LVal.pf]
  simp only [Go.L.zc, List.map_cons, List.map_nil, Option.bind_some, Option.bind_none, Option.getD_some, Option.getD_none, List.getElem?_cons_zero, List.getElem?_cons_succ, zY.zH, if_true, Bool.false_eq_true, if_false, ite_self]
  unfold D.c65
  unfold D.r65_0
  unfold D.b65_1
  by_cases h5 : (e : Int) = 5
  ·have hr0 : ¬ r = 0 := by rcases g1 with g | g; exact absurd h5 g; exact g
   have h6 : ¬ (e : Int) = 6 := by omega
   have h5n : e = 5 := by omega
   subst h5n
   have k' : zq D.W 83 [.int .i64 s, .int .i64 5] [] = _ := k
   (have F := an k' hr0; refine mi ?_)
   (have F : True := trivial; refine fnw ?_)
   exact ⟨rfl, rfl⟩
  ·by_cases h6 : (e : Int) = 6
   ·have hr0 : ¬ 0 < r := by rcases g2 with g | g; exact absurd h6 g; exact g
    have h6n : e = 6 := by omega
    subst h6n
    have k' : zq D.W 83 [.int .i64 s, .int .i64 6] [] = _ := k
    (have F := an k' hr0; refine mi ?_)
    (have F : True := trivial; refine fnw ?_)
    exact ⟨rfl, rfl⟩
   ·have h5n : ¬ e = 5 := by omega
    have h6n : ¬ e = 6 := by omega
    (have F := an k (an h5 (an h6 (an h5n h6n))); refine mi ?_)
    (have F : True := trivial; refine fnw ?_)
    exact ⟨rfl, rfl⟩
 ·simp only [if_neg ha] at k ⊢
  have tail : ∀ v0 v1 v2 v6 v7 v8 v10 : LVal, v0.zr = false → v1.zr = false → v2.zr = false → v6.zr = false → v7.zr = false → v8.zr = false → v10.zr = false → ∀ Q, _ := fun v0 v1 v2 v6 v7 v8 v10 o0 o1 o2 o6 o7 o8 o10 Q hE => loop65 c hc1 hc2 a (by omega) e nx ha Q (uv c.mc c.mt a r) hE a.length 0 v0 v1 v2 v6 v7 v8 v10 .undef .undef (.bool false) r (by omega) o0 o1 o2 o6 o7 o8 o10 rfl rfl rfl hr (by rw [List.drop_zero])
  rw [hcc] at *
  refine yU fn65 rfl (fun _ => ?_) ?_
  ·simp [LVal.pfs, LVal.pf]
  simp only [Go.L.zc, List.map_cons, List.map_nil, Option.bind_some, Option.bind_none, Option.getD_some, Option.getD_none, List.getElem?_cons_zero, List.getElem?_cons_succ, zY.zH, if_true, Bool.false_eq_true, if_false, ite_self]
  unfold D.c65
  unfold D.r65_0
  by_cases h5 : (e : Int) = 5
  ·have hr0 : ¬ r = 0 := by rcases g1 with g | g; exact absurd h5 g; exact g
   have h6 : ¬ (e : Int) = 6 := by omega
   have h5n : e = 5 := by omega
   subst h5n
   have k' : zq D.W 83 [.int .i64 s, .int .i64 5] [] = _ := k
   (have F := an k' (an hr0 (an e1 e4)); refine gow ?_)
   apply tail <;> first | rfl | skip
   intro v0 v1 v2 v6 v7 v8 v10 v11 v12 v13 v17
   (have F := e7; refine gow ?_)
   (have F := e1; refine fnw ?_)
   exact ⟨rfl, rfl⟩
  ·by_cases h6 : (e : Int) = 6
   ·have hr0 : ¬ 0 < r := by rcases g2 with g | g; exact absurd h6 g; exact g
    have h6n : e = 6 := by omega
    subst h6n
    have k' : zq D.W 83 [.int .i64 s, .int .i64 6] [] = _ := k
    (have F := an k' (an hr0 (an e1 e4)); refine gow ?_)
    apply tail <;> first | rfl | skip
    intro v0 v1 v2 v6 v7 v8 v10 v11 v12 v13 v17
    (have F := e7; refine gow ?_)
    (have F := e1; refine fnw ?_)
    exact ⟨rfl, rfl⟩
   ·have h5n : ¬ e = 5 := by omega
    have h6n : ¬ e = 6 := by omega
    (have F := an k (an h5 (an h6 (an h5n (an h6n (an e1 e4))))); refine gow ?_)
    apply tail <;> first | rfl | skip
    intro v0 v1 v2 v6 v7 v8 v10 v11 v12 v13 v17
    (have F := e7; refine gow ?_)
    (have F := e1; refine fnw ?_)
    exact ⟨rfl, rfl⟩
def vH (s : Nat) (r : Int) : Nat := if (look s (if 0 < r then 5 else 6)).2.2 then (if 0 < r then 5 else 6) else 0
set_option maxHeartbeats 8000000 in
theorem timed_eq (s : Nat) (hs : s < 10) (r : Int) : zq D.W 169 [.agg [.int .i64 s, .int .i64 r]] [] = some (.int .i64 (vH s r), none) := by
 refine Ret.eq ?_
 have k5 : zq D.W 83 [.int .i64 s, .int .i64 5] [] = _ := toW (look_eq hs (show 5 < 17 by decide))
 have k6 : zq D.W 83 [.int .i64 s, .int .i64 6] [] = _ := toW (look_eq hs (show 6 < 17 by decide))
 simp only [tk, sb] at k5 k6
 have e1 := vp
 unfold vH
 by_cases h : 0 < r
 ·simp only [if_pos h]
  generalize (look s 5).2.2 = q at *
  generalize (look s 5).2.1 = a at *
  by_cases ha : a = []
  ·rw [if_pos ha] at k5
   cases q with
   | true =>
    have F := an k5 (an h e1)
    refine Ret.of wk ?_
    exact ⟨rfl, rfl⟩
   | false =>
    have F := an k5 (an h e1)
    refine Ret.of wk ?_
    exact ⟨rfl, rfl⟩
  ·rw [if_neg ha] at k5
   cases q with
   | true =>
    have F := an k5 (an h e1)
    refine Ret.of wk ?_
    exact ⟨rfl, rfl⟩
   | false =>
    have F := an k5 (an h e1)
    refine Ret.of wk ?_
    exact ⟨rfl, rfl⟩
 ·simp only [if_neg h]
  generalize (look s 6).2.2 = q at *
  generalize (look s 6).2.1 = a at *
  by_cases ha : a = []
  ·rw [if_pos ha] at k6
   cases q with
   | true =>
    have F := an k6 (an h e1)
    refine Ret.of wk ?_
    exact ⟨rfl, rfl⟩
   | false =>
    have F := an k6 (an h e1)
    refine Ret.of wk ?_
    exact ⟨rfl, rfl⟩
  ·rw [if_neg ha] at k6
   cases q with
   | true =>
    have F := an k6 (an h e1)
    refine Ret.of wk ?_
    exact ⟨rfl, rfl⟩
   | false =>
    have F := an k6 (an h e1)
    refine Ret.of wk ?_
    exact ⟨rfl, rfl⟩
end Go.Proofs.YtpfnlpakcldobaaGreat
namespace Go.Proofs.YtpfnlpakcldobaaGreat
open Go Go.L
def zK (v : LVal) (l : List yu) : Prop := (v = .vs true .sh 0 [] ∧ l = []) ∨ (v = .vs false .full 4 [] ∧ l = []) ∨ ∃ x, v = .vs false (.own 51 x) 4 (zL l)
def zN (v : LVal) (n : Nat) : Prop := (v = .vs true .sh 0 [] ∧ n = 0) ∨ ∃ x xs, v = .vs false (.own 65 x) 3 xs ∧ xs.length = n ∧ LVal.pfs xs = true
structure zw where
 c : zg
 l0 : zA
 l1 : zA
 l2 : zA
 g : zl
 dv : LVal
 ds : List yu
 cv : LVal
 n : Nat
def zw.cells (w : zw) : List LVal := w.c.cells ++ (w.l0.cells ++ (w.l1.cells ++ (w.l2.cells ++ (w.g.cells ++ [w.dv, w.cv]))))
def zw.obj (w : zw) : zt := .cells 73 w.cells
structure zw.ok (w : zw) (k : Nat) : Prop where
 dv : zK w.dv w.ds
 cv : zN w.cv w.n
 due : w.ds.length ≤ k
 cel : w.n ≤ k
 mc : i16 w.c.mc
 mt : i16 w.c.mt
 mf : i16 w.c.mf
 s1 : w.c.s1.length ≤ 70000
 s2 : w.c.s2.length ≤ 70000
 a0 : 0 ≤ w.l0.st ∧ w.l0.st < 10 ∧ i16 w.l0.rest ∧ 0 ≤ w.l0.zT ∧ w.l0.zT ≤ 65536 ∧ w.l0.opts.length ≤ 70000
 a1 : 0 ≤ w.l1.st ∧ w.l1.st < 10 ∧ i16 w.l1.rest ∧ 0 ≤ w.l1.zT ∧ w.l1.zT ≤ 65536 ∧ w.l1.opts.length ≤ 70000
 a2 : 0 ≤ w.l2.st ∧ w.l2.st < 10 ∧ i16 w.l2.rest ∧ 0 ≤ w.l2.zT ∧ w.l2.zT ≤ 65536 ∧ w.l2.opts.length ≤ 70000
 g : w.g.value.length ≤ 70000
 ds : ∀ d ∈ w.ds, d.data.length ≤ 70010
theorem zK.within {v : LVal} {l : List yu} (h : zK v l) (n : Nat) : v.within n = true := by
 rcases h with ⟨rfl, _⟩ | ⟨rfl, _⟩ | ⟨x, rfl⟩ <;> rfl
theorem zK.stay {v : LVal} {l : List yu} (h : zK v l) : zK v.stay l := by
 rcases h with ⟨rfl, h⟩ | ⟨rfl, h⟩ | ⟨x, rfl⟩
 ·exact .inl ⟨rfl, h⟩
 ·exact .inr (.inl ⟨rfl, h⟩)
 ·exact .inr (.inr ⟨false, rfl⟩)
theorem zN.within {v : LVal} {k : Nat} (h : zN v k) (n : Nat) : v.within n = true := by
 rcases h with ⟨rfl, _⟩ | ⟨x, xs, rfl, _⟩ <;> rfl
theorem zN.stay {v : LVal} {k : Nat} (h : zN v k) : zN v.stay k := by
 rcases h with ⟨rfl, h⟩ | ⟨x, xs, rfl, h⟩
 ·exact .inl ⟨rfl, h⟩
 ·exact .inr ⟨false, xs, rfl, h⟩
theorem zw.within (w : zw) {l : List yu} {k : Nat} (h1 : zK w.dv l) (h2 : zN w.cv k) (n : Nat) : zt.within n w.obj = true := by
 unfold zw.obj zw.cells zg.cells zA.cells zl.cells
 simp only [List.cons_append, List.nil_append, lobj_cells, LVal.zb, LVal.within, h1.within, h2.within, Bool.and_self]
set_option maxHeartbeats 16000000 in
theorem tV {N K : Nat} {st : List zt} (hs : xA N K st) (w : zw) (h1 : zK w.dv w.ds) (hc : zN w.cv w.n) (hl : w.ds.length ≤ 100000) (hK : st[K]? = some w.obj) (d : yu) :
 ∃ dv' cv', zK dv' (w.ds ++ [d]) ∧ zN cv' w.n ∧ zq D.W 66 [.ptr K 0, .agg d.cells] st = some (.tup [], some (st.set K ({ w with dv := dv', ds := w.ds ++ [d], cv := cv' } : zw).obj)) := by
 suffices h : Ret D.W 66 [.ptr K 0, .agg d.cells] st (fun v o => ∃ dv' cv', zK dv' (w.ds ++ [d]) ∧ zN cv' w.n ∧ v = .tup [] ∧ o = some (st.set K ({ w with dv := dv', ds := w.ds ++ [d], cv := cv' } : zw).obj)) by
  obtain ⟨v, o, k, dv', cv', a1, a2, rfl, rfl⟩ := h
  exact ⟨dv', cv', a1, a2, k⟩
 have F0 := sF hs
 have g9 : ∀ (dv cv : LVal), zK dv (w.ds ++ [d]) → zN cv w.n → ∀ x ∈ stW st K (zw.obj { w with dv := dv, ds := w.ds ++ [d], cv := cv }) [], zt.within N x = true := fun dv cv h h' => xm hs (zw.within _ h h' N)
 have e1 := xI w.ds
 have e2 : w.ds.length + 1 ≤ 140737488355328 := by omega
 have e3 : (w.ds.length + 1) * 40 ≤ 140737488355328 := by omega
 have hd : zL w.ds ++ [.agg [.int .i64 d.kind, .int .i64 d.zd, .int .i64 d.id, .str d.data]] = zL (w.ds ++ [d]) := by simp [zL, yu.cells]
 have hlt := hs.lt
 rw [zC hK]
 unfold yu.cells
 unfold zw.obj zw.cells zg.cells zA.cells zl.cells at *
 simp only [List.cons_append, List.nil_append] at *
 have f1 := fun dv' h => g9 dv' w.cv.stay h hc.stay
 rcases h1 with ⟨hv, h2⟩ | ⟨hv, h2⟩ | ⟨x, hv⟩
 ·rw [h2] at f1 ⊢
  rw [hv] at *
  have f2 := f1 (.vs false (.own 51 false) 4 [.agg [.int .i64 d.kind, .int .i64 d.zd, .int .i64 d.id, .str d.data]]) (.inr (.inr ⟨_, rfl⟩))
  have F := an F0 (eq_true f2)
  refine Ret.of wk ?_
  exact ⟨_, w.cv.stay, .inr (.inr ⟨false, rfl⟩), hc.stay, rfl, congrArg some (zz hs _ _ _).symm⟩
 ·rw [h2] at f1 ⊢
  rw [hv] at *
  have f2 := f1 (.vs false (.own 51 false) 4 [.agg [.int .i64 d.kind, .int .i64 d.zd, .int .i64 d.id, .str d.data]]) (.inr (.inr ⟨_, rfl⟩))
  have F := an F0 (eq_true f2)
  refine Ret.of wk ?_
  exact ⟨_, w.cv.stay, .inr (.inr ⟨false, rfl⟩), hc.stay, rfl, congrArg some (zz hs _ _ _).symm⟩
 ·rw [hv] at *
  have f2 := f1 (.vs false (.own 51 false) 4 (zL (w.ds ++ [d]))) (.inr (.inr ⟨_, rfl⟩))
  have F := an F0 (an e1 (an e2 (an e3 (an hd (eq_true f2)))))
  refine Ret.of wk ?_
  exact ⟨_, w.cv.stay, .inr (.inr ⟨false, rfl⟩), hc.stay, rfl, congrArg some (zz hs _ _ _).symm⟩
end Go.Proofs.YtpfnlpakcldobaaGreat
