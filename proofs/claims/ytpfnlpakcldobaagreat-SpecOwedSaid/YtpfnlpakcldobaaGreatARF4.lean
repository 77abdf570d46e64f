/- Texts of the proof: RF1 RF2 RF4. -/
import Derived.Test.YtpfnlpakcldobaaGreatARC
set_option linter.unusedVariables false
set_option linter.unusedSimpArgs false
set_option linter.unusedSectionVars false
namespace Go.Proofs.YtpfnlpakcldobaaGreat
open Go Go.L
theorem fn67 : D.W.fns 67 = some (.fn D.l67) := rfl
structure wI where
 t : Int
 nil : Bool
 m : Nat
 data : List UInt8
def wI.cells (o : wI) : List LVal := [.int .i64 o.t, .vs o.nil .sh o.m (zy o.data)]
def wI.ok (o : wI) : Prop := 0 ≤ o.t ∧ o.t ≤ 255 ∧ Wb o.nil o.m o.data ∧ o.data.length ≤ 255
def yz (l : List wI) : List LVal := l.map fun o => .agg o.cells
theorem xZ (l : List wI) : (yz l).length = l.length := by simp [yz]
theorem sk (l : List wI) (i : Nat) : (yz l)[i]? = (l[i]?).map fun o => .agg o.cells := by simp [yz]
theorem xj : ∀ (l : List wI), LVal.pfs (yz l) = true
 | [] => rfl
 | o :: l => by
  have := xj l
  simp only [yz, List.map_cons, LVal.pfs, LVal.pf] at this ⊢
  rw [this]; rfl
theorem xy (n : Nat) : ∀ (l : List wI), LVal.zb n (yz l) = true
 | [] => rfl
 | o :: l => by
  have := xy n l
  simp only [yz, List.map_cons, LVal.zb] at this ⊢
  rw [this]; rfl
def Wo (b : Bool) (m : Nat) (l : List wI) : Prop := (b = false ∧ m = 2) ∨ (b = true ∧ l = [])
def rT (b : Bool) (m : Nat) (l : List wI) (n : Nat) : Prop := Wo b m l ∧ (∀ o ∈ l, o.ok) ∧ l.length ≤ n
def OOut (v : LVal) (l : List wI) : Prop := (v = .vs true .sh 0 [] ∧ l = []) ∨ ∃ x, v = .vs false (.own 146 x) 2 (yz l)
theorem optsL_snoc (l : List wI) (o : wI) : yz l ++ [.agg o.cells] = yz (l ++ [o]) := by simp [yz]
set_option maxHeartbeats 8000000 in
theorem loop67 (l : List UInt8) (hl : l.length ≤ 70000) (Q : yS → RS → Prop)
 (hE : ∀ v1 out (os : List wI) z w7, OOut out os → (∀ o ∈ os, o.ok) → os.length ≤ l.length → Q (.exit 0) ⟨[.vs false .sh 1 (zy l), v1, .ptr 0 0, out, z, .undef, .undef, w7, .undef, .undef, .undef], [.cells 134 [.int .i64 0, .int .i64 0]], []⟩)
 (hR : ∀ out (os : List wI) a e z w5 w6 w7 w8 w9 w10, OOut out os → Q .ret ⟨[.vs false .sh 1 (zy l), .vs true .sh 0 [], .ptr 0 0, out, z, w5, w6, w7, w8, w9, w10], [.cells 134 [.int .i64 a, .int .i64 e]], []⟩) :
 ∀ (n i : Nat) (v1 out : LVal) (os : List wI), l.length - i ≤ n → i ≤ l.length → (v1 = .undef ∨ v1 = .vs true .sh 0 []) → OOut out os → (∀ o ∈ os, o.ok) → os.length ≤ i →
  Wp D.W (.loop D.b67_0) ⟨[.vs false .sh 1 (zy l), v1, .ptr 0 0, out, .int .i64 i, .undef, .undef, .undef, .undef, .undef, .undef], [.cells 134 [.int .i64 0, .int .i64 0]], []⟩ Q
 | n, i, v1, out, os, hn, hi, hv, ho, hk, hc => by
  have e3 := ze l
  apply xi
  by_cases h : (i : Int) < l.length
  ·have hil : i < l.length := by omega
   cases n with
   | zero => omega
   | succ n =>
   have q0 : (0 : Int) ≤ i ∧ (i : Int) ≤ l.length := by omega
   have q1 : ¬ (l.length : Int) < i := by omega
   have q2 : (i : Int) ≤ l.length := by omega
   have q3 : i ≤ l.length := by omega
   have hd : (zy l).drop i = zy (l.drop i) := xK l i
   have hd' : ((zy l).take l.length).drop i = zy (l.drop i) := by rw [← e3, List.take_length]; exact hd
   have hr : (l.drop i).length = l.length - i := by simp
   generalize l.drop i = r at *
   have e4 := ze r
   have ih := fun j out' os' => loop67 l hl Q hE hR n j .undef out' os'
   by_cases h2 : (r.length : Int) < 2
   ·rcases hv with rfl | rfl <;> rcases ho with ⟨rfl, rfl⟩ | ⟨x, rfl⟩
    all_goals
     (have F := an h (an q0 (an q1 (an q2 (an q3 (an hd (an hd' (an e3 (an e4 h2)))))))); refine gow ?_)
    ·exact hR _ [] _ _ _ _ _ _ _ _ _ (.inl ⟨rfl, rfl⟩)
    ·exact hR _ os _ _ _ _ _ _ _ _ _ (.inr ⟨_, rfl⟩)
    ·exact hR _ [] _ _ _ _ _ _ _ _ _ (.inl ⟨rfl, rfl⟩)
    ·exact hR _ os _ _ _ _ _ _ _ _ _ (.inr ⟨_, rfl⟩)
   ·have g : ∀ k : Nat, k < 2 → (zy r)[k]? = some (.int .u8 (((r.getD k 0).toNat : Nat) : Int)) := fun k hk => by
     rw [vB, List.getElem?_eq_getElem (by omega), sj (by omega)]; rfl
    have g0 := g 0 (by omega)
    have g1 := g 1 (by omega)
    have g0' : ∀ h, (zy r)[0]'h = .int .u8 (((r.getD 0 0).toNat : Nat) : Int) := fun h => by have := List.getElem?_eq_getElem h; rw [g0] at this; exact (Option.some.inj this).symm
    have g1' : ∀ h, (zy r)[1]'h = .int .u8 (((r.getD 1 0).toNat : Nat) : Int) := fun h => by have := List.getElem?_eq_getElem h; rw [g1] at this; exact (Option.some.inj this).symm
    have p0 : 0 < r.length := by omega
    have p1 : (1 : Int) < r.length := by omega
    have t0 := oa (r.getD 0 0)
    have t1 := oa (r.getD 1 0)
    have hb0 := (r.getD 0 0).toNat_lt
    have hb1 := (r.getD 1 0).toNat_lt
    generalize ((r.getD 0 0).toNat : Nat) = b0 at *
    generalize ((r.getD 1 0).toNat : Nat) = b1 at *
    by_cases h3 : (b1 : Int) < 2
    ·rcases hv with rfl | rfl <;> rcases ho with ⟨rfl, rfl⟩ | ⟨x, rfl⟩
     all_goals
      (have F := an h (an q0 (an q1 (an q2 (an q3 (an hd (an hd' (an e3 (an e4 (an h2 (an g1 (an g1' (an p1 (an t1 h3))))))))))))); refine gow ?_)
     ·exact hR _ [] _ _ _ _ _ _ _ _ _ (.inl ⟨rfl, rfl⟩)
     ·exact hR _ os _ _ _ _ _ _ _ _ _ (.inr ⟨_, rfl⟩)
     ·exact hR _ [] _ _ _ _ _ _ _ _ _ (.inl ⟨rfl, rfl⟩)
     ·exact hR _ os _ _ _ _ _ _ _ _ _ (.inr ⟨_, rfl⟩)
    ·by_cases h4 : (r.length : Int) < b1
     ·rcases hv with rfl | rfl <;> rcases ho with ⟨rfl, rfl⟩ | ⟨x, rfl⟩
      all_goals
       (have F := an h (an q0 (an q1 (an q2 (an q3 (an hd (an hd' (an e3 (an e4 (an h2 (an g1 (an g1' (an p1 (an t1 (an h3 h4)))))))))))))); refine gow ?_)
      ·exact hR _ [] _ _ _ _ _ _ _ _ _ (.inl ⟨rfl, rfl⟩)
      ·exact hR _ os _ _ _ _ _ _ _ _ _ (.inr ⟨_, rfl⟩)
      ·exact hR _ [] _ _ _ _ _ _ _ _ _ (.inl ⟨rfl, rfl⟩)
      ·exact hR _ os _ _ _ _ _ _ _ _ _ (.inr ⟨_, rfl⟩)
     ·have c1 : 0 ≤ (b1 : Int) ∧ (b1 : Int) ≤ (r.length : Int) := by omega
      have c2 : (2 : Int) ≤ b1 := by omega
      have c4 : b1 ≤ r.length := by omega
      have c3 : ((zy r).take b1).drop 2 = zy ((r.take b1).drop 2) := by rw [wD, xK]
      have k := lq false 1 ((r.take b1).drop 2) Wb.one (by rw [mb']; simp; omega)
      have e5 := zx ((r.take b1).drop 2)
      have ew : IntKind.i64.wrap ((i : Int) + b1) = ((i + b1 : Nat) : Int) := by rw [vG (by omega) (by omega)]; omega
      have ob : wI.ok ⟨b0, false, clN false, (r.take b1).drop 2⟩ := ⟨by show (0 : Int) ≤ b0; omega, by show (b0 : Int) ≤ 255; omega, Wb.one, by simp; omega⟩
      have hsn := optsL_snoc os ⟨b0, false, clN false, (r.take b1).drop 2⟩
      have e6 := xy
      have e7 := xZ os
      have e8 : os.length + 1 ≤ 140737488355328 := by omega
      have e9 : (os.length + 1) * 32 ≤ 140737488355328 := by omega
      have hk' : ∀ o ∈ os ++ [⟨b0, false, clN false, (r.take b1).drop 2⟩], o.ok := by
       intro o ho'
       rcases List.mem_append.1 ho' with h' | h'
       ·exact hk o h'
       ·simp at h'; subst h'; exact ob
      simp only [wI.cells] at hsn
      generalize (r.take b1).drop 2 = dt at *
      rcases hv with rfl | rfl <;> rcases ho with ⟨rfl, rfl⟩ | ⟨x, rfl⟩
      all_goals
       (have F := an h (an q0 (an q1 (an q2 (an q3 (an hd (an hd' (an e3 (an e4 (an h2 (an g0 (an g0' (an g1 (an g1' (an p0 (an p1 (an t0 (an t1 (an h3 (an h4 (an c1 (an c2 (an c3 (an c4 (an k (an e5 (an e6 (an e7 (an e8 (an e9 (an ew (an mb' hsn))))))))))))))))))))))))))))))); refine gow ?_)
      ·exact ih (i + b1) _ [⟨b0, false, clN false, dt⟩] (by omega) (by omega) (.inl rfl) (.inr ⟨_, rfl⟩) (by simpa using hk') (by simp; omega)
      ·exact ih (i + b1) _ _ (by omega) (by omega) (.inl rfl) (.inr ⟨_, rfl⟩) hk' (by simp; omega)
      ·exact ih (i + b1) _ [⟨b0, false, clN false, dt⟩] (by omega) (by omega) (.inl rfl) (.inr ⟨_, rfl⟩) (by simpa using hk') (by simp; omega)
      ·exact ih (i + b1) _ _ (by omega) (by omega) (.inl rfl) (.inr ⟨_, rfl⟩) hk' (by simp; omega)
  ·rcases hv with rfl | rfl <;> rcases ho with ⟨rfl, rfl⟩ | ⟨x, rfl⟩
   all_goals
    (have F := an h e3; refine gow ?_)
   ·exact hE _ _ [] _ _ (.inl ⟨rfl, rfl⟩) (by simp) (Nat.zero_le _)
   ·exact hE _ _ os _ _ (.inr ⟨_, rfl⟩) hk (by omega)
   ·exact hE _ _ [] _ _ (.inl ⟨rfl, rfl⟩) (by simp) (Nat.zero_le _)
   ·exact hE _ _ os _ _ (.inr ⟨_, rfl⟩) hk (by omega)
end Go.Proofs.YtpfnlpakcldobaaGreat
namespace Go.Proofs.YtpfnlpakcldobaaGreat
open Go Go.L
set_option maxHeartbeats 8000000 in
theorem read_ex (b : Bool) (m : Nat) (l : List UInt8) (hm : Wb b m l) (hl : l.length ≤ 70000) : ∃ b' m' os a e, zq D.W 67 [.vs b .sh m (zy l)] [] = some (.tup [.vs b' .sh m' (yz os), .agg [.int .i64 a, .int .i64 e]], none) ∧ rT b' m' os l.length := by
 have e2 := zx l
 have e3 := ze l
 suffices h : Ret D.W 67 [.vs b .sh m (zy l)] [] (fun v o => o = none ∧ ∃ b' m' os a e, v = .tup [.vs b' .sh m' (yz os), .agg [.int .i64 a, .int .i64 e]] ∧ rT b' m' os l.length) by
  obtain ⟨v, k, b', m', os, a, e, rfl, h⟩ := h.ex
  exact ⟨b', m', os, a, e, k, h⟩
 refine yU fn67 rfl (fun _ => ?_) ?_
 ·simp [LVal.pfs, LVal.pf]
 simp only [Go.L.zc, List.map_cons, List.map_nil, Option.bind_some, Option.bind_none, Option.getD_some, Option.getD_none, List.getElem?_cons_zero, List.getElem?_cons_succ, zY.zH, if_true, Bool.false_eq_true, if_false, ite_self]
 unfold D.c67
 by_cases hne : l = []
 ·subst hne
  unfold D.b67_0
  (have F := xz; refine mi ?_)
  (have F : True := trivial; refine fnw ?_)
  exact ⟨rfl, true, 0, [], 0, 0, rfl, .inr ⟨rfl, rfl⟩, by simp, Nat.zero_le _⟩
 ·obtain ⟨rfl, rfl⟩ := hm.ne hne
  (have F := an e2 e3; refine gow ?_)
  refine loop67 l hl _ ?_ ?_ l.length 0 _ _ [] (by omega) (Nat.zero_le _) (.inr rfl) (.inl ⟨rfl, rfl⟩) (by simp) (Nat.zero_le _)
  ·intro v1 out os z w7 ho hk hc
   have e6 := xy
   have e7 := xj os
   rcases ho with ⟨rfl, rfl⟩ | ⟨x, rfl⟩
   ·(have F := an e2 (an e3 (an zG e6)); refine gow ?_)
    (have F := an e6 e7; refine fnw ?_)
    exact ⟨rfl, true, 0, [], 0, 0, rfl, .inr ⟨rfl, rfl⟩, by simp, Nat.zero_le _⟩
   ·(have F := an e2 (an e3 (an zG e6)); refine gow ?_)
    (have F := an e6 e7; refine fnw ?_)
    exact ⟨rfl, false, 2, os, 0, 0, rfl, .inl ⟨rfl, rfl⟩, hk, hc⟩
  ·intro out os a e z w5 w6 w7 w8 w9 w10 ho
   (have F := e2; refine gow ?_)
   (have F : True := trivial; refine fnw ?_)
   exact ⟨rfl, true, 0, [], a, e, rfl, .inr ⟨rfl, rfl⟩, by simp, Nat.zero_le _⟩
def zE.wd (p : zE) (n : Nat) : Prop := Wb p.nil p.m p.data ∧ p.data.length ≤ n
theorem zE.wf.wd {p : zE} {n : Nat} (h : p.wf n) : p.wd n := h.2.2.2.2
set_option maxHeartbeats 8000000 in
theorem ni (p : zE) (n : Nat) (hp : p.wd n) (hn : n ≤ 70000) : ∃ b m os ok, zq D.W 56 [.agg p.cells] [] = some (.tup [.vs b .sh m (yz os), .bool ok], none) ∧ rT b m os n := by
 obtain ⟨hw, hl⟩ := hp
 obtain ⟨b, m, os, a, e, k, ho⟩ := read_ex p.nil p.m p.data hw (by omega)
 have e2 := zx p.data
 have e3 := xj os
 suffices h : Ret D.W 56 [.agg p.cells] [] (fun v o => o = none ∧ ∃ b m os ok, v = .tup [.vs b .sh m (yz os), .bool ok] ∧ rT b m os n) by
  obtain ⟨v, k, b', m', os, ok, rfl, h⟩ := h.ex
  exact ⟨b', m', os, ok, k, h⟩
 have ho' : rT b m os n := ⟨ho.1, ho.2.1, Nat.le_trans ho.2.2 hl⟩
 unfold zE.cells
 by_cases c1 : p.code = 1
 ·have F := an c1 (an k (an e2 e3))
  refine Ret.of wk ?_
  exact ⟨rfl, _, _, _, _, rfl, ho'⟩
 ·by_cases c2 : p.code = 2
  ·have F := an c1 (an c2 (an k (an e2 e3)))
   refine Ret.of wk ?_
   exact ⟨rfl, _, _, _, _, rfl, ho'⟩
  ·by_cases c3 : p.code = 3
   ·have F := an c1 (an c2 (an c3 (an k (an e2 e3))))
    refine Ret.of wk ?_
    exact ⟨rfl, _, _, _, _, rfl, ho'⟩
   ·by_cases c4 : p.code = 4
    ·have F := an c1 (an c2 (an c3 (an c4 (an k (an e2 e3)))))
     refine Ret.of wk ?_
     exact ⟨rfl, _, _, _, _, rfl, ho'⟩
    ·have F := an c1 (an c2 (an c3 (an c4 (an k (an e2 e3)))))
     refine Ret.of wk ?_
     exact ⟨rfl, true, 0, [], false, rfl, .inr ⟨rfl, rfl⟩, by simp, Nat.zero_le _⟩
theorem uz (p : zE) (n : Nat) (hp : p.wf n) (hn : n ≤ 70000) : ∃ b m os ok, zq D.W 56 [.agg p.cells] [] = some (.tup [.vs b .sh m (yz os), .bool ok], none) ∧ rT b m os n := ni p n hp.wd hn
end Go.Proofs.YtpfnlpakcldobaaGreat
namespace Go.Proofs.YtpfnlpakcldobaaGreat
open Go Go.L
attribute [local go_sem] nb
theorem fn71 : D.W.fns 71 = some (.fn D.l71) := rfl
def kvL {α : Type} (f : α → LVal) (l : List (Int × α)) : List (LVal × LVal) := l.map fun p => (.int .i64 p.1, f p.2)
theorem pt {α : Type} (f : α → LVal) (t : Int) : ∀ l : List (Int × α), ∃ r : Option α, rK (.int .i64 t) (kvL f l) = some (r.map f)
 | [] => ⟨none, rfl⟩
 | (k, x) :: l => by
  obtain ⟨r, h⟩ := pt f t l
  by_cases hk : t = k
  ·subst hk; exact ⟨some x, by simp [kvL, rK, qg]⟩
  ·refine ⟨r, ?_⟩
   rw [← h]
   have : (t == k) = false := by simpa using hk
   simp [kvL, rK, qg, this, hk]
theorem lR {α : Type} (f : α → LVal) (t : Int) (x : α) : ∀ l : List (Int × α), ∃ l', lG (.int .i64 t) (f x) (kvL f l) = some (kvL f l')
 | [] => ⟨[(t, x)], rfl⟩
 | (k, y) :: l => by
  obtain ⟨l', h⟩ := lR f t x l
  by_cases hk : t = k
  ·subst hk; exact ⟨(t, x) :: l, by simp [kvL, lG, qg]⟩
  ·refine ⟨(k, y) :: l', ?_⟩
   have : (t == k) = false := by simpa using hk
   simp only [kvL, List.map_cons] at h ⊢
   simp [lG, qg, this, hk, h]
theorem tH {α : Type} (f : α → LVal) (n : Nat) : ∀ l : List (Int × α), LVal.zb n ((kvL f l).map (·.1)) = true
 | [] => rfl
 | p :: l => tH f n l
theorem tG {α : Type} (f : α → LVal) (hf : ∀ x, (f x).pf = true) (n : Nat) : ∀ l : List (Int × α), LVal.zb n ((kvL f l).map (·.2)) = true
 | [] => rfl
 | p :: l => by
  have := tG f hf n l
  simp only [kvL, List.map_cons, LVal.zb, Bool.and_eq_true] at this ⊢
  exact ⟨pH _ (hf _), this⟩
set_option maxHeartbeats 8000000 in
theorem loop71 (b : Bool) (m : Nat) (cs : List wI) (hcs : ∀ o ∈ cs, o.ok) (hm : cs ≠ [] → m = 2) (hl : cs.length ≤ 100000) (Q : yS → RS → Prop)
 (hE : ∀ v0 v1 (l : List (Int × Bool)) w7, Q (.exit 0) ⟨[v0, v1, .map 0, .undef, .vs b .sh m (yz cs), .int .i64 cs.length, .int .i64 cs.length, w7, .undef], [.map (kvL .bool l)], []⟩)
 (hR : ∀ v0 v2 v3 v4 v5 v6 v7 v8 st, Q .ret ⟨[v0, .bool true, v2, v3, v4, v5, v6, v7, v8], st, []⟩) :
 ∀ (j i : Nat) (v0 v1 : LVal) (l : List (Int × Bool)), i + j = cs.length → v0.zr = false → v1.zr = false →
  Wp D.W (.loop D.b71_0) ⟨[v0, v1, .map 0, .undef, .vs b .sh m (yz cs), .int .i64 cs.length, .int .i64 i, .undef, .undef], [.map (kvL .bool l)], []⟩ Q
 | 0, i, v0, v1, l, hij, o0, o1 => by
  have : i = cs.length := by omega
  subst this
  apply xi
  have F := an o0 o1
  refine Wp.to wp1 ?_; first | apply za.n | apply za.e | apply za.r
  exact hE _ _ _ _
 | j + 1, i, v0, v1, l, hij, o0, o1 => by
  have hi : i < cs.length := by omega
  have hm2 := hm (fun e => by subst e; simp at hi)
  subst hm2
  have e1 : (i : Int) < cs.length := by omega
  have e0 : 0 ≤ (i : Int) ∧ (i : Int) < cs.length := by omega
  have e3 : IntKind.i64.wrap ((i : Int) + 1) = (i : Int) + 1 := vG (by omega) (by omega)
  have e4 := xZ cs
  have e5 : (yz cs)[i]? = some (.agg [.int .i64 cs[i].t, .vs cs[i].nil .sh cs[i].m (zy cs[i].data)]) := by rw [sk, List.getElem?_eq_getElem hi]; rfl
  have e5' : ∀ h, (yz cs)[i]'h = .agg [.int .i64 cs[i].t, .vs cs[i].nil .sh cs[i].m (zy cs[i].data)] := fun h => by have := List.getElem?_eq_getElem h; rw [e5] at this; exact (Option.some.inj this).symm
  have ih := fun l => loop71 b 2 cs hcs hm hl Q hE hR j (i + 1) .undef .undef l (by omega) rfl rfl
  have ec : ((i + 1 : Nat) : Int) = (i : Int) + 1 := by omega
  simp only [ec] at ih
  obtain ⟨r, hr⟩ := pt LVal.bool cs[i].t l
  obtain ⟨l', hp⟩ := lR LVal.bool cs[i].t true l
  have e7 := xy
  have e8 := fun n l => tH LVal.bool n l
  have e9 := fun n l => tG LVal.bool (fun _ => rfl) n l
  apply xi
  rcases r with _ | (_ | _)
  ·simp only [Option.map_none] at hr
   have F := an o0 (an o1 (an e0 (an e1 (an e3 (an e4 (an e5 (an e5' (an e7 (an hr (an hp (an e8 e9)))))))))))
   refine Wp.to wp1 ?_; first | apply za.n | apply za.e | apply za.r
   exact ih _
  ·simp only [Option.map_some] at hr
   have F := an o0 (an o1 (an e0 (an e1 (an e3 (an e4 (an e5 (an e5' (an e7 (an hr (an hp (an e8 e9)))))))))))
   refine Wp.to wp1 ?_; first | apply za.n | apply za.e | apply za.r
   exact ih _
  ·simp only [Option.map_some] at hr
   have F := an o0 (an o1 (an e0 (an e1 (an e3 (an e4 (an e5 (an e5' (an e7 (an hr (an hp (an e8 e9)))))))))))
   refine Wp.to wp1 ?_; first | apply za.n | apply za.e | apply za.r
   exact hR _ _ _ _ _ _ _ _ _
set_option maxHeartbeats 4000000 in
theorem twice_ex (b : Bool) (m : Nat) (cs : List wI) (n : Nat) (h : rT b m cs n) (hn : n ≤ 100000) : ∃ q : Bool, zq D.W 71 [.vs b .sh m (yz cs)] [] = some (.bool q, none) := by
 obtain ⟨hw, hc, hl⟩ := h
 have hm : cs ≠ [] → m = 2 := fun hne => by rcases hw with ⟨_, h⟩ | ⟨_, h⟩; exact h; exact absurd h hne
 suffices h : Ret D.W 71 [.vs b .sh m (yz cs)] [] (fun v o => o = none ∧ ∃ q : Bool, v = .bool q) by
  obtain ⟨v, k, q, rfl⟩ := h.ex
  exact ⟨q, k⟩
 have e1 := xj cs
 have e4 := xZ cs
 have e7 := xy
 have e8 := fun n l => tH LVal.bool n l
 have e9 := fun n l => tG LVal.bool (fun _ => rfl) n l
 refine yU fn71 rfl (fun _ => ?_) ?_
 ·simp [LVal.pfs, LVal.pf]
 simp only [Go.L.zc, List.map_cons, List.map_nil, Option.bind_some, Option.bind_none, Option.getD_some, Option.getD_none, List.getElem?_cons_zero, List.getElem?_cons_succ, zY.zH, if_true, Bool.false_eq_true, if_false, ite_self]
 unfold D.c71
 (have F := an e1 e4; refine gow ?_)
 refine loop71 b m cs hc hm (by omega) _ ?_ ?_ cs.length 0 _ _ [] (by omega) rfl rfl
 ·intro v0 v1 l w7
  (have F := an e7 (an e8 e9); refine gow ?_)
  (have F : True := trivial; refine fnw ?_)
  exact ⟨rfl, _, rfl⟩
 ·intro v0 v2 v3 v4 v5 v6 v7 v8 st
  (have F := an e7 (an e8 e9); refine gow ?_)
  (have F : True := trivial; refine fnw ?_)
  exact ⟨rfl, _, rfl⟩
end Go.Proofs.YtpfnlpakcldobaaGreat
