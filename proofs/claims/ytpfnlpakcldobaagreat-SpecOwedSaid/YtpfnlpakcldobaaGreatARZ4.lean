/- SpecOwed is proved: at every config, every list of labels and every label that are handed in as the row says, the law specOwed returns true, does not panic, and leaves what it was handed as it found it.
   Conditions: those of the given statement alone (every machine that has started, every world, every reading of the config, the labels and the label); no premise is added. -/
import Derived.Test.YtpfnlpakcldobaaGreatARL1
import Derived.Test.YtpfnlpakcldobaaGreatARC
import Derived.Test.YtpfnlpakcldobaaGreatARD
import Derived.Test.YtpfnlpakcldobaaGreatAAW
import Derived.Test.YtpfnlpakcldobaaGreatARS1
set_option linter.unusedVariables false
set_option linter.unusedSimpArgs false
set_option linter.unusedSectionVars false
namespace Go.Proofs.YtpfnlpakcldobaaGreat
open Go Go.L
theorem dueOf_low (zd id : Int) (data : List UInt8) {x : Nat} (h : x < 7) : yI zd id data x = [] := by
 unfold yI
 (repeat' split) <;> first | rfl | omega
theorem dues_low (zd id : Int) (data : List UInt8) : ∀ l : List Nat, (∀ x ∈ l, x < 7) → l.flatMap (yI zd id data) = []
 | [], _ => rfl
 | x :: l, h => by
  rw [List.flatMap_cons, dueOf_low zd id data (h x (List.mem_cons_self ..)), dues_low zd id data l fun y hy => h y (List.mem_cons_of_mem _ hy)]
  rfl
theorem jc {a : AW} {k : Nat} (h : a.ok k) (i e : Nat) (id : Int) (data : List UInt8) : ∃ ex, (zk a i e id data).1.ds = a.ds ++ ex ∧ (e = 2 → ex = []) := by
 rcases tJ a i e id data with h1 | ⟨_, h1⟩
 ·exact ⟨[], by rw [h1]; simp, fun _ => rfl⟩
 ·refine ⟨_, by rw [h1], fun he => ?_⟩
  subst he
  obtain ⟨f1, f2, _⟩ := h.fit i
  exact dues_low _ _ _ _ (jf _ (by omega))
theorem spreadA_ds {a : AW} {k : Nat} (h : a.ok k) (was : Bool) : ∃ ex, (wg a was).ds = a.ds ++ ex ∧ (ex = [] ∨ (a.net = true ∧ was = false)) := by
 unfold wg
 by_cases hn : a.net = was
 ·rw [if_pos hn]; exact ⟨[], by simp, .inl rfl⟩
 ·rw [if_neg hn]
  dsimp only
  obtain ⟨e1, h1, g1⟩ := jc h 1 (if a.net = true then 1 else 2) 0 []
  have h2 := xQ h 1 (if a.net = true then 1 else 2) (by split <;> decide) 0 [] (Nat.zero_le _)
  obtain ⟨e2, h3, g2⟩ := jc h2 2 (if a.net = true then 1 else 2) 0 []
  refine ⟨e1 ++ e2, by rw [h3, h1, List.append_assoc], ?_⟩
  cases hx : a.net with
  | true =>
   refine .inr ⟨rfl, ?_⟩
   rw [hx] at hn
   cases was
   ·rfl
   ·exact absurd rfl hn
  | false =>
   rw [hx] at g1 g2
   rw [g1 rfl, g2 rfl]
   exact .inl rfl
theorem owed_law {c : zg} {s : zD} {k : Nat} {x : yp} {a' : AW} (h : mg c s k) (hS : rS (s.w c) x true a') {d : yu} {r : List yu} (hd : s.due = d :: r) :
 x.kind = 2 ∧ ∃ ex, a'.ds = r ++ ex ∧ (ex = [] ∨ (a'.net = true ∧ (s.w c).net = false)) := by
 rcases hS with ⟨hq, _⟩ | ⟨a1, hM, rfl⟩
 ·cases hq
 have hok := oK h.ok h.n hM
 have hds : (s.w c).ds = s.due := rfl
 have ne : (s.w c).ds ≠ [] := by rw [hds, hd]; simp
 have fin : a1.ds = r → ∃ ex, (wg a1 (s.w c).net).ds = r ++ ex ∧ (ex = [] ∨ ((wg a1 (s.w c).net).net = true ∧ (s.w c).net = false)) := fun hr => by
  obtain ⟨ex, h1, h2⟩ := spreadA_ds hok (s.w c).net
  refine ⟨ex, by rw [h1, hr], ?_⟩
  rw [kN]
  exact h2
 rcases hM with ⟨hk, d', r', hds', hO⟩ | ⟨_, h0, _⟩ | ⟨_, hq, _⟩ | ⟨_, h0, _⟩ | ⟨_, h0, _⟩
 ·rw [hds, hd] at hds'
  injection hds' with e1 e2
  subst e1; subst e2
  refine ⟨hk, fin ?_⟩
  rcases hO with ⟨hq, _⟩ | ⟨i, p, _, _, _, _, hA⟩ | ⟨_, _, g', _, rfl⟩
  ·cases hq
  ·obtain ⟨l', rfl, _⟩ := hA
   exact (setL_c _ _ _).2.2.1
  ·rfl
 ·exact absurd h0 ne
 ·cases hq
 ·exact absurd h0 ne
 ·exact absurd h0 ne
theorem jk {c : zg} {s : zD} {k : Nat} {x : yp} {a' : AW} {q : Bool} (h : mg c s k) (hS : rS (s.w c) x q a') (hd : s.due ≠ []) (hk : x.kind ≠ 2) : q = false := by
 cases q with
 | false => rfl
 | true =>
  cases hs : s.due with
  | nil => exact absurd hs hd
  | cons d r => exact absurd (owed_law h hS hs).1 hk
end Go.Proofs.YtpfnlpakcldobaaGreat
namespace Go.Proofs.YtpfnlpakcldobaaGreat
open Go Go.L
def jv (k p : Int) : List LVal := [.int .i64 k, .int .i64 p, .int .i64 0, .int .i64 0, .vs true .sh 0 [], .bool false]
def jt : List LVal := jv 3 0 ++ (jv 4 0 ++ (jv 5 49185 ++ (jv 5 32801 ++ (jv 5 32855 ++ (jv 6 49185 ++ (jv 6 32801 ++ (jv 6 32855 ++ (jv 7 49185 ++ (jv 7 32801 ++ jv 7 32855)))))))))
set_option maxHeartbeats 80000000 in
theorem del30 (C0 C1 : zt) (h0 : zt.within 3 C0 = true) (h1 : zt.within 3 C1 = true)
 (H1 : ∀ k p : Int, k ≠ 2 → zq D.W 31 [.agg (jv k p), .ptr 0 0, .ptr 1 0] [C0, C1, .cells 44 jt] = some (.bool true, some [C0, C1, .cells 44 jt]))
 (H2 : ∀ k p : Int, k ≠ 2 → zq D.W 31 [.agg (jv k p), .ptr 0 0, .ptr 1 0] [C0, C1, .cells 44 jt, .cells 44 (jv k p)] = some (.bool true, some [C0, C1, .cells 44 jt, .cells 44 (jv k p)])) :
 ∃ ar, ar.all LVal.plain = true ∧ LVal.pfs ar = true ∧ zq D.W 30 [.ms 2 0 11 6 true, .func 31 [.ptr 0 0, .ptr 1 0]] [C0, C1, .cells 44 jt] = some (.ms 2 0 0 6 true, some [C0, C1, .cells 44 ar]) := by
 have k40 : zq D.W 40 [.ms 2 0 11 6 true, .func 31 [.ptr 0 0, .ptr 1 0]] [C0, C1, .cells 44 jt] = some (.int .i64 0, some [C0, C1, .cells 44 jt]) := by
  have H := H1 3 0 (by decide)
  unfold jt jv at *
  simp only [List.cons_append, List.nil_append] at *
  have F := an H (an h0 h1)
  exact Ret.eq (Ret.of wkl ⟨rfl, rfl⟩)
 have w : ∀ n : Nat, n < 12 → IntKind.i64.wrap (n : Int) = n := fun n hn => vG (by omega) (by omega)
 have w1 : IntKind.i64.wrap 0 = 0 ∧ IntKind.i64.wrap 1 = 1 ∧ IntKind.i64.wrap 2 = 2 ∧ IntKind.i64.wrap 3 = 3 ∧ IntKind.i64.wrap 4 = 4 ∧ IntKind.i64.wrap 5 = 5 ∧ IntKind.i64.wrap 6 = 6 ∧ IntKind.i64.wrap 7 = 7 ∧ IntKind.i64.wrap 8 = 8 ∧ IntKind.i64.wrap 9 = 9 ∧ IntKind.i64.wrap 10 = 10 ∧ IntKind.i64.wrap 11 = 11 := ⟨rfl, rfl, rfl, rfl, rfl, rfl, rfl, rfl, rfl, rfl, rfl, rfl⟩
 have g1 := H2 4 0 (by decide)
 have g2 := H2 5 49185 (by decide)
 have g3 := H2 5 32801 (by decide)
 have g4 := H2 5 32855 (by decide)
 have g5 := H2 6 49185 (by decide)
 have g6 := H2 6 32801 (by decide)
 have g7 := H2 6 32855 (by decide)
 have g8 := H2 7 49185 (by decide)
 have g9 := H2 7 32801 (by decide)
 have g10 := H2 7 32855 (by decide)
 clear H1 H2
 unfold jt jv at *
 simp only [List.cons_append, List.nil_append] at *
 have F := an k40 (an g1 (an g2 (an g3 (an g4 (an g5 (an g6 (an g7 (an g8 (an g9 (an g10 (an w1 (an h0 h1))))))))))))
 refine ⟨_, ?_, ?_, Ret.eq (Ret.of wkl ⟨rfl, rfl⟩)⟩
 ·rfl
 ·rfl
end Go.Proofs.YtpfnlpakcldobaaGreat
namespace Go.Proofs.YtpfnlpakcldobaaGreat
open Go Go.L
attribute [local go_sem] Go.L.freeze qu chunks
theorem jq : ∀ l : List yu, LVal.pfs (zL l) = true
 | [] => rfl
 | x :: l => by
  have := jq l
  simpa [zL, LVal.pfs, LVal.pf, yu.cells] using this
set_option maxHeartbeats 80000000 in
theorem hidden_of (c : zg) (s : zD) (ho : s.o = .sh)
 (H1 : ∀ k p : Int, k ≠ 2 → zq D.W 31 [.agg (jv k p), .ptr 0 0, .ptr 1 0] [.cells 24 c.cells, .cells 34 s.cells, .cells 44 jt] = some (.bool true, some [.cells 24 c.cells, .cells 34 s.cells, .cells 44 jt]))
 (H2 : ∀ k p : Int, k ≠ 2 → zq D.W 31 [.agg (jv k p), .ptr 0 0, .ptr 1 0] [.cells 24 c.cells, .cells 34 s.cells, .cells 44 jt, .cells 44 (jv k p)] = some (.bool true, some [.cells 24 c.cells, .cells 34 s.cells, .cells 44 jt, .cells 44 (jv k p)])) :
 zq D.W 15 [.agg c.cells, .agg s.cells] [] = some (.vs false .sh 6 [], none) := by
 have er := jq s.due
 have ew := wV
 have hc : ∀ n, zt.within n (.cells 24 c.cells) = true := fun n => by simp [zg.cells, LVal.zb, LVal.within]
 have hs : ∀ n, zt.within n (.cells 34 s.cells) = true := fun n => by simp [zD.cells, zA.cells, zl.cells, LVal.zb, LVal.within, ew]
 obtain ⟨ar, ar1, ar2, k⟩ := del30 _ _ (hc 3) (hs 3) H1 H2
 clear H1 H2
 have w1 : IntKind.i64.wrap 1 = 1 ∧ IntKind.i64.wrap 2 = 2 ∧ IntKind.i64.wrap 3 = 3 ∧ IntKind.i64.wrap 5 = 5 ∧ IntKind.i64.wrap 6 = 6 ∧ IntKind.i64.wrap 7 = 7 ∧ IntKind.i64.wrap 8 = 8 := ⟨rfl, rfl, rfl, rfl, rfl, rfl, rfl⟩
 have kp := rY
 have e11 : (11 : Nat) = 0 + 1 + 1 + 1 + 1 + 1 + 1 + 1 + 1 + 1 + 1 + 1 := rfl
 unfold zg.cells zD.cells zA.cells zl.cells jt jv at *
 simp only [List.cons_append, List.nil_append, ho] at *
 have F := an k (an ar1 (an ar2 (an kp (an w1 (an er (an ew mb'))))))
 exact Ret.eq (Ret.of wkl ⟨rfl, rfl⟩)
end Go.Proofs.YtpfnlpakcldobaaGreat
namespace Go.Proofs.YtpfnlpakcldobaaGreat
open Go Go.L
def labS (k p : Int) : yp := ⟨k, p, ⟨0, 0, true, 0, []⟩, false⟩
theorem jd (k p : Int) : (labS k p).cells = jv k p := rfl
theorem allH_ok : (∀ n, zt.within n (.cells 44 jt) = true) ∧ (zt.cells 44 jt).settle = .cells 44 jt := ⟨fun n => by simp [jt, jv, LVal.zb, LVal.within], rfl⟩
theorem labH_ok (k p : Int) : (∀ n, zt.within n (.cells 44 (jv k p)) = true) ∧ (zt.cells 44 (jv k p)).settle = .cells 44 (jv k p) := ⟨fun n => by simp [jv, LVal.zb, LVal.within], rfl⟩
theorem conf_ok (c : zg) : (∀ n, zt.within n (.cells 24 c.cells) = true) ∧ (zt.cells 24 c.cells).settle = .cells 24 c.cells := ⟨fun n => by simp [zg.cells, LVal.zb, LVal.within], rfl⟩
set_option maxHeartbeats 80000000 in
theorem close31a (c : zg) (s : zD) {K : Nat} (h : mg c s K) (hK : K ≤ 70000) (hd : s.due ≠ []) (k p : Int) (hk : k ≠ 2) :
 zq D.W 31 [.agg (jv k p), .ptr 0 0, .ptr 1 0] [.cells 24 c.cells, .cells 34 s.cells, .cells 44 jt] = some (.bool true, some [.cells 24 c.cells, .cells 34 s.cells, .cells 44 jt]) := by
 have c1 := conf_ok c
 have c2 := jh s h.o
 have c3 := allH_ok
 have c4 := labH_ok k p
 obtain ⟨q, a', dv, cv, hS, _, _, kr⟩ := run_eq [.cells 24 c.cells, .cells 34 s.cells, .cells 44 jt, .cells 44 (jv k p)] (by
  intro x hx
  simp only [List.mem_cons, List.mem_nil_iff, or_false] at hx
  rcases hx with rfl | rfl | rfl | rfl
  ·exact c1.1 _
  ·exact c2.1 _
  ·exact c3.1 _
  ·exact c4.1 _) (by
  intro x hx
  simp only [List.mem_cons, List.mem_nil_iff, or_false] at hx
  rcases hx with rfl | rfl | rfl | rfl
  ·exact c1.2
  ·exact c2.2
  ·exact c3.2
  ·exact c4.2) c s (labS k p) h.o h.d (h.ok.mono (by omega)) h.n Wb.nil
 have hq := jk h hS hd hk
 subst hq
 rw [jd] at kr
 generalize (a'.mk' dv cv).obj = W0 at kr
 have er := jq s.due
 have ew := wV
 have ho := h.o
 generalize hA : jt = A at *
 clear hA hS h
 unfold zg.cells zD.cells zA.cells zl.cells jv at *
 simp only [List.cons_append, List.nil_append, ho, List.length_cons, List.length_nil] at *
 have F := an kr (an er (an ew (an c1 (an c2 c3))))
 exact Ret.eq (Ret.of wk ⟨rfl, rfl⟩)
set_option maxHeartbeats 80000000 in
theorem close31b (c : zg) (s : zD) {K : Nat} (h : mg c s K) (hK : K ≤ 70000) (hd : s.due ≠ []) (k p : Int) (hk : k ≠ 2) :
 zq D.W 31 [.agg (jv k p), .ptr 0 0, .ptr 1 0] [.cells 24 c.cells, .cells 34 s.cells, .cells 44 jt, .cells 44 (jv k p)] = some (.bool true, some [.cells 24 c.cells, .cells 34 s.cells, .cells 44 jt, .cells 44 (jv k p)]) := by
 have c1 := conf_ok c
 have c2 := jh s h.o
 have c3 := allH_ok
 have c4 := labH_ok k p
 obtain ⟨q, a', dv, cv, hS, _, _, kr⟩ := run_eq [.cells 24 c.cells, .cells 34 s.cells, .cells 44 jt, .cells 44 (jv k p), .cells 44 (jv k p)] (by
  intro x hx
  simp only [List.mem_cons, List.mem_nil_iff, or_false] at hx
  rcases hx with rfl | rfl | rfl | rfl | rfl
  ·exact c1.1 _
  ·exact c2.1 _
  ·exact c3.1 _
  ·exact c4.1 _
  ·exact c4.1 _) (by
  intro x hx
  simp only [List.mem_cons, List.mem_nil_iff, or_false] at hx
  rcases hx with rfl | rfl | rfl | rfl | rfl
  ·exact c1.2
  ·exact c2.2
  ·exact c3.2
  ·exact c4.2
  ·exact c4.2) c s (labS k p) h.o h.d (h.ok.mono (by omega)) h.n Wb.nil
 have hq := jk h hS hd hk
 subst hq
 rw [jd] at kr
 generalize (a'.mk' dv cv).obj = W0 at kr
 have er := jq s.due
 have ew := wV
 have ho := h.o
 generalize hA : jt = A at *
 clear hA hS h
 unfold zg.cells zD.cells zA.cells zl.cells jv at *
 simp only [List.cons_append, List.nil_append, ho, List.length_cons, List.length_nil] at *
 have F := an kr (an er (an ew (an c1 (an c2 (an c3 c4)))))
 exact Ret.eq (Ret.of wk ⟨rfl, rfl⟩)
theorem hidden_owed (c : zg) (s : zD) {K : Nat} (h : mg c s K) (hK : K ≤ 70000) (hd : s.due ≠ []) : zq D.W 15 [.agg c.cells, .agg s.cells] [] = some (.vs false .sh 6 [], none) :=
 hidden_of c s h.o (close31a c s h hK hd) (close31b c s h hK hd)
end Go.Proofs.YtpfnlpakcldobaaGreat
namespace Go.Proofs.YtpfnlpakcldobaaGreat
open Go Go.L
set_option maxRecDepth 100000 in
set_option maxHeartbeats 80000000 in
theorem loop4 (c : zg) (x : yp) (b : Bool) (m : Nat) (cs : List yp) (hm : cs ≠ [] → m = 6) (hl : cs.length ≤ 80) (hcs : ∀ x ∈ cs, Wb x.item.nil x.item.m x.item.data) (Q : yS → RS → Prop)
 (hE : ∀ (v0 v2 v5 v10 v11 v12 v13 v14 v15 v16 v17 v18 v19 : LVal) (s : zD), mg c s 800 → (v0.zr = false ∧ v2.zr = false ∧ v5.zr = false ∧ v10.zr = false ∧ v11.zr = false ∧ v12.zr = false ∧ v13.zr = false ∧ v14.zr = false ∧ v15.zr = false ∧ v16.zr = false ∧ v17.zr = false ∧ v18.zr = false ∧ v19.zr = false) → Q (.exit 0) ⟨[v0, .vs b .sh m (wS cs), v2, .ptr 0 0, .ptr 1 0, v5, .ptr 2 0, .int .i64 cs.length, .undef, .undef, v10, v11, v12, v13, v14, v15, v16, v17, v18, v19], [.cells 24 c.cells, .cells 44 x.cells, .cells 34 s.cells], []⟩) :
 ∀ (j i : Nat) (s : zD) (v0 v2 v5 v10 v11 v12 v13 v14 v15 v16 v17 v18 v19 : LVal), i + j = cs.length → mg c s (10 + 9 * i) → v0.zr = false → v2.zr = false → v5.zr = false → v10.zr = false → v11.zr = false → v12.zr = false → v13.zr = false → v14.zr = false → v15.zr = false → v16.zr = false → v17.zr = false → v18.zr = false → v19.zr = false →
  Wp D.W (.loop D.b4_0) ⟨[v0, .vs b .sh m (wS cs), v2, .ptr 0 0, .ptr 1 0, v5, .ptr 2 0, .int .i64 i, .undef, .undef, v10, v11, v12, v13, v14, v15, v16, v17, v18, v19], [.cells 24 c.cells, .cells 44 x.cells, .cells 34 s.cells], []⟩ Q
 | 0, i, s, v0, v2, v5, v10, v11, v12, v13, v14, v15, v16, v17, v18, v19, hij, hC, o0, o2, o5, o10, o11, o12, o13, o14, o15, o16, o17, o18, o19 => by
  have hi : i = cs.length := by omega
  subst hi
  have e4 := uT cs
  apply xi
  have F := an o0 (an o2 (an o5 (an o10 (an o11 (an o12 (an o13 (an o14 (an o15 (an o16 (an o17 (an o18 (an o19 e4))))))))))))
  refine Wp.to wp1 (za.e ?_)
  exact hE _ _ _ _ _ _ _ _ _ _ _ _ _ s ⟨hC.o, hC.d, hC.ok.mono (by omega), hC.inv⟩ ⟨o0, o2, o5, o10, o11, o12, o13, rfl, o15, o16, o17, o18, o19⟩
 | j + 1, i, s, v0, v2, v5, v10, v11, v12, v13, v14, v15, v16, v17, v18, v19, hij, hC, o0, o2, o5, o10, o11, o12, o13, o14, o15, o16, o17, o18, o19 => by
  have h1 : i < cs.length := by omega
  have hm2 := hm (fun e => by subst e; simp at h1)
  subst hm2
  have e4 := uT cs
  have g1 : (i : Int) < cs.length := by omega
  have g0 : 0 ≤ (i : Int) ∧ (i : Int) < cs.length := by omega
  have e3 : IntKind.i64.wrap ((i : Int) + 1) = (i : Int) + 1 := vG (by omega) (by omega)
  obtain ⟨e5, e5'⟩ := jg h1
  have e8 := zx cs[i].item.data
  have ew := ua
  have ew2 := wV
  have er := uE s.due
  have ho := hC.o
  obtain ⟨q, s', ho', k14, hq⟩ := jr hC (by omega) cs[i] (hcs _ (List.getElem_mem h1))
  have er' := uE s'.due
  have go : ∀ s2 : zD, mg c s2 (10 + 9 * (i + 1)) → Wp D.W (.loop D.b4_0) ⟨[.undef, .vs b .sh 6 (wS cs), .undef, .ptr 0 0, .ptr 1 0, .undef, .ptr 2 0, .int .i64 ((i : Int) + 1), .undef, .undef, .undef, .undef, .undef, .undef, .undef, .undef, .undef, .undef, .undef, .undef], [.cells 24 c.cells, .cells 44 x.cells, .cells 34 s2.cells], []⟩ Q := fun s2 h2 => by
   have ih := loop4 c x b 6 cs hm hl hcs Q hE j (i + 1) s2 .undef .undef .undef .undef .undef .undef .undef .undef .undef .undef .undef .undef .undef (by omega) h2 rfl rfl rfl rfl rfl rfl rfl rfl rfl rfl rfl rfl rfl
   have ec : ((i + 1 : Nat) : Int) = (i : Int) + 1 := by omega
   rw [ec] at ih
   exact ih
  apply xi
  have O : (v0.zr = false ∧ v2.zr = false ∧ v5.zr = false ∧ v10.zr = false ∧ v11.zr = false ∧ v12.zr = false ∧ v13.zr = false ∧ v14.zr = false ∧ v15.zr = false ∧ v16.zr = false ∧ v17.zr = false ∧ v18.zr = false ∧ v19.zr = false) := ⟨o0, o2, o5, o10, o11, o12, o13, o14, o15, o16, o17, o18, o19⟩
  cases q with
  | false =>
   have hgo := go s ⟨hC.o, hC.d, hC.ok.mono (by omega), hC.inv⟩
   clear go
   unfold zg.cells zD.cells zA.cells zl.cells yp.cells at *
   simp only [List.cons_append, List.nil_append, ho, ho'] at *
   have F := an O (an e4 (an g1 (an g0 (an e3 (an e5 (an e5' (an e8 (an ew (an ew2 (an er (an er' (an h1 (an k14 mb')))))))))))))
   exact Wp.to js (za.n hgo)
  | true =>
   obtain ⟨hC', _⟩ := hq rfl
   have hgo := go s' ⟨hC'.o, hC'.d, hC'.ok.mono (by omega), hC'.inv⟩
   clear go hq hC hC'
   unfold zg.cells zD.cells zA.cells zl.cells yp.cells at *
   simp only [List.cons_append, List.nil_append, ho, ho'] at *
   have F := an O (an e4 (an g1 (an g0 (an e3 (an e5 (an e5' (an e8 (an ew (an ew2 (an er (an er' (an h1 (an k14 mb')))))))))))))
   exact Wp.to js (za.n hgo)
theorem dues_at {l : List yu} {i : Nat} (hi : i < l.length) : (zL l)[i]? = some (.agg [.int .i64 l[i].kind, .int .i64 l[i].zd, .int .i64 l[i].id, .str l[i].data]) ∧
 ∀ h, (zL l)[i]'h = .agg [.int .i64 l[i].kind, .int .i64 l[i].zd, .int .i64 l[i].id, .str l[i].data] := by
 have e : (zL l)[i]? = some (.agg [.int .i64 l[i].kind, .int .i64 l[i].zd, .int .i64 l[i].id, .str l[i].data]) := by simp [zL, yu.cells, hi]
 exact ⟨e, fun h => by have := List.getElem?_eq_getElem h; rw [e] at this; exact (Option.some.inj this).symm⟩
theorem ju (l : List yu) : (zL l).length = l.length := by simp [zL]
set_option maxRecDepth 100000 in
set_option maxHeartbeats 80000000 in
theorem loop4b (c : zg) (x : yp) (s s' : zD) (ho : s.o = .sh) (ho' : s'.o = .sh) (hm : s.m = 4) (hm' : s'.due ≠ [] → s'.m = 4) (d : yu) (r ex : List yu) (hd : s.due = d :: r) (hd' : s'.due = r ++ ex) (hr : r.length ≤ 100000) (Q : yS → RS → Prop)
 (hE : ∀ (v0 v1 v2 v3 v4 v5 v7 v8 v9 v11 v13 v14 v15 v16 v17 v18 : LVal), (v0.zr = false ∧ v1.zr = false ∧ v2.zr = false ∧ v3.zr = false ∧ v4.zr = false ∧ v5.zr = false ∧ v7.zr = false ∧ v8.zr = false ∧ v9.zr = false ∧ v11.zr = false ∧ v13.zr = false ∧ v14.zr = false ∧ v15.zr = false ∧ v16.zr = false ∧ v17.zr = false ∧ v18.zr = false) → Q (.exit 2) ⟨[v0, v1, v2, v3, v4, v5, .ptr 2 0, v7, v8, v9, .ptr 3 0, v11, .int .i64 ((r.length : Int) + 1), v13, v14, v15, v16, v17, v18, .undef], [.cells 24 c.cells, .cells 44 x.cells, .cells 34 s.cells, .cells 34 s'.cells], []⟩) :
 ∀ (n j : Nat) (v0 v1 v2 v3 v4 v5 v7 v8 v9 v11 v13 v14 v15 v16 v17 v18 : LVal), j + n = r.length → v0.zr = false → v1.zr = false → v2.zr = false → v3.zr = false → v4.zr = false → v5.zr = false → v7.zr = false → v8.zr = false → v9.zr = false → v11.zr = false → v13.zr = false → v14.zr = false → v15.zr = false → v16.zr = false → v17.zr = false → v18.zr = false →
  Wp D.W (.loop D.b4_2) ⟨[v0, v1, v2, v3, v4, v5, .ptr 2 0, v7, v8, v9, .ptr 3 0, v11, .int .i64 ((j : Int) + 1), v13, v14, v15, v16, v17, v18, .undef], [.cells 24 c.cells, .cells 44 x.cells, .cells 34 s.cells, .cells 34 s'.cells], []⟩ Q
 | 0, j, v0, v1, v2, v3, v4, v5, v7, v8, v9, v11, v13, v14, v15, v16, v17, v18, hij, o0, o1, o2, o3, o4, o5, o7, o8, o9, o11, o13, o14, o15, o16, o17, o18 => by
  have hj : j = r.length := by omega
  subst hj
  have e1 := ju s.due
  have e2 : s.due.length = r.length + 1 := by rw [hd]; rfl
  have g1 : ¬ ((r.length : Int) + 1 < ((s.due.length : Nat) : Int)) := by rw [e2]; omega
  apply xi
  have fin := hE v0 v1 v2 v3 v4 v5 v7 v8 v9 v11 v13 v14 v15 v16 v17 (.bool false) ⟨o0, o1, o2, o3, o4, o5, o7, o8, o9, o11, o13, o14, o15, o16, o17, rfl⟩
  unfold zg.cells zD.cells zA.cells zl.cells yp.cells at *
  simp only [List.cons_append, List.nil_append, ho, ho'] at *
  have F := an o0 (an o1 (an o2 (an o3 (an o4 (an o5 (an o7 (an o8 (an o9 (an o11 (an o13 (an o14 (an o15 (an o16 (an o17 (an o18 (an e1 g1))))))))))))))))
  exact Wp.to wp1 (za.e fin)
 | n + 1, j, v0, v1, v2, v3, v4, v5, v7, v8, v9, v11, v13, v14, v15, v16, v17, v18, hij, o0, o1, o2, o3, o4, o5, o7, o8, o9, o11, o13, o14, o15, o16, o17, o18 => by
  have hj : j < r.length := by omega
  have e1 := ju s.due
  have e1' := ju s'.due
  have e2 : s.due.length = r.length + 1 := by rw [hd]; rfl
  have e2' : s'.due.length = r.length + ex.length := by rw [hd']; simp
  have hm4 := hm' (fun e => by rw [e] at e2'; simp only [List.length_nil] at e2'; omega)
  have hs1 : j + 1 < s.due.length := by omega
  have hs2 : j < s'.due.length := by omega
  have he1 : s.due[j + 1] = r[j] := by simp only [hd, List.getElem_cons_succ]
  have he2 : s'.due[j] = r[j] := by simp only [hd']; rw [List.getElem_append_left hj]
  obtain ⟨a1, a1'⟩ := dues_at hs1
  obtain ⟨a2, a2'⟩ := dues_at hs2
  rw [he1] at a1 a1'
  rw [he2] at a2 a2'
  have g1 : (j : Int) + 1 < ((s.due.length : Nat) : Int) := by omega
  have g2 : 0 ≤ (j : Int) + 1 ∧ (j : Int) + 1 < ((s.due.length : Nat) : Int) := by omega
  have g3 : 0 ≤ (j : Int) ∧ (j : Int) < ((s'.due.length : Nat) : Int) := by omega
  have g4 : IntKind.i64.wrap ((j : Int) + 1 - 1) = (j : Int) := by rw [vG (by omega) (by omega)]; omega
  have g5 : IntKind.i64.wrap ((j : Int) + 1 + 1) = (j : Int) + 1 + 1 := vG (by omega) (by omega)
  have g6 : ((j : Int) + 1).toNat = j + 1 := by omega
  have g4' : IntKind.i64.wrap (j : Int) = (j : Int) := vG (by omega) (by omega)
  have ew2 := wV
  have er := uE s.due
  have er' := uE s'.due
  have ih := loop4b c x s s' ho ho' hm hm' d r ex hd hd' hr Q hE n (j + 1) .undef .undef .undef .undef .undef .undef .undef .undef .undef .undef .undef .undef .undef .undef .undef .undef (by omega) rfl rfl rfl rfl rfl rfl rfl rfl rfl rfl rfl rfl rfl rfl rfl rfl
  have ec : ((j + 1 : Nat) : Int) = (j : Int) + 1 := by omega
  rw [ec] at ih
  apply xi
  unfold zg.cells zD.cells zA.cells zl.cells yp.cells at *
  simp only [List.cons_append, List.nil_append, ho, ho', hm, hm4] at *
  have F := an o0 (an o1 (an o2 (an o3 (an o4 (an o5 (an o7 (an o8 (an o9 (an o11 (an o13 (an o14 (an o15 (an o16 (an o17 (an o18 (an e1 (an e1' (an a1 (an a1' (an a2 (an a2' (an g1 (an g2 (an g3 (an g4 (an g4' (an g5 (an g6 (an hs1 (an hs2 (an ew2 (an er (an er' mb')))))))))))))))))))))))))))))))))
  exact Wp.to js (za.n ih)
set_option maxRecDepth 100000 in
set_option maxHeartbeats 80000000 in
theorem jD (c : zg) (b : Bool) (m : Nat) (cs : List yp) (hw : Wl b m cs) (hl : cs.length ≤ 9223372036854775807) (hcs : ∀ x ∈ cs, Wb x.item.nil x.item.m x.item.data) (x : yp) (hx : Wb x.item.nil x.item.m x.item.data) :
 zq D.W 4 [.agg c.cells, .vs b .sh m (wS cs), .agg x.cells] [] = some (.bool true, none) := by
 have ka : zq D.W 7 [] [] = some (.bool true, none) := toW (xJ.2 ⟨400, jl⟩)
 obtain ⟨q, kf, hf⟩ := jC c b m cs hw hl
 have ks := start_eq c
 have ep := qz cs
 have e4 := uT cs
 have ew := ua
 have ex1 := zx x.item.data
 have ex2 := ze x.item.data
 have ex3 := fun n => zG n x.item.data
 have hm : cs ≠ [] → m = 6 := fun hne => by rcases hw with ⟨_, h⟩ | ⟨_, h⟩; exact h; exact absurd h hne
 have ec : c.cells = [.int .i64 c.mc, .int .i64 c.mt, .int .i64 c.mf, .int .i64 c.mru, .str c.s1, .str c.s2, .int .i64 c.n, .int .u32 c.m, .bool c.b] := rfl
 have exc : x.cells = [.int .i64 x.kind, .int .i64 x.zd, .int .i64 x.item.dir, .int .i64 x.item.zd, .vs x.item.nil .sh x.item.m (zy x.item.data), .bool x.vo] := rfl
 cases q with
 | false =>
  refine Ret.eq ?_
  rw [ec] at kf ⊢
  rw [exc]
  have F := an ka (an kf (an ep (an ex1 (an ex2 ex3))))
  exact Ret.of wk ⟨rfl, rfl⟩
 | true =>
  by_cases h1000 : (x.item.data.length : Int) ≤ 1000
  case neg =>
   refine Ret.eq ?_
   have h1000' : (1000 : Int) < x.item.data.length := by omega
   rw [ec] at kf ⊢
   rw [exc]
   have F := an ka (an kf (an ep (an ex1 (an ex2 (an ex3 (an h1000 h1000'))))))
   exact Ret.of wk ⟨rfl, rfl⟩
  have h1000' : ¬ (1000 : Int) < x.item.data.length := by omega
  obtain ⟨hg, h1, h2, h80, _⟩ := hf rfl
  have hC := jn hg h1 h2
  have hL := loop4 c x b m cs hm h80 hcs
  refine Ret.eq ?_
  have es : (lB c).cells = [.int .i64 0, .int .i64 0, .int .i64 c.mf, .bool false, .bool false, .int .i64 0, .str [], .int .i64 0, .int .i64 0, .int .i64 c.mf, .bool false, .bool false, .int .i64 0, .str [], .int .i64 0, .int .i64 0, .int .i64 c.mf, .bool false, .bool false, .int .i64 0, .str [], .int .i64 0, .int .i64 0, .bool false, .bool false, .bool false, .int .i64 0, .str [], .bool false, .int .i64 0, .vs true .sh 0 []] := rfl
  have hL2 := fun Q hE => hL Q hE cs.length 0 (lB c) (.agg c.cells) (.agg x.cells) (.bool false) .undef .undef .undef (.bool false) .undef .undef .undef .undef .undef .undef (by omega) (by simpa using hC) rfl rfl rfl rfl rfl rfl rfl rfl rfl rfl rfl rfl rfl
  rw [es] at ks hL2
  rw [ec] at kf ks hL2 ⊢
  rw [exc] at hL2 ⊢
  have F := an ka (an kf (an ks (an ep (an e4 (an ew (an ex1 (an ex2 (an ex3 (an h1000 h1000')))))))))
  refine wk2 ?_
  refine hL2 _ ?_
  clear hL hL2 F ks
  intro v0 v2 v5 v10 v11 v12 v13 v14 v15 v16 v17 v18 v19 s hCs O
  have hsw : ∀ n, LVal.zb n s.cells = true := fun n => by simp [zD.cells, zA.cells, zl.cells, LVal.zb, LVal.within, wV]
  obtain ⟨q2, s', ho', k14, hq⟩ := jr hCs (by omega) x hx
  have ho := hCs.o
  have er := uE s.due
  have er' := uE s'.due
  have ew2 := wV
  have el := ju s.due
  have el' := ju s'.due
  by_cases hz : s.due = []
  case pos =>
   have hz' : s.due.length = 0 := by rw [hz]; rfl
   unfold zD.cells zA.cells zl.cells at *
   simp only [List.cons_append, List.nil_append, ho, ho', ec, exc] at *
   cases q2 with
   | true =>
    have F := an O (an ep (an e4 (an ew (an ex1 (an ex2 (an ex3 (an k14 (an er (an er' (an ew2 (an el (an hz' mb'))))))))))))
    exact wz
   | false =>
    have F := an O (an ep (an e4 (an ew (an ex1 (an ex2 (an ex3 (an k14 (an er (an er' (an ew2 (an el (an hz' mb'))))))))))))
    exact wz
  have hz' : ¬ (s.due.length : Int) = 0 := fun e => hz (List.length_eq_zero_iff.1 (by omega))
  have hzb : (((s.due.length : Nat) : Int) == 0) = false := by simpa using hz'
  cases q2 with
  | false =>
   unfold zD.cells zA.cells zl.cells at *
   simp only [List.cons_append, List.nil_append, ho, ho', ec, exc] at *
   have F := an O (an ep (an e4 (an ew (an ex1 (an ex2 (an ex3 (an k14 (an er (an er' (an ew2 (an el (an hz' (an hzb mb')))))))))))))
   exact wz
  | true =>
   obtain ⟨hC', a', hS, hw'⟩ := hq rfl
   obtain ⟨d, r, hd⟩ : ∃ d r, s.due = d :: r := by
    cases h : s.due with
    | nil => exact absurd h hz
    | cons d r => exact ⟨d, r, rfl⟩
   obtain ⟨hk2, ex, hd', hex⟩ := owed_law hCs hS hd
   have hdd : s'.due = r ++ ex := by
    have : (s'.w c).ds = a'.ds := by rw [hw']
    rw [← hd']; exact this
   have hn' : s'.net = a'.net := by
    have : (s'.w c).net = a'.net := by rw [hw']; rfl
    exact this
   have hkb : (x.kind != 2) = false := by rw [hk2]; rfl
   have kh := hidden_owed c s hCs (by omega) hz
   have k16 := jA s ho
   have k16' := jA s' ho'
   have hm4 : s.m = 4 := by rcases hCs.d with ⟨_, h⟩ | ⟨_, h⟩; exact h; exact absurd h hz
   have hm4' : s'.due ≠ [] → s'.m = 4 := fun hne => by rcases hC'.d with ⟨_, h⟩ | ⟨_, h⟩; exact h; exact absurd h hne
   have hr : r.length ≤ 100000 := by
    have h1 := hCs.ok.due
    have h2 : (s.w c).ds.length = r.length + 1 := by show s.due.length = _; rw [hd]; rfl
    omega
   have e2 : s.due.length = r.length + 1 := by rw [hd]; rfl
   have e2' : s'.due.length = r.length + ex.length := by rw [hdd]; simp
   have hexl : ex.length ≤ 100000 := by
    have h1 := hC'.ok.due
    have h2 : (s'.w c).ds.length = s'.due.length := rfl
    omega
   have hL3 := fun Q hE => loop4b c x s s' ho ho' hm4 hm4' d r ex hd hdd hr Q hE r.length 0
   have f1 : IntKind.i64.wrap (((s.due.length : Nat) : Int) - 1) = (r.length : Int) := by rw [vG (by omega) (by omega)]; omega
   have f2 : ¬ (((s'.due.length : Nat) : Int) < (r.length : Int)) := by omega
   have w1 : IntKind.i64.wrap 1 = 1 := rfl
   clear hC' hS hw' hCs hq hd'
   unfold zD.cells zA.cells zl.cells at *
   simp only [List.cons_append, List.nil_append, ho, ho', ec, exc] at *
   have F := an O (an ep (an e4 (an ew (an ex1 (an ex2 (an ex3 (an k14 (an er (an er' (an ew2 (an el (an el' (an hz' (an hzb (an hkb (an kh (an f1 (an f2 (an w1 mb')))))))))))))))))))
   refine gow ?_
   refine hL3 _ ?fin _ _ _ _ _ _ _ _ _ _ _ _ _ _ _ _ (by omega) ?_ ?_ ?_ ?_ ?_ ?_ ?_ ?_ ?_ ?_ ?_ ?_ ?_ ?_ ?_ ?_
   case fin =>
    clear F hL3
    intro u0 u1 u2 u3 u4 u5 u7 u8 u9 u11 u13 u14 u15 u16 u17 u18 O2
    rcases hex with hex | ⟨hx1, hx2⟩
    ·subst hex
     have f3 : ((s'.due.length : Nat) : Int) = (r.length : Int) := by rw [e2']; simp
     have F := an O2 (an el (an el' (an f1 (an f3 (an k16 (an k16' (an er (an er' (an ew2 mb')))))))))
     exact wz
    ·have f3 : s'.net = true := hn'.trans hx1
     have f4 : s.net = false := hx2
     rw [f3] at k16'
     rw [f4] at k16
     by_cases f5 : ((s'.due.length : Nat) : Int) = (r.length : Int)
     ·have F := an O2 (an el (an el' (an f1 (an f5 (an k16 (an k16' (an er (an er' (an ew2 mb')))))))))
      exact wz
     ·have F := an O2 (an el (an el' (an f1 (an f5 (an k16 (an k16' (an er (an er' (an ew2 mb')))))))))
      exact wz
   all_goals first | rfl | simp [O]
end Go.Proofs.YtpfnlpakcldobaaGreat
set_option maxRecDepth 100000
namespace Go.Proofs.YtpfnlpakcldobaaGreat
open Go Go.L Go.ChangeShapes Go.WideShapes Go.ChangeAt Go.RowKit
theorem jj (os : Os) (started : os.Started) (H : Type) (enc : TypeId × Value → H) :
 ReturnsInHanded {} Tryz.checked os 4 .any (Rows.specOwedSpec.pre6 enc Tryz.prog Tryz.f4 Rows.specOwedRow.domain false) (Rows.specOwedSpec.post enc Tryz.prog Tryz.f4 false true false false) := by
 refine returnsInHanded_of_change (C := Tryz.checked) Tryz.own started (by kernel_rfl) Tryz.func4
  (ChangeSpec.witness6 (enc := enc) (C := Tryz.checked) false ⟨#[], #[z24, .slice none 0 0, z44], []⟩ 8 (by kernel_rfl) (by kernel_rfl) (by kernel_rfl) (by kernel_rfl)) ?_
 intro W base args ds gs before hval hW _ _
 have hval' : ∀ (j : Nat) t v, Tryz.f4.params[j]? = some t → args[j]? = some v → Value.okWide Tryz.prog W .any base t v := hval
 have hW' : DataW.Whole enc Tryz.prog Tryz.f4.params.toList Rows.specOwedSpec.vars false W args.toList ds gs before := hW
 have hp : Tryz.f4.params.toList = [24, 39, 44] := by rw [Tryz.params4]
 refine lQ oW (fn := Tryz.f4) (s := Rows.specOwedSpec) (d := 8) (tb := 4) Tryz.laidOut (by kernel_rfl) u4 ?_ ?_ rfl ?_ hval' hW' ?_
 ·rw [hp]; intro t ht; simp at ht; rcases ht with rfl | rfl | rfl
  ·exact rr24
  ·exact rr39
  ·exact rr44
 ·rw [hp]; intro t ht; simp at ht; rcases ht with rfl | rfl | rfl
  ·exact rd24
  ·exact rd39
  ·exact rd44
 ·rw [hp]
  intro largs h
  obtain ⟨u, v, x, rfl, h1, h2, h3⟩ := args_three h
  obtain ⟨c, rfl, _⟩ := jb h1
  obtain ⟨b, l, rfl, k1, k2, k3⟩ := je h2
  obtain ⟨x, rfl, k4⟩ := label_arg h3
  exact jD c b 6 l k1 k2 k3 x k4
 ·obtain ⟨p, q, hA, hV, _, _, _⟩ := hW'
  rw [hp] at hA
  have hl := pX hA
  obtain ⟨rfl, _⟩ := trodVars_none hV
  match ds, hl with
  | [d1, d2, d3], _ => exact ⟨rfl, rfl, rfl⟩
theorem specOwed_holds : Rows.SpecOwedSaid :=
 OpenClaim.holds_of_wide 4 Tryz.f4 rfl rfl rfl rfl rfl rfl rfl ⟨rfl, rfl, rfl, rfl, rfl⟩ rfl rfl rfl rfl rfl (by kernel_rfl) Tryz.func4 (by kernel_rfl)
  (of_decide_eq_true (by kernel_rfl)) (by unfold Func.isWrapper; first | (rw [if_pos (by decide +kernel)]; kernel_rfl) | (rw [if_neg (by decide +kernel)]; exact ⟨rfl, rfl⟩))
  (fun os started H enc _ => jj os started H enc)
#print axioms specOwed_holds
end Go.Proofs.YtpfnlpakcldobaaGreat
