/- SpecNaks is proved: at every config and every list of labels that are handed in as the row says, the law specNaks returns true, does not panic, and leaves what it was handed as it found it.
   Conditions: those of the given statement alone (every machine that has started, every world, every reading of the config and the labels); no premise is added. -/
import Derived.Test.YtpfnlpakcldobaaGreatARJ13
import Derived.Test.YtpfnlpakcldobaaGreatARZ5
import Derived.Test.YtpfnlpakcldobaaGreatARS1
set_option linter.unusedVariables false
set_option linter.unusedSimpArgs false
set_option linter.unusedSectionVars false
namespace Go.Proofs.YtpfnlpakcldobaaGreat
open Go Go.L
theorem jm (a : AW) (i j : Nat) (hi : i < 3) (hj : j < 3) (l : zA) : (a.xa i l).link j = if j = i then l else a.link j := by
 match i, hi, j, hj with
 | 0, _, 0, _ => rfl
 | 0, _, 1, _ => rfl
 | 0, _, 2, _ => rfl
 | 1, _, 0, _ => rfl
 | 1, _, 1, _ => rfl
 | 1, _, 2, _ => rfl
 | 2, _, 0, _ => rfl
 | 2, _, 1, _ => rfl
 | 2, _, 2, _ => rfl
theorem link_gd (a : AW) (g : zl) (ds : List yu) (n : Nat) (j : Nat) : ({ a with g := g, ds := ds, n := n } : AW).link j = a.link j := rfl
theorem lg (a : AW) (i e : Nat) (hi : i < 3) (id : Int) (data : List UInt8) (j : Nat) (hj : j < 3) : ((zk a i e id data).1.link j).zT = (a.link j).zT := by
 rcases tJ a i e id data with h | ⟨_, h⟩
 ·rw [h]
 ·rw [h, link_gd, jm a i j hi hj]
  split
  ·rename_i h; subst h; rfl
  ·rfl
theorem cameA_naks {a a' : AW} {i : Nat} (hi : i < 3) (hA : qb a i a') (j : Nat) (hj : j < 3) : (a'.link j).zT = (a.link j).zT := by
 rcases hA with hA | ⟨e, id, data, he, hd, hA⟩ | ⟨_, t, id, data, hd, hA⟩ | ⟨id, hA⟩ | ⟨_, id, hA⟩ | ⟨_, id, r, hr, hA⟩
 ·rw [hA]
 ·rw [hA]; exact lg a i e hi id data j hj
 ·rw [hA]; exact lg a 0 7 (by decide) id data j hj
 ·have hs : ((a.xa i { a.link i with zm := true }).link j).zT = (a.link j).zT := by
   rw [jm a i j hi hj]
   split
   ·rename_i h; subst h; rfl
   ·rfl
  rcases hA with hA | ⟨e, he, hA⟩
  ·rw [hA]
  ·rcases hA with hA | ⟨_, _, t, hA⟩
   ·rw [hA, lg _ i e hi id [] j hj]; exact hs
   ·rw [hA]
    exact (lg (a.xa i { a.link i with zm := true }) i e hi id [] j hj).trans hs
 ·rcases hA with hA | hA | hA | ⟨_, k, hk, hA⟩
  ·rw [hA]
  ·rw [hA]; exact lg a 0 14 (by decide) id [] j hj
  ·rw [hA]; exact lg a 0 15 (by decide) id [] j hj
  ·rw [hA]; exact lg a k 15 (by omega) id [] j hj
 ·rw [hA]; exact lg a 0 16 (by decide) id r j hj
theorem ja (a : AW) (was : Bool) (j : Nat) (hj : j < 3) : ((wg a was).link j).zT = (a.link j).zT := by
 unfold wg
 split
 ·rfl
 ·dsimp only
  rw [lg _ 2 _ (by decide) 0 [] j hj, lg _ 1 _ (by decide) 0 [] j hj]
theorem jB (k : Nat) (hk : k < 3) : vX (tq k) = k := by
 match k, hk with
 | 0, _ => rfl
 | 1, _ => rfl
 | 2, _ => rfl
theorem pd.same {l : List UInt8} {p p' : zE} (h : pd l p) (h' : pd l p') : p.code = p'.code := h.2.1.trans h'.2.1.symm
def NakR (mf : Int) (l : yp) (j : Nat) (n n' : Int) : Prop :=
 (n' = n ∧ ∀ p, l.kind = 2 → vX l.item.zd = j → pd l.item.data p → p.code ≠ 2 ∧ p.code ≠ 3) ∨
 (l.kind = 2 ∧ vX l.item.zd = j ∧ ∃ p, pd l.item.data p ∧ ((p.code = 2 ∧ n' = mf) ∨ (p.code = 3 ∧ n' = n - 1 ∧ 0 ≤ n')))
theorem midA_naks {a a' : AW} {k : Nat} (h : a.ok k) {l : yp} (hM : rq a l true a') (j : Nat) (hj : j < 3) : NakR a.c.mf l j (a.link j).zT (a'.link j).zT := by
 rcases hM with ⟨hk2, d, r, hds, hO⟩ | ⟨hk2, hds, hF⟩ | ⟨_, hq, _⟩ | ⟨hk2, _, hH⟩ | ⟨hk2, _, i, e, hi, he, rfl⟩
 ·rcases hO with ⟨hq, _⟩ | ⟨i, p, hi, hpr, hg, hp, hA⟩ | ⟨hk9, hpr, g', hg, rfl⟩
  ·cases hq
  ·obtain ⟨l', rfl, h1, h2, _, _, h5⟩ := hA
   have hlf : vX l.item.zd = i := by rw [← hpr]; exact jB i hi
   rw [jm _ i j hi hj]
   split
   ·rename_i hji; subst hji
    rcases h5 rfl with ⟨c, hn⟩ | ⟨c, hn, h0⟩ | ⟨⟨c2, c3⟩, hn⟩
    ·exact .inr ⟨hk2, hlf, p, hg, .inl ⟨c, hn⟩⟩
    ·exact .inr ⟨hk2, hlf, p, hg, .inr ⟨c, hn, h0⟩⟩
    ·exact .inl ⟨hn, fun p' _ _ hp' => by rw [← hg.same hp']; exact ⟨c2, c3⟩⟩
   ·rename_i hji
    exact .inl ⟨rfl, fun p' _ hl _ => absurd (hlf.symm.trans hl) (by omega)⟩
  ·have hd := h.ds d (by rw [hds]; exact List.mem_cons_self ..)
   have hx : l.item.zd = 49187 ∨ l.item.zd = 49699 := by
    rw [hpr]
    rcases hd.2 with ⟨_, h8, _⟩ | ⟨_, _, hh⟩
    ·omega
    ·exact hh
   refine .inl ⟨rfl, fun p' _ hl _ => ?_⟩
   rcases hx with hx | hx <;> rw [hx] at hl <;> exact absurd hl (by have : vX 49187 = -1 := rfl; have : vX 49699 = -1 := rfl; omega)
 ·obtain ⟨g', hg, rfl, hq⟩ := hF
  refine .inl ⟨rfl, fun p' _ hl hp' => ?_⟩
  rcases hq rfl with h | ⟨p, hp, c2, c3⟩
  ·rw [h] at hl; omega
  ·rw [← hp.same hp']; exact ⟨c2, c3⟩
 ·cases hq
 ·refine .inl ⟨?_, fun p' h2 => absurd h2 hk2⟩
  rcases hH with rfl | ⟨i, hi, _, hC⟩ | ⟨hx, hL⟩ | ⟨data, hd, rfl⟩
  ·rfl
  ·exact cameA_naks hi hC j hj
  ·rcases hL with rfl | ⟨g', ds, hg, hh, rfl⟩
   ·rfl
   ·rfl
  ·rfl
 ·refine .inl ⟨?_, fun p' h2 => absurd h2 hk2⟩
  unfold s6
  split
  ·rfl
  ·exact lg a i _ hi 0 [] j hj
theorem jo {a a' : AW} {k : Nat} (h : a.ok k) {l : yp} (hS : rS a l true a') (j : Nat) (hj : j < 3) : NakR a.c.mf l j (a.link j).zT (a'.link j).zT := by
 rcases hS with ⟨hq, _⟩ | ⟨a1, hM, rfl⟩
 ·cases hq
 ·rw [ja a1 a.net j hj]
  exact midA_naks h hM j hj
end Go.Proofs.YtpfnlpakcldobaaGreat
namespace Go.Proofs.YtpfnlpakcldobaaGreat
open Go Go.L
def NI (c : zg) (s : zD) (n0 n1 n2 : Int) : Prop :=
 (0 ≤ n0 ∧ n0 + s.l0.zT ≤ c.mf) ∧ (0 ≤ n1 ∧ n1 + s.l1.zT ≤ c.mf) ∧ (0 ≤ n2 ∧ n2 + s.l2.zT ≤ c.mf)
set_option maxRecDepth 100000 in
set_option maxHeartbeats 200000000 in
theorem loop6 (c : zg) (hmf : 1 ≤ c.mf ∧ c.mf ≤ 255) (b : Bool) (m : Nat) (cs : List yp) (hm : cs ≠ [] → m = 6) (hl : cs.length ≤ 80) (hcs : ∀ x ∈ cs, Wb x.item.nil x.item.m x.item.data) (hcl : ∀ x ∈ cs, x.item.data.length ≤ 1000) (Q : yS → RS → Prop)
 (hE : ∀ v0 v3 v7 v8 v9 v10 v11 v12 v13 v14 v15 v16 v17 v18 (s : zD) (n0 n1 n2 : Int), (v0.zr = false ∧ v3.zr = false ∧ v7.zr = false ∧ v8.zr = false ∧ v9.zr = false ∧ v10.zr = false ∧ v11.zr = false ∧ v12.zr = false ∧ v13.zr = false ∧ v14.zr = false ∧ v15.zr = false ∧ v16.zr = false ∧ v17.zr = false ∧ v18.zr = false) → Q (.exit 0) ⟨[v0, .vs b .sh m (wS cs), .ptr 0 0, v3, .ptr 1 0, .ptr 2 0, .int .i64 cs.length, v7, v8, v9, v10, v11, v12, v13, v14, v15, v16, v17, v18], [.cells 24 c.cells, .cells 34 s.cells, .cells 54 [.int .i64 n0, .int .i64 n1, .int .i64 n2]], []⟩) :
 ∀ (j i : Nat) (s : zD) (n0 n1 n2 : Int) (v0 v3 v7 v8 v9 v10 v11 v12 v13 v14 v15 v16 v17 v18 : LVal), i + j = cs.length → mg c s (10 + 9 * i) → NI c s n0 n1 n2 → v0.zr = false → v3.zr = false → v7.zr = false → v8.zr = false → v9.zr = false → v10.zr = false → v11.zr = false → v12.zr = false → v13.zr = false → v14.zr = false → v15.zr = false → v16.zr = false → v17.zr = false → v18.zr = false →
  Wp D.W (.loop D.b6_0) ⟨[v0, .vs b .sh m (wS cs), .ptr 0 0, v3, .ptr 1 0, .ptr 2 0, .int .i64 i, v7, v8, v9, v10, v11, v12, v13, v14, v15, v16, v17, .undef], [.cells 24 c.cells, .cells 34 s.cells, .cells 54 [.int .i64 n0, .int .i64 n1, .int .i64 n2]], []⟩ Q
 | 0, i, s, n0, n1, n2, v0, v3, v7, v8, v9, v10, v11, v12, v13, v14, v15, v16, v17, v18, hij, hC, hN, o0, o3, o7, o8, o9, o10, o11, o12, o13, o14, o15, o16, o17, o18 => by
  have hi : i = cs.length := by omega
  subst hi
  have e4 := uT cs
  apply xi
  have F := an o0 (an o3 (an o7 (an o8 (an o9 (an o10 (an o11 (an o12 (an o13 (an o14 (an o15 (an o16 (an o17 (an o18 e4)))))))))))))
  refine Wp.to wp1 (za.e ?_)
  exact hE _ _ _ _ _ _ _ _ _ _ _ _ _ _ s n0 n1 n2 ⟨o0, o3, o7, o8, o9, o10, o11, o12, rfl, o14, o15, o16, o17, rfl⟩
 | j + 1, i, s, n0, n1, n2, v0, v3, v7, v8, v9, v10, v11, v12, v13, v14, v15, v16, v17, v18, hij, hC, hN, o0, o3, o7, o8, o9, o10, o11, o12, o13, o14, o15, o16, o17, o18 => by
  have h1 : i < cs.length := by omega
  have hm2 := hm (fun e => by subst e; simp at h1)
  subst hm2
  have e4 := uT cs
  have g1 : (i : Int) < cs.length := by omega
  have g0 : 0 ≤ (i : Int) ∧ (i : Int) < cs.length := by omega
  have e3 : IntKind.i64.wrap ((i : Int) + 1) = (i : Int) + 1 := vG (by omega) (by omega)
  obtain ⟨e5, e5'⟩ := jg h1
  have e8 := zx cs[i].item.data
  have ew := ua
  have ew2 := wV
  have er := uE s.due
  have ho := hC.o
  have hmem := List.getElem_mem h1
  obtain ⟨q, s', ho', k14, hq⟩ := jr hC (by omega) cs[i] (hcs _ hmem)
  obtain ⟨p, e, k18, hp, _, _, hgot, hno⟩ := get18 cs[i].item.nil cs[i].item.m cs[i].item.data (hcs _ hmem) (by have := hcl _ hmem; omega)
  have k17 := link17_eq cs[i].item.zd
  have er' := uE s'.due
  have e9 := zx p.data
  have go : ∀ (s2 : zD) (m0 m1 m2 : Int), mg c s2 (10 + 9 * (i + 1)) → NI c s2 m0 m1 m2 → Wp D.W (.loop D.b6_0) ⟨[.undef, .vs b .sh 6 (wS cs), .ptr 0 0, .undef, .ptr 1 0, .ptr 2 0, .int .i64 ((i : Int) + 1), .undef, .undef, .undef, .undef, .undef, .undef, .undef, .undef, .undef, .undef, .undef, .undef], [.cells 24 c.cells, .cells 34 s2.cells, .cells 54 [.int .i64 m0, .int .i64 m1, .int .i64 m2]], []⟩ Q := fun s2 m0 m1 m2 h2 h3 => by
   have ih := loop6 c hmf b 6 cs hm hl hcs hcl Q hE j (i + 1) s2 m0 m1 m2 .undef .undef .undef .undef .undef .undef .undef .undef .undef .undef .undef .undef .undef .undef (by omega) h2 h3 rfl rfl rfl rfl rfl rfl rfl rfl rfl rfl rfl rfl rfl rfl
   have ec : ((i + 1 : Nat) : Int) = (i : Int) + 1 := by omega
   rw [ec] at ih
   exact ih
  have w : IntKind.i64.wrap 1 = 1 ∧ IntKind.i64.wrap 2 = 2 ∧ IntKind.i64.wrap 3 = 3 := ⟨rfl, rfl, rfl⟩
  apply xi
  have O : v0.zr = false ∧ v3.zr = false ∧ v7.zr = false ∧ v8.zr = false ∧ v9.zr = false ∧ v10.zr = false ∧ v11.zr = false ∧ v12.zr = false ∧ v13.zr = false ∧ v14.zr = false ∧ v15.zr = false ∧ v16.zr = false ∧ v17.zr = false ∧ v18.zr = false := ⟨o0, o3, o7, o8, o9, o10, o11, o12, o13, o14, o15, o16, o17, o18⟩
  cases q with
  | false =>
   have hgo := go s n0 n1 n2 ⟨hC.o, hC.d, hC.ok.mono (by omega), hC.inv⟩ hN
   clear go hC hN
   unfold zg.cells zD.cells zA.cells zl.cells yp.cells zE.cells at *
   simp only [List.cons_append, List.nil_append, ho, ho'] at *
   have F := an O (an e4 (an g1 (an g0 (an e3 (an e5 (an e5' (an e8 (an e9 (an ew (an ew2 (an er (an er' (an h1 (an k14 (an w mb')))))))))))))))
   exact Wp.to js (za.n hgo)
  | true =>
   obtain ⟨hC', a', hS, hs'⟩ := hq rfl
   have hC2 : mg c s' (10 + 9 * (i + 1)) := ⟨hC'.o, hC'.d, hC'.ok.mono (by omega), hC'.inv⟩
   have hna : ∀ t, t < 3 → (a'.link t) = ((s'.w c).link t) := fun t ht => by rw [hs']; rfl
   have r0 : NakR c.mf cs[i] 0 s.l0.zT s'.l0.zT := by have := jo hC.ok hS 0 (by decide); rw [hna 0 (by decide)] at this; exact this
   have r1 : NakR c.mf cs[i] 1 s.l1.zT s'.l1.zT := by have := jo hC.ok hS 1 (by decide); rw [hna 1 (by decide)] at this; exact this
   have r2 : NakR c.mf cs[i] 2 s.l2.zT s'.l2.zT := by have := jo hC.ok hS 2 (by decide); rw [hna 2 (by decide)] at this; exact this
   clear hC' hS hs' hna hq
   obtain ⟨⟨p0, q0⟩, ⟨p1, q1⟩, ⟨p2, q2⟩⟩ := hN
   have yb : ∀ (t : Nat) (n n' : Int), NakR c.mf cs[i] t n n' → (cs[i].kind ≠ 2 ∨ vX cs[i].item.zd ≠ t ∨ e ≠ 0) → n' = n := by
    intro t n n' hr hcase
    rcases hr with ⟨h, _⟩ | ⟨h2, hlk, p', hp', _⟩
    ·exact h
    ·rcases hcase with h | h | h
     ·exact absurd h2 h
     ·exact absurd hlk h
     ·exact absurd (hno p' hp') h
   have hNs : (cs[i].kind ≠ 2 ∨ vX cs[i].item.zd = -1 ∨ e ≠ 0) → NI c s' n0 n1 n2 := by
    intro hcase
    have k0 := yb 0 _ _ r0 (by omega)
    have k1 := yb 1 _ _ r1 (by omega)
    have k2 := yb 2 _ _ r2 (by omega)
    exact ⟨⟨p0, by omega⟩, ⟨p1, by omega⟩, ⟨p2, by omega⟩⟩
   have hN := True.intro
   by_cases hk2 : cs[i].kind = 2
   case neg =>
    have hkb : (cs[i].kind != 2) = true := by simpa using hk2
    have hgo := go s' n0 n1 n2 hC2 (hNs (.inl hk2))
    clear go hC hN
    unfold zg.cells zD.cells zA.cells zl.cells yp.cells zE.cells at *
    simp only [List.cons_append, List.nil_append, ho, ho'] at *
    have F := an O (an e4 (an g1 (an g0 (an e3 (an e5 (an e5' (an e8 (an e9 (an ew (an ew2 (an er (an er' (an h1 (an k14 (an w (an mb' (an k17 (an k18 hkb))))))))))))))))))
    exact Wp.to js (za.n hgo)
   have hkb : (cs[i].kind != 2) = false := by rw [hk2]; rfl
   by_cases he : e = 0
   case neg =>
    have heb : (e != 0) = true := by simpa using he
    have hlt : (vX cs[i].item.zd < 0) ∨ ¬ (vX cs[i].item.zd < 0) := Classical.em _
    rcases hlt with hlt | hlt
    all_goals
     have hgo := go s' n0 n1 n2 hC2 (hNs (.inr (.inr he)))
     clear go hC hN
     unfold zg.cells zD.cells zA.cells zl.cells yp.cells zE.cells at *
     simp only [List.cons_append, List.nil_append, ho, ho'] at *
     have F := an O (an e4 (an g1 (an g0 (an e3 (an e5 (an e5' (an e8 (an e9 (an ew (an ew2 (an er (an er' (an h1 (an k14 (an w (an mb' (an k17 (an k18 (an hkb (an heb hlt))))))))))))))))))))
     exact Wp.to js (za.n hgo)
   have hgp := hgot he
   have heb : (e != 0) = false := by rw [he]; rfl
   rcases nB cs[i].item.zd with hlf | hlf | hlf | hlf
   ·have hNN := hNs (.inr (.inl hlf))
    rw [hlf] at k17
    have hgo := go s' n0 n1 n2 hC2 hNN
    clear go hC hN
    unfold zg.cells zD.cells zA.cells zl.cells yp.cells zE.cells at *
    simp only [List.cons_append, List.nil_append, ho, ho'] at *
    have F := an O (an e4 (an g1 (an g0 (an e3 (an e5 (an e5' (an e8 (an e9 (an ew (an ew2 (an er (an er' (an h1 (an k14 (an w (an mb' (an k17 (an k18 (an hkb heb)))))))))))))))))))
    exact Wp.to js (za.n hgo)
   ·rw [hlf] at k17
    have k1 := yb 1 _ _ r1 (.inr (.inl (by rw [hlf]; decide)))
    have k2 := yb 2 _ _ r2 (.inr (.inl (by rw [hlf]; decide)))
    by_cases c2 : p.code = 2
    ·have hN2 : NI c s' 0 n1 n2 := by
      have hx : s'.l0.zT ≤ c.mf := by
       rcases r0 with ⟨h, _⟩ | ⟨_, _, p', hp', h⟩
       ·omega
       ·rcases h with ⟨_, h⟩ | ⟨_, h, _⟩ <;> omega
      exact ⟨⟨by omega, by omega⟩, ⟨p1, by omega⟩, ⟨p2, by omega⟩⟩
     have x1 : ¬ c.mf < 0 := by omega
     have hgo := go s' 0 n1 n2 hC2 hN2
     clear go hC hN
     unfold zg.cells zD.cells zA.cells zl.cells yp.cells zE.cells at *
     simp only [List.cons_append, List.nil_append, ho, ho'] at *
     have F := an O (an e4 (an g1 (an g0 (an e3 (an e5 (an e5' (an e8 (an e9 (an ew (an ew2 (an er (an er' (an h1 (an k14 (an w (an mb' (an k17 (an k18 (an hkb (an heb (an c2 x1)))))))))))))))))))))
     exact Wp.to js (za.n hgo)
    by_cases c3 : p.code = 3
    ·have hn3 : s'.l0.zT = s.l0.zT - 1 ∧ 0 ≤ s'.l0.zT := by
      rcases r0 with ⟨_, h⟩ | ⟨_, _, p', hp', h⟩
      ·exact absurd c3 (h p hk2 hlf hgp).2
      ·have := hgp.same hp'
       rcases h with ⟨h, _⟩ | ⟨_, h, h'⟩
       ·omega
       ·exact ⟨h, h'⟩
     have hN2 : NI c s' (n0 + 1) n1 n2 := ⟨⟨by omega, by omega⟩, ⟨p1, by omega⟩, ⟨p2, by omega⟩⟩
     have x1 : ¬ c.mf < n0 + 1 := by omega
     have x2 : IntKind.i64.wrap (n0 + 1) = n0 + 1 := vG (by omega) (by omega)
     have hgo := go s' (n0 + 1) n1 n2 hC2 hN2
     clear go hC hN
     unfold zg.cells zD.cells zA.cells zl.cells yp.cells zE.cells at *
     simp only [List.cons_append, List.nil_append, ho, ho'] at *
     have F := an O (an e4 (an g1 (an g0 (an e3 (an e5 (an e5' (an e8 (an e9 (an ew (an ew2 (an er (an er' (an h1 (an k14 (an w (an mb' (an k17 (an k18 (an hkb (an heb (an c2 (an c3 (an x1 x2)))))))))))))))))))))))
     exact Wp.to js (za.n hgo)
    ·have hn3 : s'.l0.zT = s.l0.zT := by
      rcases r0 with ⟨h, _⟩ | ⟨_, _, p', hp', h⟩
      ·exact h
      ·have := hgp.same hp'
       rcases h with ⟨h, _⟩ | ⟨h, _, _⟩ <;> omega
     have hN2 : NI c s' n0 n1 n2 := ⟨⟨by omega, by omega⟩, ⟨p1, by omega⟩, ⟨p2, by omega⟩⟩
     have hx : 0 ≤ s'.l0.zT := by have := hC2.n 0; exact this
     have x1 : ¬ c.mf < n0 := by omega
     have hgo := go s' n0 n1 n2 hC2 hN2
     clear go hC hN
     unfold zg.cells zD.cells zA.cells zl.cells yp.cells zE.cells at *
     simp only [List.cons_append, List.nil_append, ho, ho'] at *
     have F := an O (an e4 (an g1 (an g0 (an e3 (an e5 (an e5' (an e8 (an e9 (an ew (an ew2 (an er (an er' (an h1 (an k14 (an w (an mb' (an k17 (an k18 (an hkb (an heb (an c2 (an c3 x1))))))))))))))))))))))
     exact Wp.to js (za.n hgo)
   ·rw [hlf] at k17
    have k0 := yb 0 _ _ r0 (.inr (.inl (by rw [hlf]; decide)))
    have k2 := yb 2 _ _ r2 (.inr (.inl (by rw [hlf]; decide)))
    by_cases c2 : p.code = 2
    ·have hN2 : NI c s' n0 0 n2 := by
      have hx : s'.l1.zT ≤ c.mf := by
       rcases r1 with ⟨h, _⟩ | ⟨_, _, p', hp', h⟩
       ·omega
       ·rcases h with ⟨_, h⟩ | ⟨_, h, _⟩ <;> omega
      exact ⟨⟨p0, by omega⟩, ⟨by omega, by omega⟩, ⟨p2, by omega⟩⟩
     have x1 : ¬ c.mf < 0 := by omega
     have hgo := go s' n0 0 n2 hC2 hN2
     clear go hC hN
     unfold zg.cells zD.cells zA.cells zl.cells yp.cells zE.cells at *
     simp only [List.cons_append, List.nil_append, ho, ho'] at *
     have F := an O (an e4 (an g1 (an g0 (an e3 (an e5 (an e5' (an e8 (an e9 (an ew (an ew2 (an er (an er' (an h1 (an k14 (an w (an mb' (an k17 (an k18 (an hkb (an heb (an c2 x1)))))))))))))))))))))
     exact Wp.to js (za.n hgo)
    by_cases c3 : p.code = 3
    ·have hn3 : s'.l1.zT = s.l1.zT - 1 ∧ 0 ≤ s'.l1.zT := by
      rcases r1 with ⟨_, h⟩ | ⟨_, _, p', hp', h⟩
      ·exact absurd c3 (h p hk2 hlf hgp).2
      ·have := hgp.same hp'
       rcases h with ⟨h, _⟩ | ⟨_, h, h'⟩
       ·omega
       ·exact ⟨h, h'⟩
     have hN2 : NI c s' n0 (n1 + 1) n2 := ⟨⟨p0, by omega⟩, ⟨by omega, by omega⟩, ⟨p2, by omega⟩⟩
     have x1 : ¬ c.mf < n1 + 1 := by omega
     have x2 : IntKind.i64.wrap (n1 + 1) = n1 + 1 := vG (by omega) (by omega)
     have hgo := go s' n0 (n1 + 1) n2 hC2 hN2
     clear go hC hN
     unfold zg.cells zD.cells zA.cells zl.cells yp.cells zE.cells at *
     simp only [List.cons_append, List.nil_append, ho, ho'] at *
     have F := an O (an e4 (an g1 (an g0 (an e3 (an e5 (an e5' (an e8 (an e9 (an ew (an ew2 (an er (an er' (an h1 (an k14 (an w (an mb' (an k17 (an k18 (an hkb (an heb (an c2 (an c3 (an x1 x2)))))))))))))))))))))))
     exact Wp.to js (za.n hgo)
    ·have hn3 : s'.l1.zT = s.l1.zT := by
      rcases r1 with ⟨h, _⟩ | ⟨_, _, p', hp', h⟩
      ·exact h
      ·have := hgp.same hp'
       rcases h with ⟨h, _⟩ | ⟨h, _, _⟩ <;> omega
     have hN2 : NI c s' n0 n1 n2 := ⟨⟨p0, by omega⟩, ⟨by omega, by omega⟩, ⟨p2, by omega⟩⟩
     have hx : 0 ≤ s'.l1.zT := by have := hC2.n 1; exact this
     have x1 : ¬ c.mf < n1 := by omega
     have hgo := go s' n0 n1 n2 hC2 hN2
     clear go hC hN
     unfold zg.cells zD.cells zA.cells zl.cells yp.cells zE.cells at *
     simp only [List.cons_append, List.nil_append, ho, ho'] at *
     have F := an O (an e4 (an g1 (an g0 (an e3 (an e5 (an e5' (an e8 (an e9 (an ew (an ew2 (an er (an er' (an h1 (an k14 (an w (an mb' (an k17 (an k18 (an hkb (an heb (an c2 (an c3 x1))))))))))))))))))))))
     exact Wp.to js (za.n hgo)
   ·rw [hlf] at k17
    have k0 := yb 0 _ _ r0 (.inr (.inl (by rw [hlf]; decide)))
    have k1 := yb 1 _ _ r1 (.inr (.inl (by rw [hlf]; decide)))
    by_cases c2 : p.code = 2
    ·have hN2 : NI c s' n0 n1 0 := by
      have hx : s'.l2.zT ≤ c.mf := by
       rcases r2 with ⟨h, _⟩ | ⟨_, _, p', hp', h⟩
       ·omega
       ·rcases h with ⟨_, h⟩ | ⟨_, h, _⟩ <;> omega
      exact ⟨⟨p0, by omega⟩, ⟨p1, by omega⟩, ⟨by omega, by omega⟩⟩
     have x1 : ¬ c.mf < 0 := by omega
     have hgo := go s' n0 n1 0 hC2 hN2
     clear go hC hN
     unfold zg.cells zD.cells zA.cells zl.cells yp.cells zE.cells at *
     simp only [List.cons_append, List.nil_append, ho, ho'] at *
     have F := an O (an e4 (an g1 (an g0 (an e3 (an e5 (an e5' (an e8 (an e9 (an ew (an ew2 (an er (an er' (an h1 (an k14 (an w (an mb' (an k17 (an k18 (an hkb (an heb (an c2 x1)))))))))))))))))))))
     exact Wp.to js (za.n hgo)
    by_cases c3 : p.code = 3
    ·have hn3 : s'.l2.zT = s.l2.zT - 1 ∧ 0 ≤ s'.l2.zT := by
      rcases r2 with ⟨_, h⟩ | ⟨_, _, p', hp', h⟩
      ·exact absurd c3 (h p hk2 hlf hgp).2
      ·have := hgp.same hp'
       rcases h with ⟨h, _⟩ | ⟨_, h, h'⟩
       ·omega
       ·exact ⟨h, h'⟩
     have hN2 : NI c s' n0 n1 (n2 + 1) := ⟨⟨p0, by omega⟩, ⟨p1, by omega⟩, ⟨by omega, by omega⟩⟩
     have x1 : ¬ c.mf < n2 + 1 := by omega
     have x2 : IntKind.i64.wrap (n2 + 1) = n2 + 1 := vG (by omega) (by omega)
     have hgo := go s' n0 n1 (n2 + 1) hC2 hN2
     clear go hC hN
     unfold zg.cells zD.cells zA.cells zl.cells yp.cells zE.cells at *
     simp only [List.cons_append, List.nil_append, ho, ho'] at *
     have F := an O (an e4 (an g1 (an g0 (an e3 (an e5 (an e5' (an e8 (an e9 (an ew (an ew2 (an er (an er' (an h1 (an k14 (an w (an mb' (an k17 (an k18 (an hkb (an heb (an c2 (an c3 (an x1 x2)))))))))))))))))))))))
     exact Wp.to js (za.n hgo)
    ·have hn3 : s'.l2.zT = s.l2.zT := by
      rcases r2 with ⟨h, _⟩ | ⟨_, _, p', hp', h⟩
      ·exact h
      ·have := hgp.same hp'
       rcases h with ⟨h, _⟩ | ⟨h, _, _⟩ <;> omega
     have hN2 : NI c s' n0 n1 n2 := ⟨⟨p0, by omega⟩, ⟨p1, by omega⟩, ⟨by omega, by omega⟩⟩
     have hx : 0 ≤ s'.l2.zT := by have := hC2.n 2; exact this
     have x1 : ¬ c.mf < n2 := by omega
     have hgo := go s' n0 n1 n2 hC2 hN2
     clear go hC hN
     unfold zg.cells zD.cells zA.cells zl.cells yp.cells zE.cells at *
     simp only [List.cons_append, List.nil_append, ho, ho'] at *
     have F := an O (an e4 (an g1 (an g0 (an e3 (an e5 (an e5' (an e8 (an e9 (an ew (an ew2 (an er (an er' (an h1 (an k14 (an w (an mb' (an k17 (an k18 (an hkb (an heb (an c2 (an c3 x1))))))))))))))))))))))
     exact Wp.to js (za.n hgo)
set_option maxHeartbeats 80000000 in
theorem specNaks_eq (c : zg) (b : Bool) (m : Nat) (cs : List yp) (hw : Wl b m cs) (hl : cs.length ≤ 9223372036854775807) (hcs : ∀ x ∈ cs, Wb x.item.nil x.item.m x.item.data) : zq D.W 6 [.agg c.cells, .vs b .sh m (wS cs)] [] = some (.bool true, none) := by
 have ka : zq D.W 7 [] [] = some (.bool true, none) := toW (xJ.2 ⟨400, jl⟩)
 obtain ⟨q, kf, hf⟩ := jC c b m cs hw hl
 have ks := start_eq c
 have ep := qz cs
 have e4 := uT cs
 have ew := ua
 have hm : cs ≠ [] → m = 6 := fun hne => by rcases hw with ⟨_, h⟩ | ⟨_, h⟩; exact h; exact absurd h hne
 have ec : c.cells = [.int .i64 c.mc, .int .i64 c.mt, .int .i64 c.mf, .int .i64 c.mru, .str c.s1, .str c.s2, .int .i64 c.n, .int .u32 c.m, .bool c.b] := rfl
 cases q with
 | false =>
  refine Ret.eq ?_
  rw [ec] at kf ⊢
  have F := an ka (an kf ep)
  exact Ret.of wk ⟨rfl, rfl⟩
 | true =>
  obtain ⟨hg, h1, h2, h80, hcl⟩ := hf rfl
  obtain ⟨_, _, hmf⟩ := goodB_ok hg
  have hC := jn hg h1 h2
  have hL := loop6 c hmf b m cs hm h80 hcs hcl
  refine Ret.eq ?_
  have es : (lB c).cells = [.int .i64 0, .int .i64 0, .int .i64 c.mf, .bool false, .bool false, .int .i64 0, .str [], .int .i64 0, .int .i64 0, .int .i64 c.mf, .bool false, .bool false, .int .i64 0, .str [], .int .i64 0, .int .i64 0, .int .i64 c.mf, .bool false, .bool false, .int .i64 0, .str [], .int .i64 0, .int .i64 0, .bool false, .bool false, .bool false, .int .i64 0, .str [], .bool false, .int .i64 0, .vs true .sh 0 []] := rfl
  have hNI : NI c (lB c) 0 0 0 := ⟨⟨by omega, by show 0 + c.mf ≤ c.mf; omega⟩, ⟨by omega, by show 0 + c.mf ≤ c.mf; omega⟩, ⟨by omega, by show 0 + c.mf ≤ c.mf; omega⟩⟩
  have hL2 := fun Q hE => hL Q hE cs.length 0 (lB c) 0 0 0 (.agg c.cells) (.bool false) .undef .undef .undef .undef .undef (.bool false) .undef .undef .undef .undef .undef .undef (by omega) (by simpa using hC) hNI rfl rfl rfl rfl rfl rfl rfl rfl rfl rfl rfl rfl rfl rfl
  rw [es] at ks hL2
  rw [ec] at kf ks hL2 ⊢
  have F := an ka (an kf (an ks (an ep (an e4 ew))))
  refine wk2 ?_
  refine hL2 _ ?_
  intro v0 v3 v7 v8 v9 v10 v11 v12 v13 v14 v15 v16 v17 v18 s n0 n1 n2 O
  have hsw : ∀ n, LVal.zb n s.cells = true := fun n => by simp [zD.cells, zA.cells, zl.cells, LVal.zb, LVal.within]
  have F := an O (an ep (an e4 (an ew hsw)))
  exact wz
end Go.Proofs.YtpfnlpakcldobaaGreat
set_option maxRecDepth 100000
namespace Go.Proofs.YtpfnlpakcldobaaGreat
open Go Go.L Go.ChangeShapes Go.WideShapes Go.ChangeAt Go.RowKit
theorem ji (os : Os) (started : os.Started) (H : Type) (enc : TypeId × Value → H) :
 ReturnsInHanded {} Tryz.checked os 6 .any (Rows.specNaksSpec.pre6 enc Tryz.prog Tryz.f6 Rows.specNaksRow.domain false) (Rows.specNaksSpec.post enc Tryz.prog Tryz.f6 false true false false) := by
 refine returnsInHanded_of_change (C := Tryz.checked) Tryz.own started (by kernel_rfl) Tryz.func6
  (ChangeSpec.witness6 (enc := enc) (C := Tryz.checked) false ⟨#[], #[z24, .slice none 0 0], []⟩ 8 (by kernel_rfl) (by kernel_rfl) (by kernel_rfl) (by kernel_rfl)) ?_
 intro W base args ds gs before hval hW _ _
 have hval' : ∀ (j : Nat) t v, Tryz.f6.params[j]? = some t → args[j]? = some v → Value.okWide Tryz.prog W .any base t v := hval
 have hW' : DataW.Whole enc Tryz.prog Tryz.f6.params.toList Rows.specNaksSpec.vars false W args.toList ds gs before := hW
 have hp : Tryz.f6.params.toList = [24, 39] := by rw [Tryz.params6]
 refine lQ oW (fn := Tryz.f6) (s := Rows.specNaksSpec) (d := 8) (tb := 4) Tryz.laidOut (by kernel_rfl) u4 ?_ ?_ rfl ?_ hval' hW' ?_
 ·rw [hp]; intro t ht; simp at ht; rcases ht with rfl | rfl
  ·exact rr24
  ·exact rr39
 ·rw [hp]; intro t ht; simp at ht; rcases ht with rfl | rfl
  ·exact rd24
  ·exact rd39
 ·rw [hp]
  intro largs h
  obtain ⟨u, v, rfl, h1, h2⟩ := args_two h
  obtain ⟨c, rfl, _⟩ := jb h1
  obtain ⟨b, l, rfl, k1, k2, k3⟩ := je h2
  exact specNaks_eq c b 6 l k1 k2 k3
 ·obtain ⟨p, q, hA, hV, _, _, _⟩ := hW'
  rw [hp] at hA
  have hl := pX hA
  obtain ⟨rfl, _⟩ := trodVars_none hV
  match ds, hl with
  | [d1, d2], _ => exact ⟨rfl, rfl, rfl⟩
theorem specNaks_holds : Rows.SpecNaksSaid :=
 OpenClaim.holds_of_wide 6 Tryz.f6 rfl rfl rfl rfl rfl rfl rfl ⟨rfl, rfl, rfl, rfl, rfl⟩ rfl rfl rfl rfl rfl (by kernel_rfl) Tryz.func6 (by kernel_rfl)
  (of_decide_eq_true (by kernel_rfl)) (by unfold Func.isWrapper; first | (rw [if_pos (by decide +kernel)]; kernel_rfl) | (rw [if_neg (by decide +kernel)]; exact ⟨rfl, rfl⟩))
  (fun os started H enc _ => ji os started H enc)
#print axioms specNaks_holds
end Go.Proofs.YtpfnlpakcldobaaGreat
