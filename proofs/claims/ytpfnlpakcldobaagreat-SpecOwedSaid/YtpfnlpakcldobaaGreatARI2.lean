/- Texts of the proof: RI2. -/
import Derived.Test.YtpfnlpakcldobaaGreatARI1
set_option linter.unusedVariables false
set_option linter.unusedSimpArgs false
set_option linter.unusedSectionVars false
namespace Go.Proofs.YtpfnlpakcldobaaGreat
open Go Go.L
theorem fn52 : D.W.fns 52 = some (.fn D.l52) := rfl
def yI (zd id : Int) (data : List UInt8) (a : Nat) : List yu :=
 if a = 7 then [⟨1, zd, 0, []⟩] else if a = 8 then [⟨2, zd, id, data⟩] else if a = 9 then [⟨3, zd, id, data⟩] else if a = 10 then [⟨4, zd, 0, []⟩] else
 if a = 11 then [⟨5, zd, id, []⟩] else if a = 12 then [⟨6, zd, 0, data⟩] else if a = 13 then [⟨7, zd, id, data⟩] else []
def zl.zero : zl := ⟨0, 0, false, false, false, 0, [], false, 0⟩
def gF (i : Nat) : List Nat → zl → zl
 | [], g => g
 | a :: l, g => gF i l (if a = 2 ∧ i = 0 then .zero else g)
set_option maxHeartbeats 40000000 in
theorem qI {N K : Nat} {st : List zt} (hs : xA N K st) (c : zg) (l0 l1 l2 : zA) (n : Nat) (i : Nat) (id zd : Int) (data : List UInt8) (B : zt) (hB : zt.within (N + 1) B = true) (hB' : B.settle = B) (l : List Nat) (hl : l.length ≤ 3)
 (dsE : List yu) (hdE : dsE.length ≤ 100000) (gE : zl) (Q : yS → RS → Prop)
 (hE : ∀ dv cv v2 v5 v6 v7 v8 v9 v11 v12 v16, zK dv dsE → zN cv n → Q (.exit 0) ⟨[.ptr K 0, .int .i64 i, v2, .int .i64 id, .str data, v5, v6, v7, v8, v9, .int .i64 zd, v11, v12, .vs false .sh 1 (wx l), .int .i64 l.length, .int .i64 l.length, v16, .undef, .undef, .undef, .undef, .undef, .undef, .undef, .undef, .undef, .undef], stW st K (zw.obj ⟨c, l0, l1, l2, gE, dv, dsE, cv, n⟩) [B], []⟩) :
 ∀ (j k : Nat) (g : zl) (dv : LVal) (ds : List yu) (cv v2 v5 v6 v7 v8 v9 v11 v12 : LVal), k + j = l.length → v2.zr = false → v5.zr = false → v6.zr = false → v7.zr = false → v8.zr = false → v9.zr = false → v11.zr = false → v12.zr = false →
  zK dv ds → zN cv n → ds ++ (l.drop k).flatMap (yI zd id data) = dsE → gF i (l.drop k) g = gE →
  Wp D.W (.loop D.b52_2) ⟨[.ptr K 0, .int .i64 i, v2, .int .i64 id, .str data, v5, v6, v7, v8, v9, .int .i64 zd, v11, v12, .vs false .sh 1 (wx l), .int .i64 l.length, .int .i64 k, .undef, .undef, .undef, .undef, .undef, .undef, .undef, .undef, .undef, .undef, .undef], stW st K (zw.obj ⟨c, l0, l1, l2, g, dv, ds, cv, n⟩) [B], []⟩ Q
 | 0, k, g, dv, ds, cv, v2, v5, v6, v7, v8, v9, v11, v12, hkj, oo2, oo5, oo6, oo7, oo8, oo9, oo11, oo12, hdv, hcv, h1, h2 => by
  have : k = l.length := by omega
  subst this
  rw [List.drop_length] at h1 h2
  simp only [List.flatMap_nil, List.append_nil, gF] at h1 h2
  subst h1; subst h2
  have F0 := sF hs
  apply xi
  have F := an F0 (an oo2 (an oo5 (an oo6 (an oo7 (an oo8 (an oo9 (an oo11 oo12)))))))
  refine Wp.to wp1 ?_; first | apply za.n | apply za.e | apply za.r
  exact hE _ _ _ _ _ _ _ _ _ _ _ hdv hcv
 | j + 1, k, g, dv, ds, cv, v2, v5, v6, v7, v8, v9, v11, v12, hkj, oo2, oo5, oo6, oo7, oo8, oo9, oo11, oo12, hdv, hcv, h1, h2 => by
  have hi : k < l.length := by omega
  have e1 : (k : Int) < l.length := by omega
  have e0 : 0 ≤ (k : Int) ∧ (k : Int) < l.length := by omega
  have e3 : IntKind.i64.wrap ((k : Int) + 1) = (k : Int) + 1 := vG (by omega) (by omega)
  have e4 := ur l
  have e5 : (wx l)[k]? = some (.int .i64 (l[k] : Nat)) := pN hi
  have e5' : ∀ h, (wx l)[k]'h = .int .i64 (l[k] : Nat) := fun h => by have := List.getElem?_eq_getElem h; rw [e5] at this; exact (Option.some.inj this).symm
  have ec : ((k + 1 : Nat) : Int) = (k : Int) + 1 := by omega
  have e7 := wA
  have hlt := hs.lt
  have hlt' : K < N + 1 := by omega
  have hdl : ds.length ≤ 100000 := by rw [← h1] at hdE; simp at hdE; omega
  have ih := fun g dv ds cv hdv hcv h1 h2 => qI hs c l0 l1 l2 n i id zd data B hB hB' l hl dsE hdE gE Q hE j (k + 1) g dv ds cv .undef .undef .undef .undef .undef .undef .undef .undef (by omega) rfl rfl rfl rfl rfl rfl rfl rfl hdv hcv h1 h2
  simp only [ec] at ih
  have hst : ∀ (g : zl) (dv cv : LVal) (ds : List yu), zK dv ds → zN cv n → xA (N + 1) K (stW st K (zw.obj ⟨c, l0, l1, l2, g, dv, ds, cv, n⟩) [B]) := fun g dv cv ds h h' => stW_ok hs (ext := [B]) (zw.within _ h h' N) (by simpa using hB) (by simpa using hB')
  have hal : ∀ (g : zl) (dv cv : LVal) (ds : List yu), zK dv ds → zN cv n → ∀ x ∈ stW st K (zw.obj ⟨c, l0, l1, l2, g, dv, ds, cv, n⟩) [B], zt.within (N + 1) x = true := fun g dv cv ds h h' => (hst g dv cv ds h h').within
  rw [List.drop_eq_getElem_cons hi] at h1 h2
  simp only [List.flatMap_cons, gF] at h1 h2
  have F0 := sF hs
  apply xi
  generalize l[k] = y at *
  by_cases h7 : y = 7
  ·subst h7
   obtain ⟨dv', cv', hdv', hcv', kk⟩ := tV (hst g dv cv ds hdv hcv) ⟨c, l0, l1, l2, g, dv, ds, cv, n⟩ hdv hcv hdl (xM hs _ _) ⟨1, zd, 0, []⟩
   rw [zz hs] at kk
   have hh1 : (ds ++ [⟨1, zd, 0, []⟩]) ++ (l.drop (k + 1)).flatMap (yI zd id data) = dsE := by rw [← h1]; simp [yI]
   have hh2 : gF i (l.drop (k + 1)) g = gE := by rw [← h2]; simp
   have ihh := ih g dv' _ cv' hdv' hcv' hh1 hh2
   have al := hal g dv' cv' _ hdv' hcv'
   simp only [yu.cells] at kk
   generalize zw.obj ⟨c, l0, l1, l2, g, dv, ds, cv, n⟩ = W0 at *
   generalize zw.obj ⟨c, l0, l1, l2, g, dv', ds ++ [⟨1, zd, 0, []⟩], cv', n⟩ = W1 at *
   have F := an F0 (an oo2 (an oo5 (an oo6 (an oo7 (an oo8 (an oo9 (an oo11 (an oo12 (an e0 (an e1 (an e3 (an e4 (an e5 (an e5' (an e7 (an kk (eq_true al)))))))))))))))))
   refine Wp.to wp1 ?_; first | apply za.n | apply za.e | apply za.r
   exact ihh
  have h7' : ¬ (y : Int) = 7 := by omega
  by_cases h8 : y = 8
  ·subst h8
   obtain ⟨dv', cv', hdv', hcv', kk⟩ := tV (hst g dv cv ds hdv hcv) ⟨c, l0, l1, l2, g, dv, ds, cv, n⟩ hdv hcv hdl (xM hs _ _) ⟨2, zd, id, data⟩
   rw [zz hs] at kk
   have hh1 : (ds ++ [⟨2, zd, id, data⟩]) ++ (l.drop (k + 1)).flatMap (yI zd id data) = dsE := by rw [← h1]; simp [yI]
   have hh2 : gF i (l.drop (k + 1)) g = gE := by rw [← h2]; simp
   have ihh := ih g dv' _ cv' hdv' hcv' hh1 hh2
   have al := hal g dv' cv' _ hdv' hcv'
   simp only [yu.cells] at kk
   generalize zw.obj ⟨c, l0, l1, l2, g, dv, ds, cv, n⟩ = W0 at *
   generalize zw.obj ⟨c, l0, l1, l2, g, dv', ds ++ [⟨2, zd, id, data⟩], cv', n⟩ = W1 at *
   have F := an F0 (an oo2 (an oo5 (an oo6 (an oo7 (an oo8 (an oo9 (an oo11 (an oo12 (an e0 (an e1 (an e3 (an e4 (an e5 (an e5' (an e7 (an kk (eq_true al)))))))))))))))))
   refine Wp.to wp1 ?_; first | apply za.n | apply za.e | apply za.r
   exact ihh
  have h8' : ¬ (y : Int) = 8 := by omega
  by_cases h9 : y = 9
  ·subst h9
   obtain ⟨dv', cv', hdv', hcv', kk⟩ := tV (hst g dv cv ds hdv hcv) ⟨c, l0, l1, l2, g, dv, ds, cv, n⟩ hdv hcv hdl (xM hs _ _) ⟨3, zd, id, data⟩
   rw [zz hs] at kk
   have hh1 : (ds ++ [⟨3, zd, id, data⟩]) ++ (l.drop (k + 1)).flatMap (yI zd id data) = dsE := by rw [← h1]; simp [yI]
   have hh2 : gF i (l.drop (k + 1)) g = gE := by rw [← h2]; simp
   have ihh := ih g dv' _ cv' hdv' hcv' hh1 hh2
   have al := hal g dv' cv' _ hdv' hcv'
   simp only [yu.cells] at kk
   generalize zw.obj ⟨c, l0, l1, l2, g, dv, ds, cv, n⟩ = W0 at *
   generalize zw.obj ⟨c, l0, l1, l2, g, dv', ds ++ [⟨3, zd, id, data⟩], cv', n⟩ = W1 at *
   have F := an F0 (an oo2 (an oo5 (an oo6 (an oo7 (an oo8 (an oo9 (an oo11 (an oo12 (an e0 (an e1 (an e3 (an e4 (an e5 (an e5' (an e7 (an kk (eq_true al)))))))))))))))))
   refine Wp.to wp1 ?_; first | apply za.n | apply za.e | apply za.r
   exact ihh
  have h9' : ¬ (y : Int) = 9 := by omega
  by_cases h10 : y = 10
  ·subst h10
   obtain ⟨dv', cv', hdv', hcv', kk⟩ := tV (hst g dv cv ds hdv hcv) ⟨c, l0, l1, l2, g, dv, ds, cv, n⟩ hdv hcv hdl (xM hs _ _) ⟨4, zd, 0, []⟩
   rw [zz hs] at kk
   have hh1 : (ds ++ [⟨4, zd, 0, []⟩]) ++ (l.drop (k + 1)).flatMap (yI zd id data) = dsE := by rw [← h1]; simp [yI]
   have hh2 : gF i (l.drop (k + 1)) g = gE := by rw [← h2]; simp
   have ihh := ih g dv' _ cv' hdv' hcv' hh1 hh2
   have al := hal g dv' cv' _ hdv' hcv'
   simp only [yu.cells] at kk
   generalize zw.obj ⟨c, l0, l1, l2, g, dv, ds, cv, n⟩ = W0 at *
   generalize zw.obj ⟨c, l0, l1, l2, g, dv', ds ++ [⟨4, zd, 0, []⟩], cv', n⟩ = W1 at *
   have F := an F0 (an oo2 (an oo5 (an oo6 (an oo7 (an oo8 (an oo9 (an oo11 (an oo12 (an e0 (an e1 (an e3 (an e4 (an e5 (an e5' (an e7 (an kk (eq_true al)))))))))))))))))
   refine Wp.to wp1 ?_; first | apply za.n | apply za.e | apply za.r
   exact ihh
  have h10' : ¬ (y : Int) = 10 := by omega
  by_cases h11 : y = 11
  ·subst h11
   obtain ⟨dv', cv', hdv', hcv', kk⟩ := tV (hst g dv cv ds hdv hcv) ⟨c, l0, l1, l2, g, dv, ds, cv, n⟩ hdv hcv hdl (xM hs _ _) ⟨5, zd, id, []⟩
   rw [zz hs] at kk
   have hh1 : (ds ++ [⟨5, zd, id, []⟩]) ++ (l.drop (k + 1)).flatMap (yI zd id data) = dsE := by rw [← h1]; simp [yI]
   have hh2 : gF i (l.drop (k + 1)) g = gE := by rw [← h2]; simp
   have ihh := ih g dv' _ cv' hdv' hcv' hh1 hh2
   have al := hal g dv' cv' _ hdv' hcv'
   simp only [yu.cells] at kk
   generalize zw.obj ⟨c, l0, l1, l2, g, dv, ds, cv, n⟩ = W0 at *
   generalize zw.obj ⟨c, l0, l1, l2, g, dv', ds ++ [⟨5, zd, id, []⟩], cv', n⟩ = W1 at *
   have F := an F0 (an oo2 (an oo5 (an oo6 (an oo7 (an oo8 (an oo9 (an oo11 (an oo12 (an e0 (an e1 (an e3 (an e4 (an e5 (an e5' (an e7 (an kk (eq_true al)))))))))))))))))
   refine Wp.to wp1 ?_; first | apply za.n | apply za.e | apply za.r
   exact ihh
  have h11' : ¬ (y : Int) = 11 := by omega
  by_cases h12 : y = 12
  ·subst h12
   obtain ⟨dv', cv', hdv', hcv', kk⟩ := tV (hst g dv cv ds hdv hcv) ⟨c, l0, l1, l2, g, dv, ds, cv, n⟩ hdv hcv hdl (xM hs _ _) ⟨6, zd, 0, data⟩
   rw [zz hs] at kk
   have hh1 : (ds ++ [⟨6, zd, 0, data⟩]) ++ (l.drop (k + 1)).flatMap (yI zd id data) = dsE := by rw [← h1]; simp [yI]
   have hh2 : gF i (l.drop (k + 1)) g = gE := by rw [← h2]; simp
   have ihh := ih g dv' _ cv' hdv' hcv' hh1 hh2
   have al := hal g dv' cv' _ hdv' hcv'
   simp only [yu.cells] at kk
   generalize zw.obj ⟨c, l0, l1, l2, g, dv, ds, cv, n⟩ = W0 at *
   generalize zw.obj ⟨c, l0, l1, l2, g, dv', ds ++ [⟨6, zd, 0, data⟩], cv', n⟩ = W1 at *
   have F := an F0 (an oo2 (an oo5 (an oo6 (an oo7 (an oo8 (an oo9 (an oo11 (an oo12 (an e0 (an e1 (an e3 (an e4 (an e5 (an e5' (an e7 (an kk (eq_true al)))))))))))))))))
   refine Wp.to wp1 ?_; first | apply za.n | apply za.e | apply za.r
   exact ihh
  have h12' : ¬ (y : Int) = 12 := by omega
  by_cases h13 : y = 13
  ·subst h13
   obtain ⟨dv', cv', hdv', hcv', kk⟩ := tV (hst g dv cv ds hdv hcv) ⟨c, l0, l1, l2, g, dv, ds, cv, n⟩ hdv hcv hdl (xM hs _ _) ⟨7, zd, id, data⟩
   rw [zz hs] at kk
   have hh1 : (ds ++ [⟨7, zd, id, data⟩]) ++ (l.drop (k + 1)).flatMap (yI zd id data) = dsE := by rw [← h1]; simp [yI]
   have hh2 : gF i (l.drop (k + 1)) g = gE := by rw [← h2]; simp
   have ihh := ih g dv' _ cv' hdv' hcv' hh1 hh2
   have al := hal g dv' cv' _ hdv' hcv'
   simp only [yu.cells] at kk
   generalize zw.obj ⟨c, l0, l1, l2, g, dv, ds, cv, n⟩ = W0 at *
   generalize zw.obj ⟨c, l0, l1, l2, g, dv', ds ++ [⟨7, zd, id, data⟩], cv', n⟩ = W1 at *
   have F := an F0 (an oo2 (an oo5 (an oo6 (an oo7 (an oo8 (an oo9 (an oo11 (an oo12 (an e0 (an e1 (an e3 (an e4 (an e5 (an e5' (an e7 (an kk (eq_true al)))))))))))))))))
   refine Wp.to wp1 ?_; first | apply za.n | apply za.e | apply za.r
   exact ihh
  have h13' : ¬ (y : Int) = 13 := by omega
  have hd0 : yI zd id data y = [] := by simp [yI, h7, h8, h9, h10, h11, h12, h13]
  rw [hd0, List.nil_append] at h1
  have al := hal g dv cv _ hdv hcv
  by_cases h2' : y = 2
  ·subst h2'
   by_cases hi0 : i = 0
   ·subst hi0
    have hh2 : gF 0 (l.drop (k + 1)) .zero = gE := by rw [← h2]; simp
    have ihh := ih .zero dv ds cv hdv hcv h1 hh2
    have al' := hal .zero dv cv _ hdv hcv
    unfold zw.obj zw.cells zg.cells zA.cells zl.cells zl.zero at *
    simp only [List.cons_append, List.nil_append] at *
    have F := an F0 (an oo2 (an oo5 (an oo6 (an oo7 (an oo8 (an oo9 (an oo11 (an oo12 (an e0 (an e1 (an e3 (an e4 (an e5 (an e5' (an e7 (eq_true al'))))))))))))))))
    refine Wp.to wp1 ?_; first | apply za.n | apply za.e | apply za.r
    exact ihh
   ·have hi0' : ¬ (i : Int) = 0 := by omega
    have hh2 : gF i (l.drop (k + 1)) g = gE := by rw [← h2]; simp [hi0]
    have ihh := ih g dv ds cv hdv hcv h1 hh2
    generalize zw.obj ⟨c, l0, l1, l2, g, dv, ds, cv, n⟩ = W0 at *
    have F := an F0 (an oo2 (an oo5 (an oo6 (an oo7 (an oo8 (an oo9 (an oo11 (an oo12 (an e0 (an e1 (an e3 (an e4 (an e5 (an e5' (an e7 (an hi0 (an hi0' (eq_true al))))))))))))))))))
    refine Wp.to wp1 ?_; first | apply za.n | apply za.e | apply za.r
    exact ihh
  ·have h2'' : ¬ (y : Int) = 2 := by omega
   have hh2 : gF i (l.drop (k + 1)) g = gE := by rw [← h2]; simp [h2']
   have ihh := ih g dv ds cv hdv hcv h1 hh2
   generalize zw.obj ⟨c, l0, l1, l2, g, dv, ds, cv, n⟩ = W0 at *
   have F := an F0 (an oo2 (an oo5 (an oo6 (an oo7 (an oo8 (an oo9 (an oo11 (an oo12 (an e0 (an e1 (an e3 (an e4 (an e5 (an e5' (an e7 (an h7 (an h7' (an h8 (an h8' (an h9 (an h9' (an h10 (an h10' (an h11 (an h11' (an h12 (an h12' (an h13 (an h13' (an h2' (an h2'' (eq_true al))))))))))))))))))))))))))))))))
   refine Wp.to wp1 ?_; first | apply za.n | apply za.e | apply za.r
   exact ihh
end Go.Proofs.YtpfnlpakcldobaaGreat
