/- Texts of the proof: RI5 RP1. -/
import Derived.Test.YtpfnlpakcldobaaGreatARI4
set_option linter.unusedVariables false
set_option linter.unusedSimpArgs false
set_option linter.unusedSectionVars false
namespace Go.Proofs.YtpfnlpakcldobaaGreat
open Go Go.L
theorem pS {v : LVal} {l : List yu} (h : zK v l) : ∃ b m, v.soft = .vs b .sh m (zL l) ∧ ((b = false ∧ m = 4) ∨ (b = true ∧ l = [])) := by
 rcases h with ⟨rfl, rfl⟩ | ⟨rfl, rfl⟩ | ⟨x, rfl⟩
 ·exact ⟨true, 0, rfl, .inr ⟨rfl, rfl⟩⟩
 ·exact ⟨false, 4, rfl, .inl ⟨rfl, rfl⟩⟩
 ·exact ⟨false, 4, rfl, .inl ⟨rfl, rfl⟩⟩
def AW.net (a : AW) : Bool := a.l0.st == 9 && a.g.done
def wg (a : AW) (was : Bool) : AW :=
 if a.net = was then a else
  let e := if a.net then 1 else 2
  (zk (zk a 1 e 0 []).1 2 e 0 []).1
theorem rb (a : AW) (b : Bool) (m : Nat) : zq D.W 16 [.agg (zD.cells ⟨a.l0, a.l1, a.l2, a.g, b, .sh, m, a.ds⟩)] [] = some (.bool a.net, none) := jA ⟨a.l0, a.l1, a.l2, a.g, b, .sh, m, a.ds⟩ rfl
set_option maxHeartbeats 40000000 in
theorem pC {N K : Nat} {st : List zt} (hs : xA N K st) (a : AW) (ha : a.ok 90000) (h1 : ∀ e, e < 17 → (zk a 1 e 0 []).1.ok 90000) (dv cv : LVal) (hdv : zK dv a.ds) (hcv : zN cv a.n) (hK : st[K]? = some (a.mk' dv cv).obj) (was : Bool) :
 ∃ dv' cv', zK dv' (wg a was).ds ∧ zN cv' (wg a was).n ∧ zq D.W 43 [.ptr K 0, .bool was] st = some (.tup [], some (st.set K ((wg a was).mk' dv' cv').obj)) := by
 suffices h : Ret D.W 43 [.ptr K 0, .bool was] st (fun v o => ∃ dv' cv', zK dv' (wg a was).ds ∧ zN cv' (wg a was).n ∧ v = .tup [] ∧ o = some (st.set K ((wg a was).mk' dv' cv').obj)) by
  obtain ⟨v, o, k, dv', cv', a1, a2, rfl, rfl⟩ := h
  exact ⟨dv', cv', a1, a2, k⟩
 obtain ⟨b, m, hda, hwd⟩ := pS hdv
 have k16 := rb a b m
 have hlt := hs.lt
 have F0 := sF hs
 obtain ⟨dv1, cv1, hdv1, hcv1, hld⟩ : ∃ dv1 cv1, zK dv1 a.ds ∧ zN cv1 a.n ∧ ((dv.zr = true ∧ dv1 = dv.stay ∧ cv1 = cv.stay) ∨ (dv.zr = false ∧ dv1 = dv ∧ cv1 = cv)) := by
  cases h : dv.zr with
  | true => exact ⟨_, _, hdv.stay, hcv.stay, .inl ⟨rfl, rfl, rfl⟩⟩
  | false => exact ⟨_, _, hdv, hcv, .inr ⟨rfl, rfl, rfl⟩⟩
 have al : ∀ (a : AW) (dv cv : LVal), zK dv a.ds → zN cv a.n → ∀ x ∈ stW st K (a.mk' dv cv).obj [], zt.within N x = true := fun a dv cv x y => xm hs (zw.within _ x y N)
 have hst : ∀ (a : AW) (dv cv : LVal), zK dv a.ds → zN cv a.n → xA N K (stW st K (a.mk' dv cv).obj []) := fun a dv cv x y => by
  have := stW_ok hs (W := (a.mk' dv cv).obj) (ext := []) (zw.within _ x y N) (by simp) (by simp)
  simpa using this
 have w2 : IntKind.i64.wrap 2 = 2 := rfl
 have w3 : IntKind.i64.wrap 3 = 3 := rfl
 have hc1 : (stW st K (a.mk' dv1 cv1).obj [])[K]? = some (a.mk' dv1 cv1).obj := xM hs _ _
 unfold wg
 have two : ∀ (e : Nat) (z : Int), (e : Int) = z → e < 17 → ∃ dv2 cv2 q2 dv3 cv3 q3, zK dv3 (zk (zk a 1 e 0 []).1 2 e 0 []).1.ds ∧ zN cv3 (zk (zk a 1 e 0 []).1 2 e 0 []).1.n ∧
  zq D.W 52 [.ptr K 0, .int .i64 1, .int .i64 z, .int .i64 0, .str []] (stW st K (a.mk' dv1 cv1).obj []) = some (.bool q2, some (stW st K ((zk a 1 e 0 []).1.mk' dv2 cv2).obj [])) ∧
  zq D.W 52 [.ptr K 0, .int .i64 2, .int .i64 z, .int .i64 0, .str []] (stW st K ((zk a 1 e 0 []).1.mk' dv2 cv2).obj []) = some (.bool q3, some (stW st K ((zk (zk a 1 e 0 []).1 2 e 0 []).1.mk' dv3 cv3).obj [])) ∧
  (∀ x ∈ stW st K ((zk a 1 e 0 []).1.mk' dv2 cv2).obj [], zt.within N x = true) := by
  intro e z hz he
  subst hz
  obtain ⟨dv2, cv2, hdv2, hcv2, k2⟩ := uq (hst a dv1 cv1 hdv1 hcv1) a ha dv1 cv1 hdv1 hcv1 hc1 1 (by decide) e he 0 []
  rw [zz hs] at k2
  have hc2 : (stW st K ((zk a 1 e 0 []).1.mk' dv2 cv2).obj [])[K]? = some ((zk a 1 e 0 []).1.mk' dv2 cv2).obj := xM hs _ _
  obtain ⟨dv3, cv3, hdv3, hcv3, k3⟩ := uq (hst _ dv2 cv2 hdv2 hcv2) _ (h1 _ he) dv2 cv2 hdv2 hcv2 hc2 2 (by decide) e he 0 []
  rw [zz hs] at k3
  exact ⟨dv2, cv2, _, dv3, cv3, _, hdv3, hcv3, k2, k3, al _ dv2 cv2 hdv2 hcv2⟩
 have al1 := al a dv1 cv1 hdv1 hcv1
 rw [zC hK]
 cases hnn : a.net <;> cases was
 case false.false | true.true =>
  rw [hnn] at k16
  simp only [if_true]
  clear two hc1
  unfold zD.cells at k16
  unfold AW.mk' zw.obj zw.cells zg.cells zA.cells zl.cells at *
  simp only [List.cons_append, List.nil_append] at *
  rcases hld with ⟨hio, rfl, rfl⟩ | ⟨hio, rfl, rfl⟩
  ·have F := an F0 (an hio (an hda (an k16 (eq_true al1))))
   refine Ret.of wkl ?_
   exact ⟨_, _, hdv1, hcv1, rfl, congrArg some (zz hs _ _ _).symm⟩
  ·have F := an F0 (an hio (an hda (an k16 (eq_true al1))))
   refine Ret.of wkl ?_
   exact ⟨_, _, hdv1, hcv1, rfl, congrArg some (zz hs _ _ _).symm⟩
 all_goals
  rw [hnn] at k16
  obtain ⟨dv2, cv2, q2, dv3, cv3, q3, hdv3, hcv3, k2, k3, al2⟩ := two (if a.net then 1 else 2) (if a.net then 1 else 2) (by rw [hnn]; rfl) (by rw [hnn]; decide)
  have al3 := al _ dv3 cv3 hdv3 hcv3
  simp only [hnn, if_true, Bool.false_eq_true, if_false, Bool.true_eq_false, reduceCtorEq] at k2 k3 al2 al3 hdv3 hcv3 ⊢
  clear two hc1
  generalize hA3 : (zk (zk a 1 _ 0 []).1 2 _ 0 []).1 = a3 at *
  generalize hA2 : (zk a 1 _ 0 []).1 = a2 at *
  generalize hW2 : (a2.mk' dv2 cv2).obj = W2 at *
  generalize hW3 : (a3.mk' dv3 cv3).obj = W3 at *
  have k2' := k2
  have k3' := k3
  clear k2 k3
  unfold zD.cells at k16
  unfold AW.mk' zw.obj zw.cells zg.cells zA.cells zl.cells at *
  simp only [List.cons_append, List.nil_append] at *
  rcases hld with ⟨hio, rfl, rfl⟩ | ⟨hio, rfl, rfl⟩
  ·have F := an F0 (an hio (an hda (an k16 (an w2 (an w3 (an (eq_true al1) (an (eq_true al2) (an (eq_true al3) (an k2' k3')))))))))
   refine Ret.of wkl ?_
   exact ⟨dv3, cv3, hdv3, hcv3, rfl, by rw [zz hs, ← hW3]⟩
  ·have F := an F0 (an hio (an hda (an k16 (an w2 (an w3 (an (eq_true al1) (an (eq_true al2) (an (eq_true al3) (an k2' k3')))))))))
   refine Ret.of wkl ?_
   exact ⟨dv3, cv3, hdv3, hcv3, rfl, by rw [zz hs, ← hW3]⟩
end Go.Proofs.YtpfnlpakcldobaaGreat
namespace Go.Proofs.YtpfnlpakcldobaaGreat
open Go Go.L
theorem look_all1 : ∀ s, s < 10 → ∀ e, e < 17 → (look s e).2.1.length ≤ 3 ∧ (look s e).1 < 10 := by decide
theorem look_all2 : ∀ s, s < 10 → ∀ e, e < 17 → (e = 1 ∨ e = 2 ∨ (look s e).2.2 = false ∨ decide (2 ≤ (look s e).1) = decide (2 ≤ s)) := by decide
theorem nc (s : Nat) (hs : s < 10) (e : Nat) (he : e < 17) : (look s e).2.1.length ≤ 3 ∧ (look s e).1 < 10 ∧ (e ≠ 1 → e ≠ 2 → (look s e).2.2 = true → (2 ≤ (look s e).1 ↔ 2 ≤ s)) := by
 obtain ⟨h1, h2⟩ := look_all1 s hs e he
 refine ⟨h1, h2, fun n1 n2 n3 => ?_⟩
 rcases look_all2 s hs e he with h | h | h | h
 ·exact absurd h n1
 ·exact absurd h n2
 ·rw [h] at n3; cases n3
 ·simpa using h
theorem look_up : ∀ s, s < 10 → (s < 2 → (look s 1).2.2 = true ∧ 2 ≤ (look s 1).1) ∧ (2 ≤ s → (look s 2).2.2 = true ∧ (look s 2).1 < 2) := by decide
theorem jf : ∀ s, s < 10 → ∀ x ∈ (look s 2).2.1, x < 7 := by decide
theorem nq (M mc mt : Int) (h1 : 0 ≤ mc ∧ mc ≤ M) (h2 : 0 ≤ mt ∧ mt ≤ M) : ∀ (l : List Nat) (r : Int), 0 ≤ r ∧ r ≤ M → 0 ≤ uv mc mt l r ∧ uv mc mt l r ≤ M
 | [], r, h => h
 | x :: l, r, h => by
  unfold uv
  apply nq M mc mt h1 h2
  repeat' split
  all_goals omega
theorem dueOf_len (zd id : Int) (data : List UInt8) (x : Nat) : (yI zd id data x).length ≤ 1 := by
 unfold yI
 (repeat' split) <;> first | exact Nat.le_refl 1 | exact Nat.zero_le 1
theorem dues_len (zd id : Int) (data : List UInt8) : ∀ l : List Nat, (l.flatMap (yI zd id data)).length ≤ l.length
 | [] => Nat.le_refl _
 | x :: l => by
  have h1 := dueOf_len zd id data x
  have h2 := dues_len zd id data l
  simp only [List.flatMap_cons, List.length_append, List.length_cons]
  omega
theorem dueOf_ok (zd id : Int) (data : List UInt8) (hd : data.length ≤ 70000) (x : Nat) : ∀ d ∈ yI zd id data x, d.data.length ≤ 70000 ∧ 1 ≤ d.kind ∧ d.kind ≤ 8 ∧ d.zd = zd := by
 intro d h
 unfold yI at h
 (repeat' split at h) <;> first | (simp only [List.mem_singleton] at h; subst h; exact ⟨by first | exact hd | exact Nat.zero_le _, by dsimp only; omega, by dsimp only; omega, rfl⟩) | cases h
theorem lH (i : Nat) : tq i = 49185 ∨ tq i = 32801 ∨ tq i = 32855 := by
 unfold tq
 split
 ·exact .inl rfl
 ·split
  ·exact .inr (.inl rfl)
  ·exact .inr (.inr rfl)
theorem gF_val (i : Nat) : ∀ (l : List Nat) (g : zl), (gF i l g).value = g.value ∨ (gF i l g).value = []
 | [], g => .inl rfl
 | x :: l, g => by
  unfold gF
  rcases gF_val i l (if x = 2 ∧ i = 0 then .zero else g) with h | h
  ·rw [h]
   split
   ·exact .inr rfl
   ·exact .inl rfl
  ·exact .inr h
theorem gF_other (i : Nat) (hi : i ≠ 0) : ∀ (l : List Nat) (g : zl), gF i l g = g
 | [], g => rfl
 | x :: l, g => by
  unfold gF
  rw [if_neg (fun h => hi h.2)]
  exact gF_other i hi l g
theorem AW.ok.mono {a : AW} {k m : Nat} (h : a.ok k) (hm : k ≤ m) : a.ok m := ⟨Nat.le_trans h.due hm, Nat.le_trans h.cel hm, h.mc, h.mt, h.mf, h.s1, h.s2, h.a0, h.a1, h.a2, h.g, h.ds⟩
def tY (a : AW) (i e : Nat) : zA := { a.link i with st := (look (a.link i).st.toNat e).1, rest := uv a.c.mc a.c.mt (look (a.link i).st.toNat e).2.1 (a.link i).rest }
theorem linkE_fit {a : AW} {k : Nat} (h : a.ok k) (i e : Nat) (he : e < 17) : (tY a i e).fit := by
 obtain ⟨f1, f2, f3, f4, f5, f6⟩ := h.fit i
 have h1 := nc (a.link i).st.toNat (by omega) e he
 have h2 := nq 65536 a.c.mc a.c.mt h.mc h.mt (look (a.link i).st.toNat e).2.1 (a.link i).rest f3
 exact ⟨by simp only [tY]; omega, by simp only [tY]; omega, h2, f4, f5, f6⟩
theorem tJ (a : AW) (i e : Nat) (id : Int) (data : List UInt8) : (zk a i e id data).1 = a ∨
 (se (a.link i).st.toNat e (a.link i).rest = true ∧ (zk a i e id data).1 = { a.xa i (tY a i e) with g := gF i (look (a.link i).st.toNat e).2.1 a.g, ds := a.ds ++ (look (a.link i).st.toNat e).2.1.flatMap (yI (tq i) id data), n := a.n + 1 }) := by
 unfold zk tY
 dsimp only
 by_cases h : se (a.link i).st.toNat e (a.link i).rest = true
 ·exact .inr ⟨h, by rw [if_pos h]⟩
 ·exact .inl (by rw [if_neg h])
theorem oI {a : AW} {k : Nat} (h : a.ok k) (i : Nat) (l : zA) (hl : l.fit) : (a.xa i l).ok k := by
 unfold AW.xa
 split
 ·exact ⟨h.due, h.cel, h.mc, h.mt, h.mf, h.s1, h.s2, hl, h.a1, h.a2, h.g, h.ds⟩
 ·split
  ·exact ⟨h.due, h.cel, h.mc, h.mt, h.mf, h.s1, h.s2, h.a0, hl, h.a2, h.g, h.ds⟩
  ·exact ⟨h.due, h.cel, h.mc, h.mt, h.mf, h.s1, h.s2, h.a0, h.a1, hl, h.g, h.ds⟩
theorem setL_c (a : AW) (i : Nat) (l : zA) : (a.xa i l).c = a.c ∧ (a.xa i l).g = a.g ∧ (a.xa i l).ds = a.ds ∧ (a.xa i l).n = a.n := by
 unfold AW.xa
 split
 ·exact ⟨rfl, rfl, rfl, rfl⟩
 ·split <;> exact ⟨rfl, rfl, rfl, rfl⟩
theorem xQ {a : AW} {k : Nat} (h : a.ok k) (i e : Nat) (he : e < 17) (id : Int) (data : List UInt8) (hd : data.length ≤ 70000) : (zk a i e id data).1.ok (k + 3) := by
 rcases tJ a i e id data with h1 | ⟨_, h1⟩
 ·rw [h1]; exact h.mono (by omega)
 ·rw [h1]
  have h2 := oI h i _ (linkE_fit h i e he)
  obtain ⟨f1, f2, _⟩ := h.fit i
  obtain ⟨h3, _, _⟩ := nc (a.link i).st.toNat (by omega) e he
  have h4 := dues_len (tq i) id data (look (a.link i).st.toNat e).2.1
  have h5 := h.due
  have h6 := h.cel
  refine ⟨?_, ?_, h2.mc, h2.mt, h2.mf, h2.s1, h2.s2, h2.a0, h2.a1, h2.a2, ?_, ?_⟩
  ·simp only [List.length_append]; omega
  ·simp only []; omega
  ·simp only []
   rcases gF_val i (look (a.link i).st.toNat e).2.1 a.g with h | h
   ·rw [h]; exact ‹a.ok k›.g
   ·rw [h]; exact Nat.zero_le _
  ·intro d hd'
   simp only [List.mem_append, List.mem_flatMap] at hd'
   rcases hd' with hd' | ⟨x, _, hd'⟩
   ·exact h.ds d hd'
   ·obtain ⟨q1, q2, q3, q4⟩ := dueOf_ok (tq i) id data hd x d hd'
    exact ⟨q1, .inl ⟨q2, q3, by rw [q4]; exact lH i⟩⟩
def Lk (M mf : Int) (l : zA) : Prop := 0 ≤ l.rest ∧ l.rest ≤ M ∧ 0 ≤ l.zT ∧ l.zT ≤ mf
structure Inv (c : zg) (M : Int) (up : Bool) (a : AW) : Prop where
 cc : a.c = c
 mc : 0 ≤ c.mc ∧ c.mc ≤ M
 mt : 0 ≤ c.mt ∧ c.mt ≤ M
 k0 : Lk M c.mf a.l0
 k1 : Lk M c.mf a.l1
 k2 : Lk M c.mf a.l2
 u1 : 2 ≤ a.l1.st ↔ up = true
 u2 : 2 ≤ a.l2.st ↔ up = true
theorem Inv.k {c : zg} {M : Int} {up : Bool} {a : AW} (h : Inv c M up a) (i : Nat) : Lk M c.mf (a.link i) := by
 unfold AW.link
 split
 ·exact h.k0
 ·split
  ·exact h.k1
  ·exact h.k2
theorem Inv.xa {c : zg} {M : Int} {up : Bool} {a : AW} (h : Inv c M up a) (i : Nat) (l : zA) (hl : Lk M c.mf l) (hs : i ≠ 0 → (2 ≤ l.st ↔ 2 ≤ (a.link i).st)) : Inv c M up (a.xa i l) := by
 unfold AW.xa
 by_cases h0 : i = 0
 ·rw [if_pos h0]; exact ⟨h.cc, h.mc, h.mt, hl, h.k1, h.k2, h.u1, h.u2⟩
 ·rw [if_neg h0]
  have h2 := hs h0
  unfold AW.link at h2
  rw [if_neg h0] at h2
  split
  ·rename_i h1
   rw [if_pos h1] at h2
   exact ⟨h.cc, h.mc, h.mt, h.k0, hl, h.k2, h2.trans h.u1, h.u2⟩
  ·rename_i h1
   rw [if_neg h1] at h2
   exact ⟨h.cc, h.mc, h.mt, h.k0, h.k1, hl, h.u1, h2.trans h.u2⟩
theorem Inv.rest {c : zg} {M : Int} {up : Bool} {a : AW} (h : Inv c M up a) (g : zl) (ds : List yu) (n : Nat) : Inv c M up { a with g := g, ds := ds, n := n } := ⟨h.cc, h.mc, h.mt, h.k0, h.k1, h.k2, h.u1, h.u2⟩
theorem lP {c : zg} {M : Int} {up : Bool} {a : AW} (h : Inv c M up a) (i e : Nat) : Lk M c.mf (tY a i e) := by
 obtain ⟨h1, h2, h3, h4⟩ := h.k i
 have h5 := nq M a.c.mc a.c.mt (by rw [h.cc]; exact h.mc) (by rw [h.cc]; exact h.mt) (look (a.link i).st.toNat e).2.1 (a.link i).rest ⟨h1, h2⟩
 exact ⟨h5.1, h5.2, h3, h4⟩
theorem Inv.rD {c : zg} {M : Int} {up : Bool} {a : AW} {k : Nat} (h : Inv c M up a) (ha : a.ok k) (i e : Nat) (he : e < 17) (hie : i = 0 ∨ (e ≠ 1 ∧ e ≠ 2)) (id : Int) (data : List UInt8) : Inv c M up (zk a i e id data).1 := by
 rcases tJ a i e id data with h1 | ⟨hc, h1⟩
 ·rw [h1]; exact h
 ·rw [h1]
  refine Inv.rest (h.xa i _ (lP h i e) fun h0 => ?_) _ _ _
  obtain ⟨f1, f2, _⟩ := ha.fit i
  obtain ⟨_, _, h3⟩ := nc (a.link i).st.toNat (by omega) e he
  have hie' : e ≠ 1 ∧ e ≠ 2 := by rcases hie with h | h; exact absurd h h0; exact h
  have hq : (look (a.link i).st.toNat e).2.2 = true := by
   unfold se at hc
   simp only [Bool.and_eq_true] at hc
   exact hc.1.1
  have h4 := h3 hie'.1 hie'.2 hq
  simp only [tY]
  omega
theorem sS (a : AW) (i e : Nat) (hi : i = 1 ∨ i = 2) (id : Int) (data : List UInt8) : (zk a i e id data).1.l0 = a.l0 ∧ (zk a i e id data).1.g = a.g ∧ (zk a i e id data).1.net = a.net := by
 have hi0 : i ≠ 0 := by omega
 rcases tJ a i e id data with h1 | ⟨_, h1⟩
 ·rw [h1]; exact ⟨rfl, rfl, rfl⟩
 ·rw [h1]
  have hg := gF_other i hi0 (look (a.link i).st.toNat e).2.1 a.g
  rw [hg]
  have : (a.xa i (tY a i e)).l0 = a.l0 := by
   unfold AW.xa
   rw [if_neg hi0]
   split <;> rfl
  exact ⟨this, rfl, by unfold AW.net; rw [show (({ a.xa i (tY a i e) with g := a.g, ds := _, n := _ } : AW)).l0 = a.l0 from this]⟩
theorem kN (a : AW) (was : Bool) : (wg a was).net = a.net := by
 unfold wg
 split
 ·rfl
 ·dsimp only
  rw [(sS _ 2 _ (.inr rfl) _ _).2.2, (sS _ 1 _ (.inl rfl) _ _).2.2]
theorem spreadA_ok {a : AW} {k : Nat} (h : a.ok k) (was : Bool) : (wg a was).ok (k + 6) := by
 unfold wg
 split
 ·exact h.mono (by omega)
 ·dsimp only
  have he : (if a.net = true then 1 else 2) < 17 := by split <;> decide
  exact xQ (xQ h 1 _ he 0 [] (Nat.zero_le _)) 2 _ he 0 [] (Nat.zero_le _)
theorem kO {c : zg} {M : Int} {was : Bool} {a : AW} {k : Nat} (h : Inv c M was a) (ha : a.ok k) : Inv c M a.net (wg a was) := by
 unfold wg
 by_cases hn : a.net = was
 ·rw [if_pos hn, hn]; exact h
 ·rw [if_neg hn]
  dsimp only
  have one : ∀ (a : AW) (k : Nat) (i : Nat), (i = 1 ∨ i = 2) → a.ok k → ∀ up : Bool, (2 ≤ (a.link i).st ↔ (!up) = true) →
   ∃ g ds n l, (zk a i (if up = true then 1 else 2) 0 []).1 = { a.xa i l with g := g, ds := ds, n := n } ∧ (2 ≤ l.st ↔ up = true) ∧ l = tY a i (if up = true then 1 else 2) := by
   intro a k i hi hk up hs
   obtain ⟨f1, f2, _⟩ := hk.fit i
   obtain ⟨u1, u2⟩ := look_up (a.link i).st.toNat (by omega)
   have hcan : se (a.link i).st.toNat (if up = true then 1 else 2) (a.link i).rest = true ∧ (2 ≤ (tY a i (if up = true then 1 else 2)).st ↔ up = true) := by
    cases up with
    | true =>
     have := u1 (by have h9 : ¬ 2 ≤ (a.link i).st := fun h' => (by have := hs.1 h'; cases this); omega)
     exact ⟨by simp [se, this.1], by simp [tY]; omega⟩
    | false =>
     have := u2 (by have := hs.2 rfl; omega)
     exact ⟨by simp [se, this.1], by simp [tY]; omega⟩
   rcases tJ a i (if up = true then 1 else 2) 0 [] with h1 | ⟨_, h1⟩
   ·exfalso
    have hn : (zk a i (if up = true then 1 else 2) 0 []).1.n = a.n + 1 := by
     unfold zk
     dsimp only
     rw [if_pos hcan.1]
    rw [h1] at hn
    omega
   ·exact ⟨_, _, _, _, h1, hcan.2, rfl⟩
  have hwas : was = !a.net := by cases hw : was <;> cases hx : a.net <;> simp_all
  obtain ⟨g1, ds1, n1, l1, e1, s1, x1⟩ := one a k 1 (.inl rfl) ha a.net (by rw [← hwas]; exact h.u1)
  have ha1 := xQ ha 1 (if a.net = true then 1 else 2) (by split <;> decide) 0 [] (Nat.zero_le _)
  have hk1 := lP h 1 (if a.net = true then 1 else 2)
  rw [← x1] at hk1
  rw [e1] at ha1 ⊢
  have hl1 : a.xa 1 l1 = { a with l1 := l1 } := rfl
  rw [hl1] at ha1 ⊢
  obtain ⟨g2, ds2, n2, l2, e2, s2, x2⟩ := one { a with l1 := l1, g := g1, ds := ds1, n := n1 } _ 2 (.inr rfl) ha1 a.net (by rw [← hwas]; exact h.u2)
  have hb : Inv c M was { a with g := g1, ds := ds1, n := n1 } := h.rest _ _ _
  have hk2 := lP hb 2 (if a.net = true then 1 else 2)
  have hx : tY { a with g := g1, ds := ds1, n := n1 } 2 (if a.net = true then 1 else 2) = l2 := by rw [x2]; rfl
  rw [hx] at hk2
  rw [e2]
  exact ⟨h.cc, h.mc, h.mt, h.k0, hk1, hk2, s1, s2⟩
end Go.Proofs.YtpfnlpakcldobaaGreat
