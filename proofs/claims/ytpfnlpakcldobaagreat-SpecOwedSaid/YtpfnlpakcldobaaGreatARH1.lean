/- Texts of the proof: RH1. -/
import Derived.Test.YtpfnlpakcldobaaGreatARD
import Derived.Test.YtpfnlpakcldobaaGreatAQA
set_option linter.unusedVariables false
set_option linter.unusedSimpArgs false
set_option linter.unusedSectionVars false
namespace Go.Proofs.YtpfnlpakcldobaaGreat
open Go Go.L
theorem fn84 : D.W.fns 84 = some (.fn D.l84) := rfl
theorem fn65 : D.W.fns 65 = some (.fn D.l65) := rfl
def wx (l : List Nat) : List LVal := l.map fun (n : Nat) => .int .i64 n
theorem ur (l : List Nat) : (wx l).length = l.length := by simp [wx]
theorem vp : ∀ (l : List Nat), LVal.pfs (wx l) = true
 | [] => rfl
 | o :: l => vp l
theorem wA (n : Nat) : ∀ (l : List Nat), LVal.zb n (wx l) = true
 | [] => rfl
 | o :: l => wA n l
theorem nD (l : List Nat) (k : Nat) : (wx l).drop k = wx (l.drop k) := by simp [wx]
theorem intsL_take (l : List Nat) (k : Nat) : (wx l).take k = wx (l.take k) := by simp [wx]
theorem pN {l : List Nat} {i : Nat} (h : i < l.length) : (wx l)[i]? = some (.int .i64 (l[i] : Nat)) := by simp [wx, h]
set_option maxHeartbeats 8000000 in
theorem loop53 (l : List Nat) (x : Nat) (hl : l.length ≤ 100) (Q : yS → RS → Prop)
 (hE : x ∉ l → ∀ v2 w6, Q (.exit 0) ⟨[.vs false .sh 1 (wx l), .int .i64 x, v2, .undef, .int .i64 l.length, .int .i64 l.length, w6, .undef], [], []⟩)
 (hR : x ∈ l → ∀ (n : Nat) v0 v1 v3 v4 v5 v6 v7, Q .ret ⟨[v0, v1, .int .i64 n, v3, v4, v5, v6, v7], [], []⟩) :
 ∀ (j i : Nat) (v2 : LVal), i + j = l.length → v2.zr = false → x ∉ l.take i →
  Wp D.W (.loop D.b53_0) ⟨[.vs false .sh 1 (wx l), .int .i64 x, v2, .undef, .int .i64 l.length, .int .i64 i, .undef, .undef], [], []⟩ Q
 | 0, i, v2, hij, o2, hx => by
  have : i = l.length := by omega
  subst this
  rw [List.take_length] at hx
  apply xi
  have F := o2
  refine Wp.to wp1 ?_; first | apply za.n | apply za.e | apply za.r
  exact hE hx _ _
 | j + 1, i, v2, hij, o2, hx => by
  have hi : i < l.length := by omega
  have e1 : (i : Int) < l.length := by omega
  have e0 : 0 ≤ (i : Int) ∧ (i : Int) < l.length := by omega
  have e3 : IntKind.i64.wrap ((i : Int) + 1) = (i : Int) + 1 := vG (by omega) (by omega)
  have e4 := ur l
  have e5 : (wx l)[i]? = some (.int .i64 (l[i] : Nat)) := pN hi
  have e5' : ∀ h, (wx l)[i]'h = .int .i64 (l[i] : Nat) := fun h => by have := List.getElem?_eq_getElem h; rw [e5] at this; exact (Option.some.inj this).symm
  have ec : ((i + 1 : Nat) : Int) = (i : Int) + 1 := by omega
  have e7 := wA
  apply xi
  by_cases h : x = l[i]
  ·have hm : x ∈ l := by rw [h]; exact List.getElem_mem hi
   rw [← h] at e5 e5'
   have F := an o2 (an e0 (an e1 (an e3 (an e4 (an e5 (an e5' e7))))))
   refine Wp.to wp1 ?_; first | apply za.n | apply za.e | apply za.r
   exact hR hm _ _ _ _ _ _ _ _
  ·have ih := loop53 l x hl Q hE hR j (i + 1) .undef (by omega) rfl (by
    rw [List.take_add_one, List.getElem?_eq_getElem hi, List.mem_append]
    rintro (h' | h')
    ·exact hx h'
    ·simp at h'; exact h h')
   simp only [ec] at ih
   have hb : ((x : Int) == (l[i] : Nat)) = false := by simpa using (fun e : (x : Int) = (l[i] : Nat) => h (by omega))
   generalize l[i] = y at *
   have F := an o2 (an e0 (an e1 (an e3 (an e4 (an e5 (an e5' (an e7 hb)))))))
   refine Wp.to wp1 ?_; first | apply za.n | apply za.e | apply za.r
   exact ih
set_option maxHeartbeats 4000000 in
theorem contains84 (l : List Nat) (x : Nat) (hl : l.length ≤ 100) : zq D.W 84 [.vs false .sh 1 (wx l), .int .i64 x] [] = some (.bool (decide (x ∈ l)), none) := by
 have e1 := vp l
 have e4 := ur l
 have e7 := wA
 have key : ∃ n : Int, zq D.W 53 [.vs false .sh 1 (wx l), .int .i64 x] [] = some (.int .i64 n, none) ∧ (0 ≤ n ↔ x ∈ l) := by
  suffices h : Ret D.W 53 [.vs false .sh 1 (wx l), .int .i64 x] [] (fun v o => o = none ∧ ∃ n : Int, v = .int .i64 n ∧ (0 ≤ n ↔ x ∈ l)) by
   obtain ⟨v, k, n, rfl, h⟩ := h.ex
   exact ⟨n, k, h⟩
  refine yU fn53 rfl (fun _ => ?_) ?_
  ·simp [LVal.pfs, LVal.pf]
  simp only [Go.L.zc, List.map_cons, List.map_nil, Option.bind_some, Option.bind_none, Option.getD_some, Option.getD_none, List.getElem?_cons_zero, List.getElem?_cons_succ, zY.zH, if_true, Bool.false_eq_true, if_false, ite_self]
  unfold D.c53
  (have F := an e1 e4; refine gow ?_)
  refine loop53 l x hl _ ?_ ?_ l.length 0 _ (by omega) rfl (by simp)
  ·intro hx v2 w6
   (have F := e7; refine gow ?_)
   (have F : True := trivial; refine fnw ?_)
   exact ⟨rfl, -1, rfl, ⟨fun h => absurd h (by decide), fun h => absurd h hx⟩⟩
  ·intro hx n v0 v1 v3 v4 v5 v6 v7
   (have F := e7; refine gow ?_)
   (have F : True := trivial; refine fnw ?_)
   exact ⟨rfl, n, rfl, ⟨fun _ => hx, fun _ => by omega⟩⟩
 obtain ⟨n, k, hn⟩ := key
 have hd : decide (x ∈ l) = decide (0 ≤ n) := by rw [decide_eq_decide]; exact hn.symm
 rw [hd, yF fn84]
 simp [D.l84, D.c84, go_sem, k, e1]
def uv (mc mt : Int) : List Nat → Int → Int
 | [], r => r
 | a :: l, r => uv mc mt l (if a = 5 then (if 10 ∈ a :: l then mt else mc) else if a = 6 then 0 else if a = 7 ∨ a = 10 then (if 0 < r then r - 1 else 0) else r)
def i16 (n : Int) : Prop := 0 ≤ n ∧ n ≤ 65536
set_option maxHeartbeats 16000000 in
theorem loop65 (c : zg) (hc1 : i16 c.mc) (hc2 : i16 c.mt) (l : List Nat) (hl : l.length ≤ 100) (ev nx : Int) (hne : l ≠ []) (Q : yS → RS → Prop) (r0 : Int)
 (hE : ∀ v0 v1 v2 v6 v7 v8 v10 v11 v12 v13 v17, Q (.exit 0) ⟨[v0, v1, v2, .ptr 0 0, .ptr 1 0, .ptr 2 0, v6, v7, v8, .vs false .sh 1 (wx l), v10, v11, v12, v13, .vs false .sh 1 (wx l), .int .i64 l.length, .int .i64 l.length, v17, .undef, .undef, .undef, .undef, .undef], [.cells 24 c.cells, .cells 26 [.int .i64 nx, .int .i64 r0], .cells 26 [.int .i64 0, .int .i64 0]], []⟩) :
 ∀ (j i : Nat) (v0 v1 v2 v6 v7 v8 v10 v11 v12 v13 : LVal) (r : Int), i + j = l.length → v0.zr = false → v1.zr = false → v2.zr = false → v6.zr = false → v7.zr = false → v8.zr = false → v10.zr = false → v11.zr = false → v12.zr = false → v13.zr = false → i16 r → uv c.mc c.mt (l.drop i) r = r0 →
  Wp D.W (.loop D.b65_1) ⟨[v0, v1, v2, .ptr 0 0, .ptr 1 0, .ptr 2 0, v6, v7, v8, .vs false .sh 1 (wx l), v10, v11, v12, v13, .vs false .sh 1 (wx l), .int .i64 l.length, .int .i64 i, .undef, .undef, .undef, .undef, .undef, .undef], [.cells 24 c.cells, .cells 26 [.int .i64 nx, .int .i64 r], .cells 26 [.int .i64 0, .int .i64 0]], []⟩ Q
 | 0, i, v0, v1, v2, v6, v7, v8, v10, v11, v12, v13, r, hij, o0, o1, o2, o6, o7, o8, o10, o11, o12, o13, hr, h0 => by
  have : i = l.length := by omega
  subst this
  rw [List.drop_length] at h0
  simp only [uv] at h0
  subst h0
  unfold zg.cells at *
  apply xi
  have F := an o0 (an o1 (an o2 (an o6 (an o7 (an o8 (an o10 (an o11 (an o12 o13))))))))
  refine Wp.to wp1 ?_; first | apply za.n | apply za.e | apply za.r
  exact hE _ _ _ _ _ _ _ _ _ _ _
 | j + 1, i, v0, v1, v2, v6, v7, v8, v10, v11, v12, v13, r, hij, o0, o1, o2, o6, o7, o8, o10, o11, o12, o13, hr, h0 => by
  have hi : i < l.length := by omega
  have e1 : (i : Int) < l.length := by omega
  have e0 : 0 ≤ (i : Int) ∧ (i : Int) < l.length := by omega
  have e0' : 0 ≤ (i : Int) ∧ (i : Int) ≤ l.length := by omega
  have e0'' : (i : Int) ≤ l.length := by omega
  have e3 : IntKind.i64.wrap ((i : Int) + 1) = (i : Int) + 1 := vG (by omega) (by omega)
  have e4 := ur l
  have e5 : (wx l)[i]? = some (.int .i64 (l[i] : Nat)) := pN hi
  have e5' : ∀ h, (wx l)[i]'h = .int .i64 (l[i] : Nat) := fun h => by have := List.getElem?_eq_getElem h; rw [e5] at this; exact (Option.some.inj this).symm
  have ec : ((i + 1 : Nat) : Int) = (i : Int) + 1 := by omega
  have e7 := wA
  have d1 : (wx l).drop i = wx (l.drop i) := nD l i
  have d2 : ((wx l).take l.length).drop i = wx (l.drop i) := by rw [intsL_take, List.take_length, nD]
  have e8 := vp (l.drop i)
  have k := contains84 (l.drop i) 10 (by simp; omega)
  have k' : zq D.W 84 [.vs false .sh 1 (wx (l.drop i)), .int .i64 10] [] = _ := k
  clear k
  have w1 : IntKind.i64.wrap (r - 1) = r - 1 := vG (by have := hr.1; omega) (by have := hr.2; omega)
  rw [List.drop_eq_getElem_cons hi] at h0
  simp only [uv] at h0
  rw [← List.drop_eq_getElem_cons hi] at h0
  have ih := fun r hr h0 => loop65 c hc1 hc2 l hl ev nx hne Q r0 hE j (i + 1) .undef .undef .undef .undef .undef .undef .undef .undef .undef .undef r (by omega) rfl rfl rfl rfl rfl rfl rfl rfl rfl rfl hr h0
  simp only [ec] at ih
  generalize l[i] = y at *
  generalize l.drop i = t at *
  unfold zg.cells at *
  apply xi
  by_cases h5 : y = 5
  ·subst h5
   by_cases h10 : 10 ∈ t
   ·simp only [if_true, if_pos h10] at h0
    have F := an o0 (an o1 (an o2 (an o6 (an o7 (an o8 (an o10 (an o11 (an o12 (an o13 (an e0 (an e0' (an e0'' (an e1 (an e3 (an e4 (an e5 (an e5' (an e7 (an e8 (an d1 (an d2 (an k' h10))))))))))))))))))))))
    refine Wp.to wp1 ?_; first | apply za.n | apply za.e | apply za.r
    exact ih _ hc2 h0
   ·simp only [if_true, if_neg h10] at h0
    have F := an o0 (an o1 (an o2 (an o6 (an o7 (an o8 (an o10 (an o11 (an o12 (an o13 (an e0 (an e0' (an e0'' (an e1 (an e3 (an e4 (an e5 (an e5' (an e7 (an e8 (an d1 (an d2 (an k' h10))))))))))))))))))))))
    refine Wp.to wp1 ?_; first | apply za.n | apply za.e | apply za.r
    exact ih _ hc1 h0
  ·have h5' : ¬ (y : Int) = 5 := by omega
   rw [if_neg h5] at h0
   by_cases h6 : y = 6
   ·subst h6
    simp only [if_true] at h0
    have F := an o0 (an o1 (an o2 (an o6 (an o7 (an o8 (an o10 (an o11 (an o12 (an o13 (an e0 (an e0' (an e0'' (an e1 (an e3 (an e4 (an e5 (an e5' (an e7 (an e8 (an d1 (an d2 k')))))))))))))))))))))
    refine Wp.to wp1 ?_; first | apply za.n | apply za.e | apply za.r
    exact ih _ ⟨by decide, by decide⟩ h0
   ·have h6' : ¬ (y : Int) = 6 := by omega
    rw [if_neg h6] at h0
    by_cases h7 : y = 7
    ·subst h7
     simp only [true_or, if_true] at h0
     by_cases hp : 0 < r
     ·rw [if_pos hp] at h0
      have hm : ¬ 0 > r - 1 := by omega
      have hm' : ¬ r - 1 < 0 := by omega
      have hm'' : ¬ r < 1 := by omega
      have F := an o0 (an o1 (an o2 (an o6 (an o7 (an o8 (an o10 (an o11 (an o12 (an o13 (an e0 (an e0' (an e0'' (an e1 (an e3 (an e4 (an e5 (an e5' (an e7 (an e8 (an d1 (an d2 (an k' (an w1 (an hm (an hm' hm'')))))))))))))))))))))))))
      refine Wp.to wp1 ?_; first | apply za.n | apply za.e | apply za.r
      exact ih _ ⟨by omega, by have := hr.2; omega⟩ h0
     ·rw [if_neg hp] at h0
      have h00 : r = 0 := by have := hr.1; omega
      subst h00
      have w2 : IntKind.i64.wrap (0 - 1) = -1 := rfl
      have w3 : IntKind.i64.wrap (-1) = -1 := rfl
      have F := an o0 (an o1 (an o2 (an o6 (an o7 (an o8 (an o10 (an o11 (an o12 (an o13 (an e0 (an e0' (an e0'' (an e1 (an e3 (an e4 (an e5 (an e5' (an e7 (an e8 (an d1 (an d2 (an k' (an w2 w3)))))))))))))))))))))))
      refine Wp.to wp1 ?_; first | apply za.n | apply za.e | apply za.r
      exact ih _ ⟨by decide, by decide⟩ h0
    ·have h7' : ¬ (y : Int) = 7 := by omega
     by_cases h8 : y = 10
     ·subst h8
      simp only [or_true, if_true] at h0
      by_cases hp : 0 < r
      ·rw [if_pos hp] at h0
       have hm : ¬ 0 > r - 1 := by omega
       have hm' : ¬ r - 1 < 0 := by omega
       have hm'' : ¬ r < 1 := by omega
       have F := an o0 (an o1 (an o2 (an o6 (an o7 (an o8 (an o10 (an o11 (an o12 (an o13 (an e0 (an e0' (an e0'' (an e1 (an e3 (an e4 (an e5 (an e5' (an e7 (an e8 (an d1 (an d2 (an k' (an w1 (an hm (an hm' hm'')))))))))))))))))))))))))
       refine Wp.to wp1 ?_; first | apply za.n | apply za.e | apply za.r
       exact ih _ ⟨by omega, by have := hr.2; omega⟩ h0
      ·rw [if_neg hp] at h0
       have h00 : r = 0 := by have := hr.1; omega
       subst h00
       have w2 : IntKind.i64.wrap (0 - 1) = -1 := rfl
       have w3 : IntKind.i64.wrap (-1) = -1 := rfl
       have F := an o0 (an o1 (an o2 (an o6 (an o7 (an o8 (an o10 (an o11 (an o12 (an o13 (an e0 (an e0' (an e0'' (an e1 (an e3 (an e4 (an e5 (an e5' (an e7 (an e8 (an d1 (an d2 (an k' (an w2 w3)))))))))))))))))))))))
       refine Wp.to wp1 ?_; first | apply za.n | apply za.e | apply za.r
       exact ih _ ⟨by decide, by decide⟩ h0
     ·have h8' : ¬ (y : Int) = 10 := by omega
      rw [if_neg (by rintro (h | h); exact h7 h; exact h8 h)] at h0
      have F := an o0 (an o1 (an o2 (an o6 (an o7 (an o8 (an o10 (an o11 (an o12 (an o13 (an e0 (an e0' (an e0'' (an e1 (an e3 (an e4 (an e5 (an e5' (an e7 (an e8 (an d1 (an d2 (an k' (an h5' (an h6' (an h7' (an h8' (an h5 (an h6 (an h7 h8)))))))))))))))))))))))))))))
      refine Wp.to wp1 ?_; first | apply za.n | apply za.e | apply za.r
      exact ih _ hr h0
end Go.Proofs.YtpfnlpakcldobaaGreat
