/- SpecNetwork is proved: at every config and every list of labels that are handed in as the row says, the law specNetwork returns true, does not panic, and leaves what it was handed as it found it.
   Conditions: those of the given statement alone (every machine that has started, every world, every reading of the config and the labels); no premise is added. -/
import Derived.Test.YtpfnlpakcldobaaGreatARL1
import Derived.Test.YtpfnlpakcldobaaGreatARC
import Derived.Test.YtpfnlpakcldobaaGreatAAW
import Derived.Test.YtpfnlpakcldobaaGreatARS1
set_option linter.unusedVariables false
set_option linter.unusedSimpArgs false
set_option linter.unusedSectionVars false
namespace Go.Proofs.YtpfnlpakcldobaaGreat
open Go Go.L
set_option maxRecDepth 100000 in
set_option maxHeartbeats 80000000 in
theorem loop5 (c : zg) (b : Bool) (m : Nat) (cs : List yp) (hm : cs ≠ [] → m = 6) (hl : cs.length ≤ 80) (hcs : ∀ x ∈ cs, Wb x.item.nil x.item.m x.item.data) (Q : yS → RS → Prop)
 (hE : ∀ v0 v3 v6 v7 v8 v9 v10 v11 v12 v13 v14 v15 v16 (s : zD), (v0.zr = false ∧ v3.zr = false ∧ v6.zr = false ∧ v7.zr = false ∧ v8.zr = false ∧ v9.zr = false ∧ v10.zr = false ∧ v11.zr = false ∧ v12.zr = false ∧ v13.zr = false ∧ v14.zr = false ∧ v15.zr = false ∧ v16.zr = false) → Q (.exit 0) ⟨[v0, .vs b .sh m (wS cs), .ptr 0 0, v3, .ptr 1 0, .int .i64 cs.length, v6, v7, v8, v9, v10, v11, v12, v13, v14, v15, v16], [.cells 24 c.cells, .cells 34 s.cells], []⟩) :
 ∀ (j i : Nat) (s : zD) (v0 v3 v6 v7 v8 v9 v10 v11 v12 v13 v14 v15 v16 : LVal), i + j = cs.length → mg c s (10 + 9 * i) → v0.zr = false → v3.zr = false → v6.zr = false → v7.zr = false → v8.zr = false → v9.zr = false → v10.zr = false → v11.zr = false → v12.zr = false → v13.zr = false → v14.zr = false → v15.zr = false → v16.zr = false →
  Wp D.W (.loop D.b5_2) ⟨[v0, .vs b .sh m (wS cs), .ptr 0 0, v3, .ptr 1 0, .int .i64 i, v6, v7, v8, v9, v10, v11, v12, v13, v14, v15, v16], [.cells 24 c.cells, .cells 34 s.cells], []⟩ Q
 | 0, i, s, v0, v3, v6, v7, v8, v9, v10, v11, v12, v13, v14, v15, v16, hij, hC, o0, o3, o6, o7, o8, o9, o10, o11, o12, o13, o14, o15, o16 => by
  have hi : i = cs.length := by omega
  subst hi
  have e4 := uT cs
  apply xi
  have F := an o0 (an o3 (an o6 (an o7 (an o8 (an o9 (an o10 (an o11 (an o12 (an o13 (an o14 (an o15 (an o16 e4))))))))))))
  refine Wp.to wp1 (za.e ?_)
  exact hE _ _ _ _ _ _ _ _ _ _ _ _ _ s ⟨o0, o3, o6, o7, o8, o9, o10, o11, rfl, o13, o14, o15, o16⟩
 | j + 1, i, s, v0, v3, v6, v7, v8, v9, v10, v11, v12, v13, v14, v15, v16, hij, hC, o0, o3, o6, o7, o8, o9, o10, o11, o12, o13, o14, o15, o16 => by
  have h1 : i < cs.length := by omega
  have hm2 := hm (fun e => by subst e; simp at h1)
  subst hm2
  have e4 := uT cs
  have g1 : (i : Int) < cs.length := by omega
  have g0 : 0 ≤ (i : Int) ∧ (i : Int) < cs.length := by omega
  have e3 : IntKind.i64.wrap ((i : Int) + 1) = (i : Int) + 1 := vG (by omega) (by omega)
  obtain ⟨e5, e5'⟩ := jg h1
  have e8 := zx cs[i].item.data
  have ew := ua
  have ew2 := wV
  have er := uE s.due
  have ho := hC.o
  obtain ⟨q, s', ho', k14, hq⟩ := jr hC (by omega) cs[i] (hcs _ (List.getElem_mem h1))
  have er' := uE s'.due
  have go : ∀ s2 : zD, mg c s2 (10 + 9 * (i + 1)) → Wp D.W (.loop D.b5_2) ⟨[.undef, .vs b .sh 6 (wS cs), .ptr 0 0, .undef, .ptr 1 0, .int .i64 ((i : Int) + 1), .undef, .undef, .undef, .undef, .undef, .undef, .undef, .undef, .undef, .undef, .undef], [.cells 24 c.cells, .cells 34 s2.cells], []⟩ Q := fun s2 h2 => by
   have ih := loop5 c b 6 cs hm hl hcs Q hE j (i + 1) s2 .undef .undef .undef .undef .undef .undef .undef .undef .undef .undef .undef .undef .undef (by omega) h2 rfl rfl rfl rfl rfl rfl rfl rfl rfl rfl rfl rfl rfl
   have ec : ((i + 1 : Nat) : Int) = (i : Int) + 1 := by omega
   rw [ec] at ih
   exact ih
  have w : IntKind.i64.wrap 1 = 1 ∧ IntKind.i64.wrap 2 = 2 ∧ IntKind.i64.wrap 3 = 3 := ⟨rfl, rfl, rfl⟩
  apply xi
  have O : v0.zr = false ∧ v3.zr = false ∧ v6.zr = false ∧ v7.zr = false ∧ v8.zr = false ∧ v9.zr = false ∧ v10.zr = false ∧ v11.zr = false ∧ v12.zr = false ∧ v13.zr = false ∧ v14.zr = false ∧ v15.zr = false ∧ v16.zr = false := ⟨o0, o3, o6, o7, o8, o9, o10, o11, o12, o13, o14, o15, o16⟩
  cases q with
  | false =>
   have hgo := go s ⟨hC.o, hC.d, hC.ok.mono (by omega), hC.inv⟩
   clear go
   unfold zg.cells zD.cells zA.cells zl.cells yp.cells at *
   simp only [List.cons_append, List.nil_append, ho, ho'] at *
   have F := an O (an e4 (an g1 (an g0 (an e3 (an e5 (an e5' (an e8 (an ew (an ew2 (an er (an er' (an h1 (an k14 (an w mb'))))))))))))))
   exact Wp.to js (za.n hgo)
  | true =>
   obtain ⟨hC', _⟩ := hq rfl
   have hgo := go s' ⟨hC'.o, hC'.d, hC'.ok.mono (by omega), hC'.inv⟩
   have k16 := jA s' ho'
   have hI := hC'.inv
   rw [w_net] at hI
   have r0 : ¬ s'.l0.rest < 0 := by have := hI.k0.1; simp only [zD.w] at this; omega
   have r1 : ¬ s'.l1.rest < 0 := by have := hI.k1.1; simp only [zD.w] at this; omega
   have r2 : ¬ s'.l2.rest < 0 := by have := hI.k2.1; simp only [zD.w] at this; omega
   have x0 : ¬ max c.mc c.mt < s'.l0.rest := by have := hI.k0.2.1; simp only [zD.w] at this; omega
   have x1 : ¬ max c.mc c.mt < s'.l1.rest := by have := hI.k1.2.1; simp only [zD.w] at this; omega
   have x2 : ¬ max c.mc c.mt < s'.l2.rest := by have := hI.k2.2.1; simp only [zD.w] at this; omega
   have n0 : ¬ s'.l0.zT < 0 := by have := hI.k0.2.2.1; simp only [zD.w] at this; omega
   have n1 : ¬ s'.l1.zT < 0 := by have := hI.k1.2.2.1; simp only [zD.w] at this; omega
   have n2 : ¬ s'.l2.zT < 0 := by have := hI.k2.2.2.1; simp only [zD.w] at this; omega
   have m0 : ¬ c.mf < s'.l0.zT := by have := hI.k0.2.2.2; simp only [zD.w] at this; omega
   have m1 : ¬ c.mf < s'.l1.zT := by have := hI.k1.2.2.2; simp only [zD.w] at this; omega
   have m2 : ¬ c.mf < s'.l2.zT := by have := hI.k2.2.2.2; simp only [zD.w] at this; omega
   have mm : max c.mc c.mt = if c.mc < c.mt then c.mt else c.mc := by split <;> omega
   rw [mm] at x0 x1 x2
   generalize hif : (if c.mc < c.mt then c.mt else c.mc) = mx at x0 x1 x2
   have A : ¬ s'.l0.rest < 0 ∧ ¬ s'.l1.rest < 0 ∧ ¬ s'.l2.rest < 0 ∧ ¬ mx < s'.l0.rest ∧ ¬ mx < s'.l1.rest ∧ ¬ mx < s'.l2.rest ∧ ¬ s'.l0.zT < 0 ∧ ¬ s'.l1.zT < 0 ∧ ¬ s'.l2.zT < 0 ∧ ¬ c.mf < s'.l0.zT ∧ ¬ c.mf < s'.l1.zT ∧ ¬ c.mf < s'.l2.zT := ⟨r0, r1, r2, x0, x1, x2, n0, n1, n2, m0, m1, m2⟩
   have u1 : 2 ≤ s'.l1.st ↔ s'.net = true := hI.u1
   have u2 : 2 ≤ s'.l2.st ↔ s'.net = true := hI.u2
   have h9 : s'.net = true → (s'.l0.st != 9) = false := fun h => by
    unfold zD.net at h
    simp only [Bool.and_eq_true, beq_iff_eq] at h
    rw [h.1]; rfl
   clear go hI hC' hq hC
   cases hn : s'.net with
   | true =>
    rw [hn] at k16 u1 u2
    have u1' : 2 ≤ s'.l1.st := u1.2 rfl
    have u2' : 2 ≤ s'.l2.st := u2.2 rfl
    have h9' := h9 hn
    clear u1 u2 h9
    unfold zg.cells zD.cells zA.cells zl.cells yp.cells at *
    simp only [List.cons_append, List.nil_append, ho, ho'] at *
    have F := an O (an e4 (an g1 (an g0 (an e3 (an e5 (an e5' (an e8 (an ew (an ew2 (an er (an er' (an h1 (an k14 (an k16 (an w (an mb' (an A (an hif (an u1' (an u2' h9'))))))))))))))))))))
    exact Wp.to js (za.n hgo)
   | false =>
    rw [hn] at k16 u1 u2
    have u1' : ¬ 2 ≤ s'.l1.st := fun h => by have := u1.1 h; cases this
    have u2' : ¬ 2 ≤ s'.l2.st := fun h => by have := u2.1 h; cases this
    clear u1 u2 h9
    unfold zg.cells zD.cells zA.cells zl.cells yp.cells at *
    simp only [List.cons_append, List.nil_append, ho, ho'] at *
    have F := an O (an e4 (an g1 (an g0 (an e3 (an e5 (an e5' (an e8 (an ew (an ew2 (an er (an er' (an h1 (an k14 (an k16 (an w (an mb' (an A (an hif (an u1' u2')))))))))))))))))))
    exact Wp.to js (za.n hgo)
set_option maxHeartbeats 80000000 in
theorem ny (c : zg) (b : Bool) (m : Nat) (cs : List yp) (hw : Wl b m cs) (hl : cs.length ≤ 9223372036854775807) (hcs : ∀ x ∈ cs, Wb x.item.nil x.item.m x.item.data) : zq D.W 5 [.agg c.cells, .vs b .sh m (wS cs)] [] = some (.bool true, none) := by
 have ka : zq D.W 7 [] [] = some (.bool true, none) := toW (xJ.2 ⟨400, jl⟩)
 obtain ⟨q, kf, hf⟩ := jC c b m cs hw hl
 have ks := start_eq c
 have ep := qz cs
 have e4 := uT cs
 have ew := ua
 have hm : cs ≠ [] → m = 6 := fun hne => by rcases hw with ⟨_, h⟩ | ⟨_, h⟩; exact h; exact absurd h hne
 have ec : c.cells = [.int .i64 c.mc, .int .i64 c.mt, .int .i64 c.mf, .int .i64 c.mru, .str c.s1, .str c.s2, .int .i64 c.n, .int .u32 c.m, .bool c.b] := rfl
 cases q with
 | false =>
  refine Ret.eq ?_
  rw [ec] at kf ⊢
  have F := an ka (an kf ep)
  exact Ret.of wk ⟨rfl, rfl⟩
 | true =>
  obtain ⟨hg, h1, h2, h80, _⟩ := hf rfl
  have hC := jn hg h1 h2
  have hL := loop5 c b m cs hm h80 hcs
  refine Ret.eq ?_
  have es : (lB c).cells = [.int .i64 0, .int .i64 0, .int .i64 c.mf, .bool false, .bool false, .int .i64 0, .str [], .int .i64 0, .int .i64 0, .int .i64 c.mf, .bool false, .bool false, .int .i64 0, .str [], .int .i64 0, .int .i64 0, .int .i64 c.mf, .bool false, .bool false, .int .i64 0, .str [], .int .i64 0, .int .i64 0, .bool false, .bool false, .bool false, .int .i64 0, .str [], .bool false, .int .i64 0, .vs true .sh 0 []] := rfl
  have hL2 := fun Q hE => hL Q hE cs.length 0 (lB c) (.agg c.cells) (.bool false) .undef .undef .undef .undef .undef (.bool false) .undef .undef .undef .undef .undef (by omega) (by simpa using hC) rfl rfl rfl rfl rfl rfl rfl rfl rfl rfl rfl rfl rfl
  rw [es] at ks hL2
  rw [ec] at kf ks hL2 ⊢
  have F := an ka (an kf (an ks (an ep (an e4 ew))))
  refine wk2 ?_
  refine hL2 _ ?_
  intro v0 v3 v6 v7 v8 v9 v10 v11 v12 v13 v14 v15 v16 s O
  have hsw : ∀ n, LVal.zb n s.cells = true := fun n => by simp [zD.cells, zA.cells, zl.cells, LVal.zb, LVal.within]
  have F := an O (an ep (an e4 (an ew hsw)))
  exact wz
end Go.Proofs.YtpfnlpakcldobaaGreat
set_option maxRecDepth 100000
namespace Go.Proofs.YtpfnlpakcldobaaGreat
open Go Go.L Go.ChangeShapes Go.WideShapes Go.ChangeAt Go.RowKit
theorem qB (os : Os) (started : os.Started) (H : Type) (enc : TypeId × Value → H) :
 ReturnsInHanded {} Tryz.checked os 5 .any (Rows.specNetworkSpec.pre6 enc Tryz.prog Tryz.f5 Rows.specNetworkRow.domain false) (Rows.specNetworkSpec.post enc Tryz.prog Tryz.f5 false true false false) := by
 refine returnsInHanded_of_change (C := Tryz.checked) Tryz.own started (by kernel_rfl) Tryz.func5
  (ChangeSpec.witness6 (enc := enc) (C := Tryz.checked) false ⟨#[], #[z24, .slice none 0 0], []⟩ 8 (by kernel_rfl) (by kernel_rfl) (by kernel_rfl) (by kernel_rfl)) ?_
 intro W base args ds gs before hval hW _ _
 have hval' : ∀ (j : Nat) t v, Tryz.f5.params[j]? = some t → args[j]? = some v → Value.okWide Tryz.prog W .any base t v := hval
 have hW' : DataW.Whole enc Tryz.prog Tryz.f5.params.toList Rows.specNetworkSpec.vars false W args.toList ds gs before := hW
 have hp : Tryz.f5.params.toList = [24, 39] := by rw [Tryz.params5]
 refine lQ oW (fn := Tryz.f5) (s := Rows.specNetworkSpec) (d := 8) (tb := 4) Tryz.laidOut (by kernel_rfl) u4 ?_ ?_ rfl ?_ hval' hW' ?_
 ·rw [hp]; intro t ht; simp at ht; rcases ht with rfl | rfl
  ·exact rr24
  ·exact rr39
 ·rw [hp]; intro t ht; simp at ht; rcases ht with rfl | rfl
  ·exact rd24
  ·exact rd39
 ·rw [hp]
  intro largs h
  obtain ⟨u, v, rfl, h1, h2⟩ := args_two h
  obtain ⟨c, rfl, _⟩ := jb h1
  obtain ⟨b, l, rfl, k1, k2, k3⟩ := je h2
  exact ny c b 6 l k1 k2 k3
 ·obtain ⟨p, q, hA, hV, _, _, _⟩ := hW'
  rw [hp] at hA
  have hl := pX hA
  obtain ⟨rfl, _⟩ := trodVars_none hV
  match ds, hl with
  | [d1, d2], _ => exact ⟨rfl, rfl, rfl⟩
theorem specNetwork_holds : Rows.SpecNetworkSaid :=
 OpenClaim.holds_of_wide 5 Tryz.f5 rfl rfl rfl rfl rfl rfl rfl ⟨rfl, rfl, rfl, rfl, rfl⟩ rfl rfl rfl rfl rfl (by kernel_rfl) Tryz.func5 (by kernel_rfl)
  (of_decide_eq_true (by kernel_rfl)) (by unfold Func.isWrapper; first | (rw [if_pos (by decide +kernel)]; kernel_rfl) | (rw [if_neg (by decide +kernel)]; exact ⟨rfl, rfl⟩))
  (fun os started H enc _ => qB os started H enc)
#print axioms specNetwork_holds
end Go.Proofs.YtpfnlpakcldobaaGreat
