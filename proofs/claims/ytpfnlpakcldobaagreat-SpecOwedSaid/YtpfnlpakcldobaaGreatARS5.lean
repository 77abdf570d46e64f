/- Texts of the proof: RS3 RS4 RS5. -/
import Derived.Test.YtpfnlpakcldobaaGreatARS2
import Derived.Test.YtpfnlpakcldobaaGreatAH1
set_option linter.unusedVariables false
set_option linter.unusedSimpArgs false
set_option linter.unusedSectionVars false
namespace Go.Proofs.YtpfnlpakcldobaaGreat
open Go Go.L
def words4 : Option (LVal × Option (List zt)) → Bool
 | some (.agg [.int .u32 _, .int .u32 _, .int .u32 _, .int .u32 _], none) => true
 | _ => false
theorem kI (a b c d : Int) (x : Nat → Int) : words4 (yG D.M 100 97 [.agg [.int .u32 a, .int .u32 b, .int .u32 c, .int .u32 d], .vs false .sh 1 ((List.range 64).map fun i => .int .u8 (x i))] []) = true := by kernel_rfl
theorem words4_ex {r : Option (LVal × Option (List zt))} (h : words4 r = true) : ∃ a b c d, r = some (.agg [.int .u32 a, .int .u32 b, .int .u32 c, .int .u32 d], none) := by
 unfold words4 at h
 split at h
 ·exact ⟨_, _, _, _, rfl⟩
 ·cases h
def U8s (xs : List LVal) : Prop := ∀ x ∈ xs, ∃ z, x = .int .u8 z
def zOf : LVal → Int
 | .int _ z => z
 | _ => 0
theorem U8s.range {l : List LVal} (hu : U8s l) {n : Nat} (h : l.length = n) : l = (List.range n).map fun i => LVal.int .u8 (zOf (l.getD i .undef)) := by
 apply List.ext_getElem
 ·simp [h]
 ·intro i h1 h2
  obtain ⟨z, hz⟩ := hu _ (List.getElem_mem h1)
  simp [List.getD, h1, hz, zOf]
theorem through_ex (a b c d : Int) (l : List LVal) (hu : U8s l) (h : l.length = 64) : ∃ a' b' c' d', zq D.M 97 [.agg [.int .u32 a, .int .u32 b, .int .u32 c, .int .u32 d], .vs false .sh 1 l] [] = some (.agg [.int .u32 a', .int .u32 b', .int .u32 c', .int .u32 d'], none) := by
 rw [hu.range h]
 obtain ⟨a', b', c', d', hr⟩ := words4_ex (kI a b c d fun i => zOf (l.getD i .undef))
 exact ⟨a', b', c', d', xJ.2 ⟨_, hr⟩⟩
end Go.Proofs.YtpfnlpakcldobaaGreat
namespace Go.Proofs.YtpfnlpakcldobaaGreat
open Go Go.L
theorem nW (l r : List UInt8) : zy (l ++ r) = zy l ++ zy r := by simp [zy]
set_option maxHeartbeats 8000000 in
theorem pad0 (n : Int) (Q : yS → RS → Prop) : ∀ (j : Nat) (l : List UInt8) (v1 v3 v4 v5 v6 : LVal), v1.zr = false → v3.zr = false → v4.zr = false → v5.zr = false → v6.zr = false → (l.length + j) % 64 = 56 → l.length + j ≤ 1000000 → j < 64 →
 (∀ (l' : List UInt8) (v1 v3 v4 v5 v6 : LVal), v1.zr = false → v3.zr = false → v4.zr = false → v5.zr = false → v6.zr = false → l'.length = l.length + j → Q (.exit 0) ⟨[.vs false (.own 5 true) 1 (zy l'), v1, .int .u64 n, v3, v4, v5, v6], [], []⟩) →
 Wp D.M (.loop D.b95_0) ⟨[.vs false (.own 5 true) 1 (zy l), v1, .int .u64 n, v3, v4, v5, v6], [], []⟩ Q
 | 0, l, v1, v3, v4, v5, v6, o1, o3, o4, o5, o6, hl, hm, hj, hQ => by
  have e1 := ze l
  have e2 : (l.length : Int).tmod 64 = 56 := by rw [Int.tmod_eq_emod_of_nonneg (by omega)]; omega
  apply xi
  have F := an e1 (an e2 (an o1 (an o3 (an o4 (an o5 o6)))))
  refine Wp.to wp1 (za.e ?_)
  exact hQ l v1 v3 _ v5 v6 o1 o3 rfl o5 o6 rfl
 | j + 1, l, v1, v3, v4, v5, v6, o1, o3, o4, o5, o6, hl, hm, hj, hQ => by
  have e1 := ze l
  have e2 : ¬ (l.length : Int).tmod 64 = 56 := by rw [Int.tmod_eq_emod_of_nonneg (by omega)]; omega
  have e3 : l.length + 1 ≤ 140737488355328 := by omega
  have e4 : zy l ++ [LVal.int .u8 0] = zy (l ++ [0]) := by rw [nW]; rfl
  have ih := pad0 n Q j (l ++ [0]) .undef .undef .undef .undef .undef rfl rfl rfl rfl rfl (by simp; omega) (by simp; omega) (by omega) (fun l' v1 v3 v4 v5 v6 o1 o3 o4 o5 o6 hl' => hQ l' v1 v3 v4 v5 v6 o1 o3 o4 o5 o6 (by rw [hl']; simp; omega))
  rw [← e4] at ih
  apply xi
  have F := an e1 (an e2 (an e3 (an o1 (an o3 (an o4 (an o5 (an o6 mb')))))))
  refine Wp.to wp1 (za.n ?_)
  exact ih
theorem U8s.bytes (l : List UInt8) : U8s (zy l) := fun x hx => by
 obtain ⟨b, _, rfl⟩ := List.mem_map.1 hx
 exact ⟨_, rfl⟩
theorem U8s.app {xs ys : List LVal} (h : U8s xs) (h' : U8s ys) : U8s (xs ++ ys) := fun x hx => by
 rcases List.mem_append.1 hx with hx | hx
 ·exact h x hx
 ·exact h' x hx
theorem U8s.one (z : Int) : U8s [.int .u8 z] := fun x hx => by
 simp at hx; exact ⟨z, hx⟩
set_option maxHeartbeats 8000000 in
theorem padded_ex (l : List UInt8) (hl : l.length ≤ 400000) : ∃ σ1 σ2 xs m, xE D.M D.l95.code ⟨.vs false (.own 5 true) 1 (zy l) :: List.replicate 6 .undef, [], []⟩ = some (.ret, σ1) ∧ vP σ1 D.l95.results = some (.vs false .sh 1 xs, σ2) ∧ U8s xs ∧ xs.length = 64 * m ∧ 0 < m := by
 have W : Wp D.M D.c95 ⟨.vs false (.own 5 true) 1 (zy l) :: List.replicate 6 .undef, [], []⟩ (fun ex s => ex = .ret ∧ ∃ σ2 xs m, vP s [.var 1] = some (.vs false .sh 1 xs, σ2) ∧ U8s xs ∧ xs.length = 64 * m ∧ 0 < m) := by
  have e1 := ze l
  have e3 : l.length + 1 ≤ 140737488355328 := by omega
  simp only [List.replicate_succ, List.replicate_zero]
  have F := an e1 (an e3 mb')
  refine wG (Wp.to wp1 (za.n ?_))
  refine wG (Wp.to wp1 (za.n ?_))
  refine wG (Wp.to wp1 (za.n ?_))
  refine wG (xG (xH ?_))
  have e4 : zy l ++ [LVal.int .u8 128] = zy (l ++ [128]) := by rw [nW]; rfl
  rw [e4]
  refine pad0 _ _ ((119 - l.length % 64) % 64) (l ++ [128]) _ _ _ _ _ rfl rfl rfl rfl rfl (by simp; omega) (by simp; omega) (by omega) ?_
  intro l' v1 v3 v4 v5 v6 o1 o3 o4 o5 o6 hl'
  have hlen : l'.length = l.length + 1 + (119 - l.length % 64) % 64 := by rw [hl']; simp
  refine Blk.e (um rfl (za.n ?_))
  clear F
  have e1 := ze l'
  have e2 : l'.length ≤ 140737488355327 ∧ l'.length ≤ 140737488355326 ∧ l'.length ≤ 140737488355325 ∧ l'.length ≤ 140737488355324 ∧ l'.length ≤ 140737488355323 ∧ l'.length ≤ 140737488355322 ∧ l'.length ≤ 140737488355321 ∧ l'.length ≤ 140737488355320 := by omega
  have w : IntKind.i64.wrap 0 = 0 ∧ IntKind.i64.wrap 1 = 1 ∧ IntKind.i64.wrap 2 = 2 ∧ IntKind.i64.wrap 3 = 3 ∧ IntKind.i64.wrap 4 = 4 ∧ IntKind.i64.wrap 5 = 5 ∧ IntKind.i64.wrap 6 = 6 ∧ IntKind.i64.wrap 7 = 7 ∧ IntKind.i64.wrap 8 = 8 ∧ IntKind.i64.wrap 16 = 16 ∧ IntKind.i64.wrap 24 = 24 ∧ IntKind.i64.wrap 32 = 32 ∧ IntKind.i64.wrap 40 = 40 ∧ IntKind.i64.wrap 48 = 48 ∧ IntKind.i64.wrap 56 = 56 := ⟨rfl, rfl, rfl, rfl, rfl, rfl, rfl, rfl, rfl, rfl, rfl, rfl, rfl, rfl, rfl⟩
  have F := an e1 (an e2 (an w (an o1 (an o3 (an o4 (an o5 (an o6 mb')))))))
  refine Wp.to js ⟨rfl, _, _, ((119 - l.length % 64) % 64 + l.length + 9) / 64, rfl, ?_, ?_, ?_⟩
  ·exact (U8s.bytes _).app fun x hx => by
    simp at hx
    rcases hx with h | h | h | h | h | h | h | h <;> exact ⟨_, h⟩
  ·simp only [List.length_append, e1, List.length_cons, List.length_nil]
   omega
  ·omega
 obtain ⟨ex, σ1, h1, rfl, σ2, xs, m, h2, h3, h4, h5⟩ := W
 exact ⟨σ1, σ2, xs, m, h1, h2, h3, h4, h5⟩
end Go.Proofs.YtpfnlpakcldobaaGreat
namespace Go.Proofs.YtpfnlpakcldobaaGreat
open Go Go.L Go.RowKit
noncomputable def thr (t : Nat → Int) (ys : List LVal) : Nat → Int := match zq D.M 97 [.agg [.int .u32 (t 0), .int .u32 (t 1), .int .u32 (t 2), .int .u32 (t 3)], .vs false .sh 1 ys] [] with
 | some (.agg [.int _ a, .int _ b, .int _ c, .int _ d], _) => fun i => if i = 0 then a else if i = 1 then b else if i = 2 then c else d
 | _ => fun _ => 0
theorem thr_eq (t : Nat → Int) (ys : List LVal) (hu : U8s ys) (h : ys.length = 64) : zq D.M 97 [.agg [.int .u32 (t 0), .int .u32 (t 1), .int .u32 (t 2), .int .u32 (t 3)], .vs false .sh 1 ys] [] =
 some (.agg [.int .u32 (thr t ys 0), .int .u32 (thr t ys 1), .int .u32 (thr t ys 2), .int .u32 (thr t ys 3)], none) := by
 obtain ⟨a, b, c, d, hr⟩ := through_ex (t 0) (t 1) (t 2) (t 3) ys hu h
 unfold thr
 rw [hr]
 rfl
theorem U8s.cells : ∀ {xs : List LVal}, U8s xs → xs.flatMap LVal.cells = xs
 | [], _ => rfl
 | x :: r, hu => by
  obtain ⟨z, rfl⟩ := hu x (List.mem_cons_self ..)
  have ih := U8s.cells (xs := r) fun y hy => hu y (List.mem_cons_of_mem _ hy)
  simp only [List.flatMap_cons, LVal.cells, List.singleton_append]
  rw [ih]
def blk (xs : List LVal) (k : Nat) : List LVal := (xs.drop (64 * k)).take 64
noncomputable def words (xs : List LVal) (pre : List Nat) : Nat → Int := pre.foldl (fun t k => thr t (blk xs k)) (fun i => if i = 0 then 1732584193 else if i = 1 then 4023233417 else if i = 2 then 2562383102 else 271733878)
theorem words_snoc (xs : List LVal) (pre : List Nat) (k : Nat) : words xs (pre ++ [k]) = thr (words xs pre) (blk xs k) := by simp [words, List.foldl_append]
theorem chunk_ok {xs : List LVal} {m : Nat} (hu : U8s xs) (hm : xs.length = 64 * m) {w2 : World} {S2 : Nat → Nat → Prop} {g o : Nat} (hrow : Row w2 S2 g o (xs.flatMap LVal.cells)) (hg : g < w2.heap.size) (pre : List Nat) (k : Nat) (hk : k < m) (W' : World)
 (hc : ∀ j, W'.cell? ⟨g, j, none⟩ = w2.cell? ⟨g, j, none⟩) (hsz : w2.heap.size ≤ W'.heap.size) :
 Calls Tryz.prog 97 #[.agg #[.int .u32 (words xs pre 0), .int .u32 (words xs pre 1), .int .u32 (words xs pre 2), .int .u32 (words xs pre 3)], .slice (some ⟨g, o + 64 * k, none⟩) 64 64] W' fun e w3 =>
  e = .returned (.agg #[.int .u32 (words xs (pre ++ [k]) 0), .int .u32 (words xs (pre ++ [k]) 1), .int .u32 (words xs (pre ++ [k]) 2), .int .u32 (words xs (pre ++ [k]) 3)]) ∧ Below W'.heap.size W' w3 := by
 have hcells := hu.cells
 rw [hcells] at hrow
 have hlen : (blk xs k).length = 64 := by simp [blk, hm]; omega
 have hub : U8s (blk xs k) := fun x hx => hu x (List.mem_of_mem_drop (List.mem_of_mem_take hx))
 have hs := soundM (thr_eq (words xs pre) (blk xs k) hub hlen)
 have hbc := hub.cells
 have hrow' : Row W' (fun b _ => b = g) g (o + 64 * k) (blk xs k) := by
  refine Cells.row fun j v hj => ⟨rfl, ?_⟩
  have hj' : xs[64 * k + j]? = some v := by
   unfold blk at hj
   rw [List.getElem?_take] at hj
   split at hj
   ·simpa using hj
   ·cases hj
  obtain ⟨_, c, h1, h2, h3⟩ := hrow.cells _ _ hj'
  obtain ⟨z, rfl⟩ := hu v (List.mem_of_getElem? hj')
  rw [show o + (64 * k + j) = o + 64 * k + j by omega] at h1
  exact ⟨c, (hc _).trans h1, by rw [h2.xP]; exact .int _ _, rfl⟩
 have hC : vJ Tryz.prog W' (fun b _ => b = g) (fun _ => .ro) [] [] := {
  swf := { lt := fun b o hb => by subst hb; omega, fresh := fun _ _ => rfl, box := fun b o i _ h => (by cases h), arr := fun b o l e x _ h => (by cases h) }
  len := rfl
  rho := fun id b h => by simp at h
  st := fun id o h => by simp at h }
 have hV : VL W' (fun b _ => b = g) [] [.agg [.int .u32 (words xs pre 0), .int .u32 (words xs pre 1), .int .u32 (words xs pre 2), .int .u32 (words xs pre 3)], .vs false .sh 1 (blk xs k)]
  [.agg #[.int .u32 (words xs pre 0), .int .u32 (words xs pre 1), .int .u32 (words xs pre 2), .int .u32 (words xs pre 3)], .slice (some ⟨g, o + 64 * k, none⟩) 64 64] := by
  refine .cons (.agg (.cons (.int _ _) (.cons (.int _ _) (.cons (.int _ _) (.cons (.int _ _) .nil)))) rfl) (.cons ?_ .nil)
  have := V.vs (w := W') (S := fun b _ => b = g) (ρ := []) (o := .sh) (n := 1) (xs := blk xs k) (b := g) (off := o + 64 * k) (cap := 64) (by omega) (by unfold maxLen; decide) (fun e => by cases e)
   (fun x hx => by obtain ⟨z, rfl⟩ := hub x hx; rfl) (by rw [hbc]; exact hrow')
  rw [hlen] at this
  exact this
 refine (hs.2 _ W' _ _ _ hC (fun b l e x h => by cases h) hV (by intro u hu; simp at hu; rcases hu with rfl | rfl <;> rfl)).mono ?_
 rintro e w3 ⟨cv, rfl, ρ3, S3, G3, h1, h2, h3, h4, _⟩
 have hv : V w3 S3 ρ3 (.agg [.int .u32 (thr (words xs pre) (blk xs k) 0), .int .u32 (thr (words xs pre) (blk xs k) 1), .int .u32 (thr (words xs pre) (blk xs k) 2), .int .u32 (thr (words xs pre) (blk xs k) 3)]) cv := (At.simple rfl).1 h2
 rw [words_snoc]
 refine ⟨?_, ⟨h3.os, h3.tape, h3.output, h3.size, fun b hb => (h4 rfl b hb).1⟩⟩
 cases hv with
 | agg hl _ =>
  cases hl with | cons v1 r => cases r with | cons v2 r => cases r with | cons v3 r => cases r with | cons v4 r =>
   cases r; cases v1; cases v2; cases v3; cases v4
   rfl
set_option maxHeartbeats 1000000 in
theorem sum_sound (l1 l2 : List UInt8) (b : Bool) (m : Nat) (l3 : List UInt8) (h0 : 1 ≤ l1.length) (h1 : l1.length ≤ 70000) (h2 : l2.length ≤ 70000) (hw : Wb b m l3) (h3 : l3.length ≤ 70000) :
 ∃ v, D.Sh90 v ∧ uW Tryz.prog 90 [.vs false .sh 1 [.vs false .sh 1 (zy l1), .vs false .sh 1 (zy l2), .vs b .sh m (zy l3)]] [] v none := by
 obtain ⟨σ1, σ2, xs, q, hc1, hc2, hu, hq, hq0⟩ := padded_ex (l1 ++ l2 ++ l3) (by simp; omega)
 have k96 := soundM (concat_eq l1 l2 b m l3 h0 h1 h2 hw h3)
 refine ⟨.agg ((List.range 16).map fun j => .int .u8 (sv (words xs (List.range q)) j)), ⟨_, rfl, by simp, fun x hx => ?_⟩, by kernel_rfl, fun cargs w S G ρ hrel hcell hV hs => ?_⟩
 ·obtain ⟨j, _, rfl⟩ := List.mem_map.1 hx
  exact ⟨_, rfl⟩
 have hpf : LVal.pfs [.vs false .sh 1 [.vs false .sh 1 (zy l1), .vs false .sh 1 (zy l2), .vs b .sh m (zy l3)]] = true := rfl
 have hVn := hV.lL hpf
 obtain ⟨pv, rfl, hpv⟩ : ∃ c, cargs = [c] ∧ V w S [] (.vs false .sh 1 [.vs false .sh 1 (zy l1), .vs false .sh 1 (zy l2), .vs b .sh m (zy l3)]) c := by
  cases hVn with | cons h1 h2 => cases h2; exact ⟨_, rfl, h1⟩
 have hS : SumOk pv w q (words xs) := by
  intro W hBW
  have he : Ext S w S W := fun b o hs => ⟨hs, by
   have hlt := hrel.swf.lt b o hs
   unfold World.cell?
   rw [hBW.block b hlt]⟩
  have hC : vJ Tryz.prog W S (fun _ => .ro) [] [] := {
   swf := { lt := fun b o hb => Nat.lt_of_lt_of_le (hrel.swf.lt b o hb) hBW.size, fresh := fun _ _ => rfl, box := fun b o i _ h => (by cases h), arr := fun b o l e x _ h => (by cases h) }
   len := rfl
   rho := fun id b h => by simp at h
   st := fun id o h => by simp at h }
  refine (k96.2 [pv] W S _ _ hC (fun b l e x h => by cases h) (.cons (hpv.mono he (zB.refl _)) .nil) hs).mono ?_
  rintro e w1 ⟨c1, rfl, ρ1, S1, G1, g1, hat, g3, g4, g5⟩
  refine ⟨c1, rfl, ⟨g3.os, g3.tape, g3.output, g3.size, fun b hb => (g4 rfl b hb).1⟩, ?_⟩
  refine (own_call tblOkM D.k95 (k := 6) rfl rfl hc1 (fun id h => by cases h) hc2 g1.swf hat.2).mono ?_
  rintro e w2 ⟨c2, rfl, S2, G2, ρ2, f1, f2, f3⟩
  have hv : V w2 S2 ρ2 (.vs false .sh 1 xs) c2 := (At.simple rfl).1 f2
  have hxl : 0 < xs.length := by omega
  have hG : ∀ b, gone G1 b ≠ .ro → W.heap.size ≤ b := fun b hb => by
   by_cases hlt : b < W.heap.size
   ·exfalso; apply hb; unfold gone; rw [(g4 rfl b hlt).2]
   ·omega
  have hB : Below W.heap.size w1 w2 := ⟨f3.os, f3.tape, f3.output, f3.size, fun b hb => (f3.frame b (Nat.lt_of_lt_of_le hb g3.size) (by unfold gone; rw [(g4 rfl b hb).2])).1⟩
  cases hv with
  | vz => simp at hxl
  | vs v1 v2 v3 v4 v5 =>
   rename_i g o cap
   have hloc : S2 g o := by
    cases xs with
    | nil => simp at hxl
    | cons x r =>
     obtain ⟨z, rfl⟩ := hu x (List.mem_cons_self ..)
     exact (v5.cells 0 _ rfl).1
   refine ⟨g, o, cap, by rw [hq], by omega, v2, hB, ?_, f1.lt _ _ hloc, ?_⟩
   ·rcases f3.tC _ _ hloc with h | h | h
    ·rcases g3.tC _ _ h with h | h | h
     ·exact .inl (hrel.swf.lt _ _ h)
     ·exact .inr h
     ·exact absurd rfl h
    ·exact .inr (Nat.le_trans g3.size h)
    ·exact .inr (hG _ h)
   ·exact fun pre k hk W' hc hsz => chunk_ok hu hq v5 (f1.lt _ _ hloc) pre k hk W' hc hsz
 have hsl : ∃ a pm pc, pv = .slice a pm pc := by
  cases hpv with
  | vs => exact ⟨_, _, _, rfl⟩
 obtain ⟨a, pm, pc, rfl⟩ := hsl
 refine (callsIn_wide.1 (sum_in a pm pc w q (words xs) hq0 ⟨rfl, rfl, rfl, rfl⟩ hS)).mono ?_
 rintro e w' ⟨hB, rfl⟩
 refine ⟨_, rfl, vZ.grown hrel hcell hB rfl ?_⟩
 refine V.agg (xs := (tW (words xs (List.range q))).toList) ?_ (by rw [List.all_eq_true]; intro x hx; obtain ⟨j, _, rfl⟩ := List.mem_map.1 hx; rfl)
 refine VL.of rfl fun i v hv => ?_
 rw [List.getElem?_map, Option.map_eq_some_iff] at hv
 obtain ⟨j, hj, rfl⟩ := hv
 have hi : i < 16 := by have := (List.getElem?_eq_some_iff.1 hj).1; simpa using this
 have hji : j = i := by rw [List.getElem?_range hi] at hj; exact (Option.some.inj hj).symm
 subst hji
 refine ⟨_, ?_, .int _ _⟩
 have : j = 0 ∨ j = 1 ∨ j = 2 ∨ j = 3 ∨ j = 4 ∨ j = 5 ∨ j = 6 ∨ j = 7 ∨ j = 8 ∨ j = 9 ∨ j = 10 ∨ j = 11 ∨ j = 12 ∨ j = 13 ∨ j = 14 ∨ j = 15 := by omega
 rcases this with rfl | rfl | rfl | rfl | rfl | rfl | rfl | rfl | rfl | rfl | rfl | rfl | rfl | rfl | rfl | rfl <;> rfl
end Go.Proofs.YtpfnlpakcldobaaGreat
