/- Texts of the proof: H0 H1. -/
import Derived.Test.YtpfnlpakcldobaaGreatProg
import Derived.RangeFuncFrom
import Derived.RangeFuncCalls
import Derived.RangeFuncLeaves
import Derived.WalkKit
import Derived.OwnWalkIn
import Derived.TacticsInMore
import Derived.RegionIn
import Derived.LoopNIn
import Derived.LoopIn
import Derived.Shelf.RegionOpen
import Derived.Shelf.AbstractIn
import Derived.KernelRfl
import Derived.Test.YtpfnlpakcldobaaGreatALF
set_option linter.unusedVariables false
set_option linter.unusedSimpArgs false
set_option linter.unusedSectionVars false
namespace Go.Proofs.YtpfnlpakcldobaaGreat
open Go.RowKit Go.Shelf
def KpC (bp bn : Nat) (A B : World) : Prop := B.cell? ⟨bp, 0, none⟩ = A.cell? ⟨bp, 0, none⟩ ∧ B.cell? ⟨bn, 0, none⟩ = A.cell? ⟨bn, 0, none⟩
def cl (m k : Nat) : Nat := if k < m then k else 0
def msC (m : Nat) (v : Value) : Nat := match v with
 | .int _ z => (64 * (m : Int) - z).toNat
 | _ => 0
set_option maxRecDepth 100000 in
set_option maxHeartbeats 2000000 in
theorem chunk_stops (n m bp bn g o cap : Nat) (w : World) (hn : 1 ≤ n) (hbp : w.cell? ⟨bp, 0, none⟩ = some (.slice (some ⟨g, o, none⟩) (64 * m) cap)) (hbn : w.cell? ⟨bn, 0, none⟩ = some (.int .i64 64)) (hc : 64 * m ≤ cap) (hm : cap ≤ maxLen) :
 SeqStopsK Fence.wide n Tryz.prog 105 #[.pointer (some ⟨bp, 0, none⟩), .pointer (some ⟨bn, 0, none⟩)] (fun k : Nat => #[.slice (some ⟨g, o + 64 * cl m k, none⟩) 64 64]) (KpC bp bn) (fun xs => xs = List.range m) (fun _ => True) m w := by
 intro l J Jx W hB hJ hJx hY h0
 have hmx : Tryz.prog.follows .mixedOrders = true := by kernel_rfl
 have hmax : maxLen = 9223372036854775807 := rfl
 have hp0 : W.cell? ⟨bp, 0, none⟩ = some (.slice (some ⟨g, o, none⟩) (64 * m) cap) := by
  obtain ⟨ob, ho, _⟩ := cells_of_cell hbp
  exact (World.cell?_of_block (hB.block bp (Array.getElem?_eq_some_iff.1 ho).1)).trans hbp
 have hn0 : W.cell? ⟨bn, 0, none⟩ = some (.int .i64 64) := by
  obtain ⟨ob, ho, _⟩ := cells_of_cell hbn
  exact (World.cell?_of_block (hB.block bn (Array.getElem?_eq_some_iff.1 ho).1)).trans hbn
 refine callsIn_of_wp Tryz.func105 rfl trivial ?_ rfl
 simp only [Tryz.ntmps105, List.size_toArray, List.length_cons, List.length_nil, Nat.reduceAdd, Nat.reduceSub, Array.replicate_succ, Array.replicate_zero, List.push_toArray, List.append_toArray, List.nil_append, List.cons_append]
 gi_wp2
 gi_loopw [4] (fun v4 wr => ∃ k : Nat, v4 = .int .i64 ((64 * k : Nat) : Int) ∧ k ≤ m ∧ J (List.range k) wr ∧ wr.cell? ⟨bp, 0, none⟩ = some (.slice (some ⟨g, o, none⟩) (64 * m) cap) ∧ wr.cell? ⟨bn, 0, none⟩ = some (.int .i64 64))
  (fun v4 _ => msC m v4)
 case atStart => exact ⟨0, rfl, Nat.zero_le _, h0, hp0, hn0⟩
 case round =>
  obtain ⟨k, rfl, hk, hJk, hp, hq⟩ := hrel
  by_cases hlt : k < m
  ·gi_wp2
   gi_region
   have hJd : J (List.range k) wr.drew := hJ _ _ _ none hJk ⟨rfl, rfl, rfl, Nat.le_refl _, fun _ _ _ => rfl⟩ (fun r e => by cases e)
   have hck : cl m k = k := if_pos hlt
   obtain ⟨f1, t1, a1, b1, hy1, hR1⟩ := hY (List.range k) k wr.drew hJd (by simpa using hlt)
   rw [hck] at hy1
   have hpd : wr.drew.cell? ⟨bp, 0, none⟩ = some (.slice (some ⟨g, o, none⟩) (64 * m) cap) := hp
   have hqd : wr.drew.cell? ⟨bn, 0, none⟩ = some (.int .i64 64) := hq
   all_goals gi_wp2
   all_goals
    refine hR1.mono ?_
    rintro e W' (⟨rfl, hJ1, hK1, hK2⟩ | ⟨rfl, hx1⟩)
    ·have hp1 : W'.cell? ⟨bp, 0, none⟩ = some (.slice (some ⟨g, o, none⟩) (64 * m) cap) := hK1.trans hpd
     have hq1 : W'.cell? ⟨bn, 0, none⟩ = some (.int .i64 64) := hK2.trans hqd
     gi_wp2
     go_roundw
     case measure => simp only [msC]; omega
     case rel => exact ⟨k + 1, by go_num, by omega, by rw [List.range_succ]; exact hJ1, hp1, hq1⟩
    ·gi_wp2
     refine bodyPost_ret (results_none rfl _ _ _) rfl ?_
     exact ⟨⟨_, rfl⟩, .inr ⟨_, trivial, hx1⟩⟩
  ·have : k = m := by omega
   subst this
   gi_wp2
   go_end0
   exact ⟨⟨_, rfl⟩, .inl ⟨_, rfl, hJk⟩⟩
end Go.Proofs.YtpfnlpakcldobaaGreat
namespace Go.Proofs.YtpfnlpakcldobaaGreat
open Go.RowKit Go.Shelf
attribute [local go_sem] Oper.semAt_some
set_option maxRecDepth 100000 in
set_option maxHeartbeats 1000000 in
theorem chunk_call (n : Nat) (a : Option Addr) (m c : Nat) (w : World) : CallsIn Fence.wide n Tryz.prog 94 #[.slice a m c, .int .i64 64] w fun e w' =>
 e = .returned (.func (.func 105) #[] #[.pointer (some ⟨w.heap.size, 0, none⟩), .pointer (some ⟨w.heap.size + 1, 0, none⟩)]) ∧ w' = (w.alloc (.cells #[.slice a m c] 40)).alloc (.cells #[.int .i64 64] 3) := by
 refine callsIn_of_wp Tryz.func94 rfl trivial ?_ rfl
 simp only [Tryz.ntmps94, List.size_toArray, List.length_cons, List.length_nil, Nat.reduceAdd, Nat.reduceSub, Array.replicate_succ, Array.replicate_zero, List.push_toArray, List.append_toArray, List.nil_append, List.cons_append]
 gi_wp2
 go_ret
 exact ⟨rfl, rfl⟩
def SumOk (pv : Value) (w : World) (m : Nat) (s : List Nat → Nat → Int) : Prop :=
 ∀ W, Below w.heap.size w W → Calls Tryz.prog 96 #[pv] W fun e w1 => ∃ c1, e = .returned c1 ∧ Below W.heap.size W w1 ∧
  Calls Tryz.prog 95 #[c1] w1 fun e w2 => ∃ g o cap, e = .returned (.slice (some ⟨g, o, none⟩) (64 * m) cap) ∧ 64 * m ≤ cap ∧ cap ≤ maxLen ∧ Below W.heap.size w1 w2 ∧ (g < w.heap.size ∨ W.heap.size ≤ g) ∧ g < w2.heap.size ∧
   ∀ pre k, k < m → ∀ W', (∀ j, W'.cell? ⟨g, j, none⟩ = w2.cell? ⟨g, j, none⟩) → w2.heap.size ≤ W'.heap.size →
    Calls Tryz.prog 97 #[.agg #[.int .u32 (s pre 0), .int .u32 (s pre 1), .int .u32 (s pre 2), .int .u32 (s pre 3)], .slice (some ⟨g, o + 64 * k, none⟩) 64 64] W' fun e w3 =>
     e = .returned (.agg #[.int .u32 (s (pre ++ [k]) 0), .int .u32 (s (pre ++ [k]) 1), .int .u32 (s (pre ++ [k]) 2), .int .u32 (s (pre ++ [k]) 3)]) ∧ Below W'.heap.size W' w3
def ms16 (v : Value) : Nat := match v with
 | .int _ z => (16 - z).toNat
 | _ => 0
def sv (f : Nat → Int) (j : Nat) : Int := f (j / 4) / 2 ^ (8 * (j % 4)) % 256
structure sW (w : World) (f : Nat → Int) (W : World) : Prop where
 c0 : W.cell? ⟨w.heap.size + 1, 0, none⟩ = some (.int .u32 (f 0))
 c1 : W.cell? ⟨w.heap.size + 1, 1, none⟩ = some (.int .u32 (f 1))
 c2 : W.cell? ⟨w.heap.size + 1, 2, none⟩ = some (.int .u32 (f 2))
 c3 : W.cell? ⟨w.heap.size + 1, 3, none⟩ = some (.int .u32 (f 3))
 fz : ∀ q, W.frozen? ⟨w.heap.size + 1, q, none⟩ = false
 out : ∀ q, q < 16 → W.cell? ⟨w.heap.size, q, none⟩ = some (.int .u8 0)
 fo : ∀ q, W.frozen? ⟨w.heap.size, q, none⟩ = false
theorem sW.yb {w A B : World} {f : Nat → Int} (h : sW w f A) (h1 : B.heap[w.heap.size + 1]? = A.heap[w.heap.size + 1]?) (h2 : B.heap[w.heap.size]? = A.heap[w.heap.size]?) : sW w f B :=
 ⟨(World.cell?_of_block h1).trans h.c0, (World.cell?_of_block h1).trans h.c1, (World.cell?_of_block h1).trans h.c2, (World.cell?_of_block h1).trans h.c3, fun q => (World.frozen?_of_block h1).trans (h.fz q),
  fun q hq => (World.cell?_of_block h2).trans (h.out q hq), fun q => (World.frozen?_of_block h2).trans (h.fo q)⟩
def tW (f : Nat → Int) : Array Value := #[.int .u8 (sv f 0), .int .u8 (sv f 1), .int .u8 (sv f 2), .int .u8 (sv f 3), .int .u8 (sv f 4), .int .u8 (sv f 5), .int .u8 (sv f 6), .int .u8 (sv f 7),
 .int .u8 (sv f 8), .int .u8 (sv f 9), .int .u8 (sv f 10), .int .u8 (sv f 11), .int .u8 (sv f 12), .int .u8 (sv f 13), .int .u8 (sv f 14), .int .u8 (sv f 15)]
def sg (b : Nat) : Nat → List Value → World → World
 | _, [], W => W
 | i, v :: l, W => sg b (i + 1) l (W.setCell ⟨b, i, none⟩ v)
theorem nJ {b : Nat} : ∀ (l : List Value) (i : Nat) (W : World) (k : Nat), k ≠ b → (sg b i l W).heap[k]? = W.heap[k]?
 | [], i, W, k, h => rfl
 | v :: l, i, W, k, h => by rw [sg, nJ l _ _ k h, Below.heap_setCell _ _ _ _ h]
theorem od {b B : Nat} {A : World} (hb : B ≤ b) : ∀ (l : List Value) (i : Nat) (W : World), Below B A W → Below B A (sg b i l W)
 | [], i, W, h => h
 | v :: l, i, W, h => od hb l _ _ (h.setCell hb v)
theorem mW {b : Nat} : ∀ (l : List Value) (i : Nat) (W : World) (j : Nat), j < i → (sg b i l W).cell? ⟨b, j, none⟩ = W.cell? ⟨b, j, none⟩
 | [], i, W, j, h => rfl
 | v :: l, i, W, j, h => by rw [sg, mW l _ _ j (by omega), World.cell?_setCell_other _ _ _ _ (fun e => by have := congrArg Addr.off e; simp at this; omega)]
theorem nK {b : Nat} : ∀ (l : List Value) (i : Nat) (W : World), (∀ j, j < l.length → (W.cell? ⟨b, i + j, none⟩).isSome = true) → ∀ j v, l[j]? = some v → (sg b i l W).cell? ⟨b, i + j, none⟩ = some v
 | [], i, W, h, j, v, hj => by simp at hj
 | u :: l, i, W, h, j, v, hj => by
  rw [sg]
  cases j with
  | zero =>
   simp at hj; subst hj
   rw [mW l _ _ _ (by omega)]
   exact World.cell?_setCell_same' _ _ _ (by have := h 0 (by simp); simpa using this)
  | succ j =>
   have := nK l (i + 1) (W.setCell ⟨b, i, none⟩ u) (fun q hq => by
    rw [World.cell?_setCell_other _ _ _ _ (fun e => by have := congrArg Addr.off e; simp at this; omega)]
    have := h (q + 1) (by simp; omega)
    rwa [show i + (q + 1) = i + 1 + q by omega] at this) j v (by simpa using hj)
   rwa [show i + (j + 1) = i + 1 + j by omega]
set_option maxRecDepth 100000 in
set_option maxHeartbeats 4000000 in
theorem sum_in (a : Option Addr) (pm pc : Nat) (w : World) (m : Nat) (s : List Nat → Nat → Int) (hm : 0 < m) (h0 : s [] 0 = 1732584193 ∧ s [] 1 = 4023233417 ∧ s [] 2 = 2562383102 ∧ s [] 3 = 271733878) (hS : SumOk (.slice a pm pc) w m s) :
 CallsIn Fence.wide 3 Tryz.prog 90 #[.slice a pm pc] w fun e w' => Below w.heap.size w w' ∧ e = .returned (.agg (tW (s (List.range m)))) := by
 refine callsIn_of_wp_marks Tryz.func90 rfl trivial ?_ rfl
 simp only [Tryz.ntmps90, List.size_toArray, List.length_cons, List.length_nil, Nat.reduceAdd, Nat.reduceSub, Array.replicate_succ, Array.replicate_zero, List.push_toArray, List.append_toArray, List.nil_append, List.cons_append]
 gi_wp2_with (first
  | (refine ⟨trivial, ?_⟩; gi_at_call 96; refine (callsIn_wide.2 (hS _ (((Below.refl _ w).alloc (Nat.le_refl _) _).alloc (by simp) _))).mono ?_; rintro e w1 ⟨c1, rfl, hB1, h95⟩)
  | (refine ⟨trivial, ?_⟩; gi_at_call 95; refine (callsIn_wide.2 h95).mono ?_; rintro e w2 ⟨g, o, cap, rfl, hc, hcm, hB2, hg, hg2, h97⟩)
  | (refine ⟨trivial, ?_⟩; gi_at_call 94; refine (chunk_call _ _ _ _ _).mono ?_; rintro e w' ⟨rfl, rfl⟩))
 simp only [World.size_alloc] at hB2
 have hsz1 : w.heap.size + 2 ≤ w1.heap.size := by have := hB1.size; simpa using this
 have hsz2 : w1.heap.size ≤ w2.heap.size := hB2.size
 have hgs : g ≠ w.heap.size + 1 := by rcases hg with h | h <;> (try simp only [World.size_alloc] at h) <;> omega
 have hgo : g ≠ w.heap.size := by rcases hg with h | h <;> (try simp only [World.size_alloc] at h) <;> omega
 have hb12 : Below w.heap.size w w2 := ((((Below.refl _ w).alloc (Nat.le_refl _) _).alloc (by simp) _).trans (hB1.mono (by simp; omega))).trans (hB2.mono (by omega))
 have hcw : ∀ q, w2.cell? ⟨w.heap.size + 1, q, none⟩ = _ := fun q => (hB2.cell (by dsimp only; omega)).trans (hB1.cell (by simp))
 have hfw : ∀ q, w2.frozen? ⟨w.heap.size + 1, q, none⟩ = _ := fun q => (hB2.frozen (by dsimp only; omega)).trans (hB1.frozen (by simp))
 have hco : ∀ q, w2.cell? ⟨w.heap.size, q, none⟩ = _ := fun q => (hB2.cell (by dsimp only; omega)).trans (hB1.cell (by simp; omega))
 have hfo : ∀ q, w2.frozen? ⟨w.heap.size, q, none⟩ = _ := fun q => (hB2.frozen (by dsimp only; omega)).trans (hB1.frozen (by simp; omega))
 have hs2 : sW w (s []) w2 := by
  obtain ⟨e0, e1, e2, e3⟩ := h0
  refine ⟨?_, ?_, ?_, ?_, fun q => ?_, fun q hq => ?_, fun q => ?_⟩
  ·rw [hcw, e0]; simp
  ·rw [hcw, e1]; simp
  ·rw [hcw, e2]; simp
  ·rw [hcw, e3]; simp
  ·rw [hfw]; simp
  ·rw [hco]
   have : q = 0 ∨ q = 1 ∨ q = 2 ∨ q = 3 ∨ q = 4 ∨ q = 5 ∨ q = 6 ∨ q = 7 ∨ q = 8 ∨ q = 9 ∨ q = 10 ∨ q = 11 ∨ q = 12 ∨ q = 13 ∨ q = 14 ∨ q = 15 := by omega
   rcases this with rfl | rfl | rfl | rfl | rfl | rfl | rfl | rfl | rfl | rfl | rfl | rfl | rfl | rfl | rfl | rfl <;> simp
  ·rw [hfo]; simp
 clear hcw hfw hco hfo
 refine wpIn_rangeFunc_ownF rfl (by omega) (gf := 105) (lb := #[.pointer (some ⟨w2.heap.size, 0, none⟩), .pointer (some ⟨w2.heap.size + 1, 0, none⟩)]) rfl trivial (enters_of Tryz.func105 (by kernel_rfl) rfl)
  (chunk_stops 2 m w2.heap.size (w2.heap.size + 1) g o cap _ (by omega) (by simp) (by simp) hc hcm)
  (fun h k => ⟨k.1.trans h.1, k.2.trans h.2⟩) (fun W l ob ob' hl hob hc1 hc2 => ?hKb) (Below.refl _ _) (fun _ => rfl)
  (fun pre W => Below w.heap.size w W ∧ w2.heap.size + 2 ≤ W.heap.size ∧ sW w (s (pre.map (cl m))) W ∧ ∀ j, W.cell? ⟨g, j, none⟩ = w2.cell? ⟨g, j, none⟩)
  (fun _ _ _ => False) ?own (fun _ _ _ _ _ hs _ _ => hs) ?init
  (fun x => { tmps := #[.slice a pm pc, undef, .pointer (some ⟨w.heap.size, 0, none⟩), .pointer (some ⟨w.heap.size + 1, 0, none⟩), .slice (some ⟨g, o + 64 * cl m x, none⟩) 64 64, undef, undef,
   .agg #[.int .u32 1732584193, .int .u32 4023233417, .int .u32 2562383102, .int .u32 271733878], .slice a pm pc, c1, .slice (some ⟨g, o, none⟩) (64 * m) cap,
   .func (.func 105) #[] #[.pointer (some ⟨w2.heap.size, 0, none⟩), .pointer (some ⟨w2.heap.size + 1, 0, none⟩)], .slice (some ⟨g, o + 64 * cl m x, none⟩) 64 64,
   undef, undef, undef, undef, undef, undef, undef, undef, undef, undef, undef, undef, undef, undef, undef, undef, undef, undef, undef], defers := [] }) ?assign ?body ?done ?stop
 case hKb =>
  simp only [World.size_alloc] at hl
  exact ⟨World.cell?_of_block (World.putObj_heap_other (by dsimp only; omega)), World.cell?_of_block (World.putObj_heap_other (by dsimp only; omega))⟩
 case own =>
  intro pre A B row hs hgr hr
  obtain ⟨k1, k2, k3, k4⟩ := hs
  have hrr : ∀ r, row = some r → w2.heap.size + 2 ≤ r := fun r e => by have := (hr r e).1; simpa using this
  have hbl : ∀ k, k < w2.heap.size + 2 → B.heap[k]? = A.heap[k]? := fun k hk => hgr.block k (by omega) (fun e => by have := hrr k e.symm; omega)
  refine ⟨k1.grown hgr k1.size (fun k e => by have := hrr k e; omega), Nat.le_trans k2 hgr.size, k3.yb (hbl _ (by omega)) (hbl _ (by omega)), fun j => (World.cell?_of_block (hbl g (by omega))).trans (k4 j)⟩
 case init =>
  refine ⟨(hb12.alloc (by omega) _).alloc (by simp; omega) _, by simp, hs2.yb ?_ ?_, fun j => ?_⟩
  ·rw [Below.heap_alloc _ _ _ (by simp; omega), Below.heap_alloc _ _ _ (by omega)]
  ·rw [Below.heap_alloc _ _ _ (by simp; omega), Below.heap_alloc _ _ _ (by omega)]
  ·exact World.cell?_of_block (by rw [Below.heap_alloc _ _ _ (by simp; omega), Below.heap_alloc _ _ _ (by omega)])
 case assign =>
  intro l x W K hK
  gi_wp2
  exact hK
 case body =>
  rintro l pre x W ⟨k1, k2, ⟨s0, s1, s2, s3, sf, so, sfo⟩, k4⟩ _
  have sf0 := sf 0
  have sf1 := sf 1
  have sf2 := sf 2
  have sf3 := sf 3
  have hx : cl m x < m := by unfold cl; split <;> omega
  gi_wp2_with (refine ⟨trivial, ?_⟩; gi_at_call 97; refine (CallsIn.inRound l (callsIn_wide.2 (h97 (pre.map (cl m)) (cl m x) hx W k4 (by omega)))).mono ?_; rintro e w3 ⟨rfl, hB3⟩; have hz3 := hB3.size; have hlt3 : w.heap.size + 1 < W.heap.size := (by omega); have u0 : w3.cell? ⟨w.heap.size + 1, 0, none⟩ = _ := (hB3.cell hlt3).trans s0; have u1 : w3.cell? ⟨w.heap.size + 1, 1, none⟩ = _ := (hB3.cell hlt3).trans s1; have u2 : w3.cell? ⟨w.heap.size + 1, 2, none⟩ = _ := (hB3.cell hlt3).trans s2; have u3 : w3.cell? ⟨w.heap.size + 1, 3, none⟩ = _ := (hB3.cell hlt3).trans s3; have v0 : w3.frozen? ⟨w.heap.size + 1, 0, none⟩ = false := (hB3.frozen hlt3).trans sf0; have v1 : w3.frozen? ⟨w.heap.size + 1, 1, none⟩ = false := (hB3.frozen hlt3).trans sf1; have v2 : w3.frozen? ⟨w.heap.size + 1, 2, none⟩ = false := (hB3.frozen hlt3).trans sf2; have v3 : w3.frozen? ⟨w.heap.size + 1, 3, none⟩ = false := (hB3.frozen hlt3).trans sf3)
  have hne : ∀ (b p q : Nat), b ≠ w.heap.size + 1 → (⟨w.heap.size + 1, p, none⟩ : Addr) ≠ ⟨b, q, none⟩ := fun b p q hb e => hb (by injection e with e1; exact e1.symm)
  have hoth : ∀ (b q : Nat) (x0 x1 x2 x3 : Value), b ≠ w.heap.size + 1 → ((((w3.setCell ⟨w.heap.size + 1, 0, none⟩ x0).setCell ⟨w.heap.size + 1, 1, none⟩ x1).setCell ⟨w.heap.size + 1, 2, none⟩ x2).setCell ⟨w.heap.size + 1, 3, none⟩ x3).cell? ⟨b, q, none⟩ = w3.cell? ⟨b, q, none⟩ := by
   intro b q x0 x1 x2 x3 hb
   rw [World.cell?_setCell_other _ _ _ _ (hne b _ q hb), World.cell?_setCell_other _ _ _ _ (hne b _ q hb), World.cell?_setCell_other _ _ _ _ (hne b _ q hb), World.cell?_setCell_other _ _ _ _ (hne b _ q hb)]
  have hot : ∀ (p q : Nat) (x : Value) (W : World), p ≠ q → (W.setCell ⟨w.heap.size + 1, p, none⟩ x).cell? ⟨w.heap.size + 1, q, none⟩ = W.cell? ⟨w.heap.size + 1, q, none⟩ := fun p q x W hpq => World.cell?_setCell_other _ _ _ _ (fun e => hpq (congrArg Addr.off e))
  have hsm : ∀ (q : Nat) (x : Value) (W : World), (W.cell? ⟨w.heap.size + 1, q, none⟩).isSome = true → (W.setCell ⟨w.heap.size + 1, q, none⟩ x).cell? ⟨w.heap.size + 1, q, none⟩ = some x := fun q x W h => World.cell?_setCell_same' _ _ _ h
  refine ⟨(((((KeepsOthers.mk hB3.size (fun k ob hk _ => (hB3.block k (Array.getElem?_eq_some_iff.1 hk).1).trans hk)).trans (KeepsOthers.setCell _ _ _)).trans (KeepsOthers.setCell _ _ _)).trans (KeepsOthers.setCell _ _ _)).trans (KeepsOthers.setCell _ _ _)),
   ⟨(hoth _ _ _ _ _ _ (by omega)).trans (hB3.cell (by dsimp only; omega)), (hoth _ _ _ _ _ _ (by omega)).trans (hB3.cell (by dsimp only; omega))⟩,
   ((((k1.trans (hB3.mono (by omega))).setCell (by dsimp only; omega) _).setCell (by dsimp only; omega) _).setCell (by dsimp only; omega) _).setCell (by dsimp only; omega) _, ?_, ?_, fun j => ?_⟩
  ·simp only [World.setCell, Array.size_modify]; omega
  ·rw [List.map_append, List.map_cons, List.map_nil]
   refine ⟨by rw [hot 3 0 _ _ (by omega), hot 2 0 _ _ (by omega), hot 1 0 _ _ (by omega), hsm 0 _ _ (by rw [u0]; rfl)], by rw [hot 3 1 _ _ (by omega), hot 2 1 _ _ (by omega), hsm 1 _ _ (by rw [hot 0 1 _ _ (by omega), u1]; rfl)],
    by rw [hot 3 2 _ _ (by omega), hsm 2 _ _ (by rw [hot 1 2 _ _ (by omega), hot 0 2 _ _ (by omega), u2]; rfl)], by rw [hsm 3 _ _ (by rw [hot 2 3 _ _ (by omega), hot 1 3 _ _ (by omega), hot 0 3 _ _ (by omega), u3]; rfl)], fun q => ?_, fun q hq => ?_, fun q => ?_⟩
   ·simp only [World.frozen?_setCell]; exact (hB3.frozen hlt3).trans (sf q)
   ·exact (hoth _ _ _ _ _ _ (by omega)).trans ((hB3.cell (by dsimp only; omega)).trans (so q hq))
   ·simp only [World.frozen?_setCell]; exact (hB3.frozen (by dsimp only; omega)).trans (sfo q)
  ·exact (hoth _ _ _ _ _ _ hgs).trans ((hB3.cell (by dsimp only; omega)).trans (k4 j))
 case stop =>
  rintro D c pre W _ _ h _
  exact h.elim
 case done =>
  rintro D xs W hD rfl ⟨k1, k2, ⟨s0, s1, s2, s3, sf, so, sfo⟩, _⟩ hK
  have hcl : (List.range m).map (cl m) = List.range m := by
   conv => rhs; rw [← List.map_id (List.range m)]
   exact List.map_congr_left fun k hk => if_pos (List.mem_range.1 hk)
  rw [hcl] at s0 s1 s2 s3
  clear hcl
  generalize hf : s (List.range m) = f at *
  have HF : Hid (s (List.range m) = f) := hf
  clear hf
  have hDs : D < W.heap.size := (Array.getElem?_eq_some_iff.1 hK).1
  simp only [World.size_alloc] at hD
  gi_wp2
  gi_loopw [16] (fun v16 wr => ∃ i : Nat, v16 = .int .i64 (i : Int) ∧ i ≤ 16 ∧ Below w.heap.size w wr ∧ sW w f wr ∧ wr.heap[D]? = some (.deferred (some [])) ∧ W.heap.size < wr.heap.size ∧
   (∀ j, j < 16 → wr.cell? ⟨W.heap.size, j, none⟩ = some (.int .u8 (if j < i then sv f j else 0))) ∧ ∀ q, wr.frozen? ⟨W.heap.size, q, none⟩ = false)
   (fun v16 _ => ms16 v16)
  case atStart =>
   have hbs : w.heap.size + 1 < W.heap.size := by omega
   refine ⟨0, rfl, by omega, k1.alloc (by omega) _, sW.yb ⟨s0, s1, s2, s3, sf, so, sfo⟩ (Below.heap_alloc _ _ _ (by omega)) (Below.heap_alloc _ _ _ (by omega)), (Below.heap_alloc _ _ _ hDs).trans hK, by simp, fun j hj => ?_, fun q => by simp⟩
   have : j = 0 ∨ j = 1 ∨ j = 2 ∨ j = 3 ∨ j = 4 ∨ j = 5 ∨ j = 6 ∨ j = 7 ∨ j = 8 ∨ j = 9 ∨ j = 10 ∨ j = 11 ∨ j = 12 ∨ j = 13 ∨ j = 14 ∨ j = 15 := by omega
   rcases this with rfl | rfl | rfl | rfl | rfl | rfl | rfl | rfl | rfl | rfl | rfl | rfl | rfl | rfl | rfl | rfl <;> simp
  case round =>
   obtain ⟨i, rfl, hi, q1, ⟨z0, z1, z2, z3, zf, zo, zfo⟩, q3, q4, q5, q6⟩ := hrel
   by_cases hlt : i < 16
   ·have : i = 0 ∨ i = 1 ∨ i = 2 ∨ i = 3 ∨ i = 4 ∨ i = 5 ∨ i = 6 ∨ i = 7 ∨ i = 8 ∨ i = 9 ∨ i = 10 ∨ i = 11 ∨ i = 12 ∨ i = 13 ∨ i = 14 ∨ i = 15 := by omega
    have y := q5 i hlt
    rw [if_neg (Nat.lt_irrefl i)] at y
    have yf := q6 i
    have fin : Hid (∀ x : Int, x = sv f i → (i + 1 ≤ 16 ∧ Below w.heap.size w (wr.setCell ⟨W.heap.size, i, none⟩ (.int .u8 x)) ∧ sW w f (wr.setCell ⟨W.heap.size, i, none⟩ (.int .u8 x)) ∧ (wr.setCell ⟨W.heap.size, i, none⟩ (.int .u8 x)).heap[D]? = some (.deferred (some [])) ∧
     W.heap.size < (wr.setCell ⟨W.heap.size, i, none⟩ (.int .u8 x)).heap.size ∧
     (∀ j, j < 16 → (wr.setCell ⟨W.heap.size, i, none⟩ (.int .u8 x)).cell? ⟨W.heap.size, j, none⟩ = some (.int .u8 (if j < i + 1 then sv f j else 0))) ∧ ∀ q, (wr.setCell ⟨W.heap.size, i, none⟩ (.int .u8 x)).frozen? ⟨W.heap.size, q, none⟩ = false)) := by
     rintro x rfl
     refine ⟨by omega, q1.setCell (by dsimp only; omega) _, sW.yb ⟨z0, z1, z2, z3, zf, zo, zfo⟩ (Below.heap_setCell _ _ _ _ (by dsimp only; omega)) (Below.heap_setCell _ _ _ _ (by dsimp only; omega)), ?_, ?_, fun j hj => ?_, fun q => ?_⟩
     ·rw [Below.heap_setCell _ _ _ _ (by dsimp only; omega)]; exact q3
     ·simp only [World.setCell, Array.size_modify]; exact q4
     ·by_cases hji : i = j
      ·subst hji
       rw [if_pos (by omega)]
       exact World.cell?_setCell_same' _ _ _ (by rw [y]; rfl)
      ·rw [World.cell?_setCell_other _ _ _ _ (fun e => hji (congrArg Addr.off e)), q5 j hj]
       congr 2
       by_cases hl2 : j < i
       ·rw [if_pos hl2, if_pos (by omega)]
       ·rw [if_neg hl2, if_neg (by omega)]
     ·rw [World.frozen?_setCell]; exact q6 q
    clear q5 q6 so sfo sf s0 s1 s2 s3
    rcases this with rfl | rfl | rfl | rfl | rfl | rfl | rfl | rfl | rfl | rfl | rfl | rfl | rfl | rfl | rfl | rfl
    all_goals
     gi_wp2
     exact ⟨⟨_, by rfl, fin.out _ (by simp [sv])⟩, by simp [ms16]⟩
   ·have : i = 16 := by omega
    subst this
    have y0 := q5 0 (by omega)
    have y1 := q5 1 (by omega)
    have y2 := q5 2 (by omega)
    have y3 := q5 3 (by omega)
    have y4 := q5 4 (by omega)
    have y5 := q5 5 (by omega)
    have y6 := q5 6 (by omega)
    have y7 := q5 7 (by omega)
    have y8 := q5 8 (by omega)
    have y9 := q5 9 (by omega)
    have y10 := q5 10 (by omega)
    have y11 := q5 11 (by omega)
    have y12 := q5 12 (by omega)
    have y13 := q5 13 (by omega)
    have y14 := q5 14 (by omega)
    have y15 := q5 15 (by omega)
    clear q5 q6 so sfo sf s0 s1 s2 s3
    simp only [Nat.reduceLT, if_true] at y0 y1 y2 y3 y4 y5 y6 y7 y8 y9 y10 y11 y12 y13 y14 y15
    have e0 := zo 0 (by omega)
    have e1 := zo 1 (by omega)
    have e2 := zo 2 (by omega)
    have e3 := zo 3 (by omega)
    have e4 := zo 4 (by omega)
    have e5 := zo 5 (by omega)
    have e6 := zo 6 (by omega)
    have e7 := zo 7 (by omega)
    have e8 := zo 8 (by omega)
    have e9 := zo 9 (by omega)
    have e10 := zo 10 (by omega)
    have e11 := zo 11 (by omega)
    have e12 := zo 12 (by omega)
    have e13 := zo 13 (by omega)
    have e14 := zo 14 (by omega)
    have e15 := zo 15 (by omega)
    clear zo
    have q1' := q1
    gi_wp2
    show bodyPostM _ _ _ _ _ _ _ (sg w.heap.size 0 (tW f).toList wr)
    have hD' : (sg w.heap.size 0 (tW f).toList wr).heap[D]? = some (.deferred (some [])) := by rw [nJ _ _ _ _ (by omega)]; exact q3
    have hcell : ∀ j v, (tW f).toList[j]? = some v → (sg w.heap.size 0 (tW f).toList wr).cell? ⟨w.heap.size, 0 + j, none⟩ = some v := nK _ 0 wr (fun j hj => by
     have : j = 0 ∨ j = 1 ∨ j = 2 ∨ j = 3 ∨ j = 4 ∨ j = 5 ∨ j = 6 ∨ j = 7 ∨ j = 8 ∨ j = 9 ∨ j = 10 ∨ j = 11 ∨ j = 12 ∨ j = 13 ∨ j = 14 ∨ j = 15 := by simp [tW] at hj; omega
     rcases this with rfl | rfl | rfl | rfl | rfl | rfl | rfl | rfl | rfl | rfl | rfl | rfl | rfl | rfl | rfl | rfl <;> simp [e0, e1, e2, e3, e4, e5, e6, e7, e8, e9, e10, e11, e12, e13, e14, e15])
    have hbf : Below w.heap.size w (sg w.heap.size 0 (tW f).toList wr) := od (Nat.le_refl _) _ _ _ q1
    refine ⟨by simp, .inl ⟨_, _, rfl, run_takeDeferred hD', ?_⟩⟩
    generalize sg w.heap.size 0 (tW f).toList wr = X at *
    have hlt : D < X.heap.size := (Array.getElem?_eq_some_iff.1 hD').1
    have hbX : Below w.heap.size w (X.putObj D (.deferred none)) := hbf.grown (grownBy_putObj' X D _) hbf.size (fun k e => by cases e; omega)
    refine ⟨.agg (tW f), ?_, hbX, by rw [HF.out]⟩
    have hcell' : ∀ j v, (tW f).toList[j]? = some v → (X.putObj D (.deferred none)).cell? ⟨w.heap.size, 0 + j, none⟩ = some v := fun j v hj => (World.cell?_of_block (World.putObj_heap_other (by dsimp only; omega))).trans (hcell j v hj)
    have hload := Go.L.vL (P := Tryz.prog) (w := X.putObj D (.deferred none)) (t := 153) (agg := true) (n := 16) (by kernel_rfl) (b := w.heap.size) (off := 0) (cs := (tW f).toList) rfl hcell'
    refine Go.L.rl (P := Tryz.prog) (w := X.putObj D (.deferred none)) (fn := Tryz.f90) (cs := [.agg (tW f)]) ?_
    rw [show Tryz.f90.results.toList = [.cell 2 153] from rfl]
    simp only [List.mapM_cons, List.mapM_nil, Go.L.sI, Sem.run_bind, Sem.run_pure, asAddr]
    simp [Sem.run_bind, Sem.run_pure, hload, Result.andThen, asAddr, tW]
end Go.Proofs.YtpfnlpakcldobaaGreat
