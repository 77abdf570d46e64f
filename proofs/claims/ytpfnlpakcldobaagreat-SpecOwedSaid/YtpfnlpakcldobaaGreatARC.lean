/- Texts of the proof: RX RB RC. -/
import Derived.Test.YtpfnlpakcldobaaGreatARW
set_option linter.unusedVariables false
set_option linter.unusedSimpArgs false
set_option linter.unusedSectionVars false
namespace Go.Proofs.YtpfnlpakcldobaaGreat
open Go Go.L
@[simp] theorem softV_int (k n) : LVal.soft (.int k n) = .int k n := rfl
@[simp] theorem softV_bool (b) : LVal.soft (.bool b) = .bool b := rfl
@[simp] theorem softV_str (b) : LVal.soft (.str b) = .str b := rfl
@[simp] theorem softV_ptr (i o) : LVal.soft (.ptr i o) = .ptr i o := rfl
@[simp] theorem softV_map (i) : LVal.soft (.map i) = .map i := rfl
@[simp] theorem softV_sh (b n xs) : LVal.soft (.vs b .sh n xs) = .vs b .sh n xs := rfl
@[simp] theorem softV_full (b n xs) : LVal.soft (.vs b .full n xs) = .vs b .sh n xs := rfl
@[simp] theorem softV_own (b e x n xs) : LVal.soft (.vs b (.own e x) n xs) = .vs b .sh n xs := rfl
@[simp] theorem softV_iface (t v) : LVal.soft (.iface t v) = .iface t v := rfl
attribute [go_sem] xn zY.zH LVal.pfs LVal.pf Go.L.zc yA zU zP yo yH yl yj zV yw wB ug yP kill LVal.zb LVal.within yC zW Go.L.step ya x8 sem RS.zu RS.put RS.yW RS.take RS.takes RS.zS RS.zR RS.yt RS.xe RS.xp RS.yJ RS.settle RS.alloc ye LVal.arg LVal.isAgg LVal.cells LVal.yT LVal.copy LVal.down uJ wh wi unL vP xY uS xB LVal.vE vD LOp.quiet LOp.yy LOp.yt zj.fix yE yx yK yg LVal.free LVal.calm LVal.xg LOp.zQ uk RS.acquire xu x5 bound xw uI xU xq yM yL yO uj xX wF chunks ym xh yQ eqS sn sN mmL
attribute [go_sem] D.V D.L D.N D.F D.Y D.o D.s D.y D.z D.p D.m D.w D.a D.g D.e D.q D.r D.t D.f D.u D.c D.b D.k D.h D.v D.x D.S D.R D.RD D.n0 D.n1 D.n2 D.n3 D.n4 D.n5 D.n6 D.n7 D.n8 D.n9 D.n10 D.r3_0 D.c3 D.r4_1 D.r4_3 D.c4 D.r5_0 D.c5 D.c6 D.r97_0 D.c97 D.r7_0 D.c7 D.c8 D.c9 D.r10_0 D.c10 D.r11_0 D.c11 D.r12_0 D.c12 D.c13 D.c14 D.c15 D.c16 D.c17 D.c18 D.c107 D.c108 D.r109_0 D.c109 D.c111 D.c110 D.c19 D.c20 D.c21 D.c22 D.r23_0 D.c23 D.c24 D.c25 D.c26 D.c27 D.c28 D.c29 D.c31 D.c30 D.r32_0 D.c32 D.c33 D.r34_0 D.c34 D.c35 D.c36 D.c37 D.c39 D.c38 D.c40 D.c44 D.r45_0 D.r45_1 D.c45 D.r46_0 D.c46 D.r41_0 D.c41 D.r42_0 D.r42_1 D.c42 D.r133_0 D.r133_1 D.c133 D.c167 D.c43 D.c53 D.r54_0 D.c54 D.c47 D.r48_0 D.r48_1 D.r48_2 D.c48 D.r49_0 D.c49 D.c50 D.c51 D.r135_0 D.c135 D.c136 D.c137 D.c66 D.c169 D.r52_0 D.r52_1 D.c52 D.r55_0 D.c55 D.c56 D.r57_0 D.c57 D.c58 D.c59 D.r60_0 D.r60_1 D.c60 D.c61 D.c62 D.c63 D.c64 D.c138 D.c139 D.c140 D.c141 D.r142_0 D.r142_1 D.c142 D.c143 D.r144_0 D.r144_1 D.c144 D.c147 D.c146 D.c83 D.r65_0 D.c65 D.c67 D.c68 D.r69_0 D.c69 D.c70 D.c71 D.c72 D.c74 D.c73 D.c77 D.c78 D.c79 D.c80 D.c81 D.c82 D.c148 D.c149 D.c150 D.c151 D.r152_0 D.c152 D.r153_0 D.c153 D.c93 D.c84 D.c85 D.c86 D.c75 D.c87 D.c89 D.c91 D.c92 D.c154 D.c98 D.c99 D.c100 D.c101 D.c102 D.c103 D.c104 D.c76 D.c96 D.c95 D.c94 D.c156 D.c112 D.c113 D.c114 D.c115 D.c116 D.c88 D.c105 D.c157 D.c158 D.c160 D.c162 D.c163 D.c164 D.c165 D.c166 D.c159 D.c161
theorem an {a b : Prop} (x : a) (y : b) : a ∧ b := ⟨x, y⟩
theorem Ret.of {T : Tbl} {f : FuncId} {args : List LVal} {st : List zt} {v : LVal} {o : Option (List zt)} {P : LVal → Option (List zt) → Prop} (h : zq T f args st = some (v, o)) (hp : P v o) : Ret T f args st P := ⟨v, o, h, hp⟩
theorem Wp.to {T : Tbl} {c : zv} {s s0 : RS} {e0 : yS} {Q : yS → RS → Prop} (h : Wp T c s (fun e s' => e = e0 ∧ s' = s0)) (hq : Q e0 s0) : Wp T c s Q := h.mono (by rintro _ _ ⟨rfl, rfl⟩; exact hq)
theorem wk {T : Tbl} {f : FuncId} {args : List LVal} {st : List zt} {v : LVal} {o : Option (List zt)}
 (h : Ret T f args st (fun v' o' => v' = v ∧ o' = o) := by
  refine yU rfl rfl (fun h => by first | (cases h; done) | simp [LVal.pfs, LVal.pf, F]) ?_
  simp only [Go.L.zc, List.map_cons, List.map_nil, Option.bind_some, Option.bind_none, Option.getD_some, Option.getD_none, List.getElem?_cons_zero, List.getElem?_cons_succ, zY.zH, if_true, Bool.false_eq_true, if_false, ite_self]
  repeat (first | apply wG | apply za.n | apply za.r | apply za.e | apply xH | apply Blk.n | apply Blk.r | apply Blk.e | (apply Blk.x; focus rfl) | apply uC | apply uB | apply xG | apply wc | apply vf | apply wa | apply we | apply xO | apply ve | (apply wb; focus (first | (simp [go_sem, F]; done) | (simp [go_sem, F]; rfl))) | (apply ud; focus (simp [RS.zu, F]; done)) | (apply ub; focus (simp [RS.zu, F]; done)) | (apply xC; focus (first | (simp [go_sem, F]; done) | (simp [go_sem, F]; rfl))) | (apply yZ; focus (first | (simp [go_sem, F]; done) | (simp [go_sem, F]; rfl))) | (apply um; focus (first | (simp [go_sem, F]; done) | (simp [go_sem, F]; rfl))))
  (first | apply og | apply oe); (focus (first | (simp [go_sem, F]; done) | (simp [go_sem, F]; rfl))); (focus (first | (simp [go_sem, F]; done) | (simp [go_sem, F]; rfl)))
  exact ⟨rfl, rfl⟩) : zq T f args st = some (v, o) := h.eq
theorem wkl {T : Tbl} {f : FuncId} {args : List LVal} {st : List zt} {v : LVal} {o : Option (List zt)}
 (h : Ret T f args st (fun v' o' => v' = v ∧ o' = o) := by
  refine yU rfl rfl (fun h => by first | (cases h; done) | simp [LVal.pfs, LVal.pf, F]) ?_
  simp only [Go.L.zc, List.map_cons, List.map_nil, Option.bind_some, Option.bind_none, Option.getD_some, Option.getD_none, List.getElem?_cons_zero, List.getElem?_cons_succ, zY.zH, if_true, Bool.false_eq_true, if_false, ite_self]
  repeat (first | apply wG | apply za.n | apply za.r | apply za.e | apply xH | apply Blk.n | apply Blk.r | apply Blk.e | (apply Blk.x; focus rfl) | apply uC | apply uB | apply xG | apply wc | apply vf | apply wa | apply we | apply xO | apply ve | (apply wb; focus (first | (simp [go_sem, F]; done) | (simp [go_sem, F]; rfl))) | (apply ud; focus (simp [RS.zu, F]; done)) | (apply ub; focus (simp [RS.zu, F]; done)) | (apply xC; focus (first | (simp [go_sem, F]; done) | (simp [go_sem, F]; rfl))) | (apply yZ; focus (first | (simp [go_sem, F]; done) | (simp [go_sem, F]; rfl))) | (apply um; focus (first | (simp [go_sem, F]; done) | (simp [go_sem, F]; rfl))) | apply xi)
  (first | apply og | apply oe); (focus (first | (simp [go_sem, F]; done) | (simp [go_sem, F]; rfl))); (focus (first | (simp [go_sem, F]; done) | (simp [go_sem, F]; rfl)))
  exact ⟨rfl, rfl⟩) : zq T f args st = some (v, o) := h.eq
theorem wk2 {T : Tbl} {f : FuncId} {args : List LVal} {st : List zt} {P : LVal → Option (List zt) → Prop} {b : zv} {s0 : RS} {Q0 : yS → RS → Prop} (hL : Wp T (.loop b) s0 Q0) (h : Wp T (.loop b) s0 Q0 → Ret T f args st P := by
 intro hL
 refine yU rfl rfl (fun h => by first | (cases h; done) | simp [LVal.pfs, LVal.pf, F]) ?_
 simp only [Go.L.zc, List.map_cons, List.map_nil, Option.bind_some, Option.bind_none, Option.getD_some, Option.getD_none, List.getElem?_cons_zero, List.getElem?_cons_succ, zY.zH, if_true, Bool.false_eq_true, if_false, ite_self]
 repeat (first | apply wG | apply za.n | apply za.r | apply za.e | apply xH | apply Blk.n | apply Blk.r | apply Blk.e | (apply Blk.x; focus rfl) | apply uC | apply uB | apply xG | apply wc | apply vf | apply wa | apply we | apply xO | apply ve | (apply wb; focus (first | (simp [go_sem, F]; done) | (simp [go_sem, F]; rfl))) | (apply ud; focus (simp [RS.zu, F]; done)) | (apply ub; focus (simp [RS.zu, F]; done)) | (apply xC; focus (first | (simp [go_sem, F]; done) | (simp [go_sem, F]; rfl))) | (apply yZ; focus (first | (simp [go_sem, F]; done) | (simp [go_sem, F]; rfl))) | (apply um; focus (first | (simp [go_sem, F]; done) | (simp [go_sem, F]; rfl))))
 exact hL) : Ret T f args st P := h hL
theorem wp1 {T : Tbl} {c : zv} {s s0 : RS} {e0 : yS} (h : Wp T c s (fun e s' => e = e0 ∧ s' = s0) := by
 repeat (first | apply wG | apply za.n | apply za.r | apply za.e | apply xH | apply Blk.n | apply Blk.r | apply Blk.e | (apply Blk.x; focus rfl) | apply uC | apply uB | apply xG | apply wc | apply vf | apply wa | apply we | apply xO | apply ve | (apply wb; focus (first | (simp [go_sem, F]; done) | (simp [go_sem, F]; rfl))) | (apply ud; focus (simp [RS.zu, F]; done)) | (apply ub; focus (simp [RS.zu, F]; done)) | (apply xC; focus (first | (simp [go_sem, F]; done) | (simp [go_sem, F]; rfl))) | (apply yZ; focus (first | (simp [go_sem, F]; done) | (simp [go_sem, F]; rfl))) | (apply um; focus (first | (simp [go_sem, F]; done) | (simp [go_sem, F]; rfl))))
 exact ⟨rfl, rfl⟩) : Wp T c s (fun e s' => e = e0 ∧ s' = s0) := h
theorem js {T : Tbl} {c : zv} {s s0 : RS} {e0 : yS} (h : Wp T c s (fun e s' => e = e0 ∧ s' = s0) := by
 repeat (first | apply wG | apply za.n | apply za.r | apply za.e | apply xH | apply Blk.n | apply Blk.r | apply Blk.e | (apply Blk.x; focus rfl) | apply uC | apply uB | apply xG | apply wc | apply vf | apply wa | apply we | apply xO | apply ve | (apply wb; focus (first | (simp [go_sem, F]; done) | (simp [go_sem, F]; rfl))) | (apply ud; focus (simp [RS.zu, F]; done)) | (apply ub; focus (simp [RS.zu, F]; done)) | (apply xC; focus (first | (simp [go_sem, F]; done) | (simp [go_sem, F]; rfl))) | (apply yZ; focus (first | (simp [go_sem, F]; done) | (simp [go_sem, F]; rfl))) | (apply um; focus (first | (simp [go_sem, F]; done) | (simp [go_sem, F]; rfl))) | apply xi)
 exact ⟨rfl, rfl⟩) : Wp T c s (fun e s' => e = e0 ∧ s' = s0) := h
theorem wz {X : Prop} (h : X := by
 repeat (first | apply wG | apply za.n | apply za.r | apply za.e | apply xH | apply Blk.n | apply Blk.r | apply Blk.e | (apply Blk.x; focus rfl) | apply uC | apply uB | apply xG | apply wc | apply vf | apply wa | apply we | apply xO | apply ve | (apply wb; focus (first | (simp [go_sem, F]; done) | (simp [go_sem, F]; rfl))) | (apply ud; focus (simp [RS.zu, F]; done)) | (apply ub; focus (simp [RS.zu, F]; done)) | (apply xC; focus (first | (simp [go_sem, F]; done) | (simp [go_sem, F]; rfl))) | (apply yZ; focus (first | (simp [go_sem, F]; done) | (simp [go_sem, F]; rfl))) | (apply um; focus (first | (simp [go_sem, F]; done) | (simp [go_sem, F]; rfl))))
 (first | apply og | apply oe); (focus (first | (simp [go_sem, F]; done) | (simp [go_sem, F]; rfl))); (focus (first | (simp [go_sem, F]; done) | (simp [go_sem, F]; rfl)))
 first | exact ⟨rfl, _, rfl⟩ | exact E | exact E _ | exact ⟨rfl, _, rfl, E⟩ | exact ⟨rfl, _, rfl, E _⟩ | exact ⟨rfl, _, rfl, fun _ => E⟩ | exact ⟨rfl, _, rfl, fun e => by cases e⟩ | exact ⟨rfl, rfl⟩ | exact ⟨rfl, _, _, rfl⟩ | exact ⟨rfl, E⟩ | exact E2 | exact E2 _ | exact ⟨rfl, E2⟩ | exact E3 | exact E3 _ | exact ⟨rfl, E3⟩ | exact E _ _ | (repeat' (first | exact rfl | exact E | exact E2 | exact E3 | exact E4 | (intro hE; first | exact E | exact E2 | exact E3 | exact E4 | (cases hE; done)) | exact Or.inl rfl | exact Or.inr ⟨rfl, rfl⟩ | apply Exists.intro | apply And.intro); done) | simp_all) : X := h
theorem gow {X Y : Prop} (h : Y) (k : Y → X := by
 intro hY
 repeat (first | apply wG | apply za.n | apply za.r | apply za.e | apply xH | apply Blk.n | apply Blk.r | apply Blk.e | (apply Blk.x; focus rfl) | apply uC | apply uB | apply xG | apply wc | apply vf | apply wa | apply we | apply xO | apply ve | (apply wb; focus (first | (simp [go_sem, F]; done) | (simp [go_sem, F]; rfl))) | (apply ud; focus (simp [RS.zu, F]; done)) | (apply ub; focus (simp [RS.zu, F]; done)) | (apply xC; focus (first | (simp [go_sem, F]; done) | (simp [go_sem, F]; rfl))) | (apply yZ; focus (first | (simp [go_sem, F]; done) | (simp [go_sem, F]; rfl))) | (apply um; focus (first | (simp [go_sem, F]; done) | (simp [go_sem, F]; rfl))))
 exact hY) : X := k h
theorem mi {X Y : Prop} (h : Y) (k : Y → X := by
 intro hY
 repeat (first | apply wG | apply za.n | apply za.r | apply za.e | apply xH | apply Blk.n | apply Blk.r | apply Blk.e | (apply Blk.x; focus rfl) | apply uC | apply uB | apply xG | apply wc | apply vf | apply wa | apply we | apply xO | apply ve | (apply wb; focus (first | (simp [go_sem, F]; done) | (simp [go_sem, F]; rfl))) | (apply ud; focus (simp [RS.zu, F]; done)) | (apply ub; focus (simp [RS.zu, F]; done)) | (apply xC; focus (first | (simp [go_sem, F]; done) | (simp [go_sem, F]; rfl))) | (apply yZ; focus (first | (simp [go_sem, F]; done) | (simp [go_sem, F]; rfl))) | (apply um; focus (first | (simp [go_sem, F]; done) | (simp [go_sem, F]; rfl))) | apply xi)
 exact hY) : X := k h
theorem agw {X Y1 Y2 Y3 Y4 Y5 Y6 Y7 Y8 : Prop} (h1 : Y1) (h2 : Y2) (h3 : Y3) (h4 : Y4) (h5 : Y5) (h6 : Y6) (h7 : Y7) (h8 : Y8) (k : Y1 → Y2 → Y3 → Y4 → Y5 → Y6 → Y7 → Y8 → X := by
 intro hY1 hY2 hY3 hY4 hY5 hY6 hY7 hY8
 refine And.left (b := True) ?_
 constructor
 ·repeat' (first | apply wG | apply za.n | apply za.r | apply za.e | apply xH | apply Blk.n | apply Blk.r | apply Blk.e | (apply Blk.x; focus rfl) | apply uC | apply uB | apply xG | apply wc | apply vf | apply wa | apply we | apply xO | apply ve | (apply wb; focus (first | (simp [go_sem, F]; done) | (simp [go_sem, F]; rfl))) | (apply ud; focus (simp [RS.zu, F]; done)) | (apply ub; focus (simp [RS.zu, F]; done)) | (apply uf <;> first | (intro hGO; first | (exfalso; revert hGO; simp [F]; done) | skip) | (first | exact rfl | (simp [RS.zu, F]; done) | (simp [RS.zu, F]; rfl))) | (apply vR <;> first | (intro hGO; first | (exfalso; revert hGO; simp [F]; done) | skip) | (first | exact rfl | (simp [RS.zu, F]; done) | (simp [RS.zu, F]; rfl))) | (apply vU <;> first | (intro hGO; first | (exfalso; revert hGO; simp [F]; done) | skip) | (first | exact rfl | (simp [RS.zu, F]; done) | (simp [RS.zu, F]; rfl))) | (apply vQ <;> first | (intro hGO; first | (exfalso; revert hGO; simp [F]; done) | skip) | (first | exact rfl | (simp [RS.zu, F]; done) | (simp [RS.zu, F]; rfl))) | (apply vr <;> first | (intro hGO; first | (exfalso; revert hGO; simp [F]; done) | skip) | (first | exact rfl | (simp [RS.zu, F]; done) | (simp [RS.zu, F]; rfl))) | (apply xC; focus (first | (simp [go_sem, F]; done) | (simp [go_sem, F]; rfl))) | (apply yZ; focus (first | (simp [go_sem, F]; done) | (simp [go_sem, F]; rfl))) | (apply um; focus (first | (simp [go_sem, F]; done) | (simp [go_sem, F]; rfl))))
  all_goals
   (first | apply og | apply oe); (focus (first | (simp [go_sem, F]; done) | (simp [go_sem, F]; rfl))); (focus (first | (simp [go_sem, F]; done) | (simp [go_sem, F]; rfl)))
   first | exact hY1 | exact hY2 | exact hY3 | exact hY4 | exact hY5 | exact hY6 | exact hY7 | exact hY8
 ·first | have hz1 : True := hY1 | skip
  first | have hz2 : True := hY2 | skip
  first | have hz3 : True := hY3 | skip
  first | have hz4 : True := hY4 | skip
  first | have hz5 : True := hY5 | skip
  first | have hz6 : True := hY6 | skip
  first | have hz7 : True := hY7 | skip
  first | have hz8 : True := hY8 | skip
  exact trivial) : X := k h1 h2 h3 h4 h5 h6 h7 h8
theorem fnw {X Y : Prop} (h : Y) (k : Y → X := by
 intro hY
 (first | apply og | apply oe); (focus (first | (simp [go_sem, F]; done) | (simp [go_sem, F]; rfl))); (focus (first | (simp [go_sem, F]; done) | (simp [go_sem, F]; rfl)))
 exact hY) : X := k h
end Go.Proofs.YtpfnlpakcldobaaGreat
namespace Go.Proofs.YtpfnlpakcldobaaGreat
open Go Go.L
theorem fn35 : D.W.fns 35 = some (.fn D.l35) := rfl
theorem fn85 : D.W.fns 85 = some (.fn D.l85) := rfl
theorem fn68 : D.W.fns 68 = some (.fn D.l68) := rfl
theorem fn81 : D.W.fns 81 = some (.fn D.l81) := rfl
theorem fn80 : D.W.fns 80 = some (.fn D.l80) := rfl
def Wb (b : Bool) (m : Nat) (l : List UInt8) : Prop := (b = false ∧ m = 1) ∨ (b = true ∧ l = [])
theorem Wb.ne {b : Bool} {m : Nat} {l : List UInt8} (h : Wb b m l) (hl : l ≠ []) : b = false ∧ m = 1 := by
 rcases h with h | ⟨_, h⟩
 ·exact h
 ·exact absurd h hl
theorem Wb.sub {b : Bool} {m : Nat} {l : List UInt8} (h : Wb b m l) (n k : Nat) : Wb b m ((l.take n).drop k) := by
 rcases h with h | ⟨h1, h2⟩
 ·exact .inl h
 ·exact .inr ⟨h1, by rw [h2]; simp⟩
theorem Wb.nil : Wb true 0 [] := .inr ⟨rfl, rfl⟩
theorem Wb.one {l : List UInt8} : Wb false 1 l := .inl ⟨rfl, rfl⟩
theorem mb' : xl = 140737488355328 := rfl
theorem xz : zy [] = [] := rfl
theorem xK (l : List UInt8) (k : Nat) : (zy l).drop k = zy (l.drop k) := by simp [zy]
theorem wD (l : List UInt8) (k : Nat) : (zy l).take k = zy (l.take k) := by simp [zy]
def clN (b : Bool) : Nat := if b then 0 else 1
theorem Wb.cl {b : Bool} {m : Nat} {l : List UInt8} (h : Wb b m l) : Wb b (clN b) l := by
 rcases h with ⟨rfl, _⟩ | ⟨rfl, h2⟩
 ·exact .inl ⟨rfl, rfl⟩
 ·exact .inr ⟨rfl, h2⟩
set_option maxHeartbeats 4000000 in
theorem clone_eq (b : Bool) (n : Nat) (l : List UInt8) (hn : Wb b n l) (hl : l.length ≤ xl) : zq D.W 35 [.vs b .sh n (zy l)] [] = some (.vs b .sh (clN b) (zy l), none) := by
 have e1 := zG 0 l
 have e2 := zx l
 have e3 := ze l
 rw [yF fn35]
 rcases hn with ⟨rfl, rfl⟩ | ⟨rfl, rfl⟩
 ·by_cases h : l = []
  ·subst h; simp [D.l35, D.c35, go_sem, e1, e2, e3, xz, clN]
  ·have h' : ¬ zy l = [] := fun e => h (List.map_eq_nil_iff.1 e)
   simp [h', D.l35, D.c35, go_sem, e1, e2, e3, h, hl, clN]
 ·simp [D.l35, D.c35, go_sem, e1, e2, e3, xz, clN]
set_option maxHeartbeats 4000000 in
theorem lq (b : Bool) (n : Nat) (l : List UInt8) (hn : Wb b n l) (hl : l.length ≤ xl) : zq D.W 85 [.vs b .sh n (zy l)] [] = some (.vs b .sh (clN b) (zy l), none) := by
 have e1 := zG 0 l
 have e2 := zx l
 have e3 := ze l
 rw [yF fn85]
 rcases hn with ⟨rfl, rfl⟩ | ⟨rfl, rfl⟩
 ·by_cases h : l = []
  ·subst h; simp [D.l85, D.c85, go_sem, e1, e2, e3, xz, clN]
  ·have h' : ¬ zy l = [] := fun e => h (List.map_eq_nil_iff.1 e)
   simp [h', D.l85, D.c85, go_sem, e1, e2, e3, h, hl, clN]
 ·simp [D.l85, D.c85, go_sem, e1, e2, e3, xz, clN]
set_option maxHeartbeats 4000000 in
theorem beq_eq (b1 b2 : Bool) (n1 n2 : Nat) (l1 l2 : List UInt8) (h1 : Wb b1 n1 l1) (h2 : Wb b2 n2 l2) : zq D.W 68 [.vs b1 .sh n1 (zy l1), .vs b2 .sh n2 (zy l2)] [] = some (.bool (l1 == l2), none) := by
 have e1 := zx l1
 have e2 := zx l2
 have e3 := yq l1
 have e4 := yq l2
 rw [yF fn68]
 rcases h1 with ⟨rfl, rfl⟩ | ⟨rfl, rfl⟩ <;> rcases h2 with ⟨rfl, rfl⟩ | ⟨rfl, rfl⟩
 all_goals simp [D.l68, D.c68, go_sem, e1, e2, e3, e4, xz, wX]
set_option maxHeartbeats 4000000 in
theorem nM (b : Bool) (m : Nat) (l : List UInt8) (hm : Wb b m l) (hl : l.length ≤ xl) (a n : Nat) (han : a + n ≤ l.length) :
 zq D.W 55 [.vs b .sh m (zy l), .int .i64 a, .int .i64 n] [] = some (.tup [.vs b .sh (clN b) (zy ((l.take (a + n)).drop a)), .bool true], none) := by
 have hmb : l.length ≤ 140737488355328 := hl
 have e6 := ze l
 have e2 := zx l
 have e1 : ¬ (a : Int) < 0 := by omega
 have e3 : ¬ (n : Int) < 0 := by omega
 have e4 : ¬ (l.length : Int) < (a : Int) := by omega
 have e5 : IntKind.i64.wrap ((l.length : Int) - a) = (l.length : Int) - a := vG (by omega) (by omega)
 have e7 : ¬ (l.length : Int) - a < (n : Int) := by omega
 have e8 : IntKind.i64.wrap ((a : Int) + n) = (a : Int) + n := vG (by omega) (by omega)
 have e9 : 0 ≤ (a : Int) + n ∧ (a : Int) + n ≤ (l.length : Int) := by omega
 have e9' : ((a : Int) + n).toNat = a + n := by omega
 have e10 : (a : Int) ≤ (a : Int) + n := by omega
 have e12 : ((zy l).take (a + n)).drop a = zy ((l.take (a + n)).drop a) := by rw [wD, xK]
 have k := clone_eq b m ((l.take (a + n)).drop a) (hm.sub _ _) (by simp; omega)
 have e13 := zx ((l.take (a + n)).drop a)
 have hw1 : m = 1 ∨ b = true := by rcases hm with ⟨_, h⟩ | ⟨h, _⟩; exact .inl h; exact .inr h
 refine Ret.eq ?_
 have F := an e1 (an e2 (an e3 (an e4 (an e5 (an e6 (an e7 (an e8 (an e9 (an e9' (an e10 (an e12 (an e13 (an k hw1)))))))))))))
 refine Ret.of wk ?_
 exact ⟨rfl, rfl⟩
set_option maxHeartbeats 4000000 in
theorem kq (b : Bool) (m : Nat) (l : List UInt8) (hl : l.length ≤ xl) (a n : Nat) (han : l.length < a + n) (ha : a ≤ xl) (hn : n ≤ xl) :
 zq D.W 55 [.vs b .sh m (zy l), .int .i64 a, .int .i64 n] [] = some (.tup [.vs true .sh 0 [], .bool false], none) := by
 have hmb : l.length ≤ 140737488355328 := hl
 have hma : a ≤ 140737488355328 := ha
 have e6 := ze l
 have e2 := zx l
 have e1 : ¬ (a : Int) < 0 := by omega
 have e3 : ¬ (n : Int) < 0 := by omega
 refine Ret.eq ?_
 by_cases h : (l.length : Int) < a
 ·have F := an e1 (an e2 (an e3 (an e6 h)))
  refine Ret.of wk ?_
  exact ⟨rfl, rfl⟩
 ·have e5 : IntKind.i64.wrap ((l.length : Int) - a) = (l.length : Int) - a := vG (by omega) (by omega)
  have e7 : (l.length : Int) - a < (n : Int) := by omega
  have F := an e1 (an e2 (an e3 (an e6 (an h (an e5 e7)))))
  refine Ret.of wk ?_
  all_goals exact ⟨rfl, rfl⟩
set_option maxHeartbeats 4000000 in
theorem behind_eq (b : Bool) (m : Nat) (l : List UInt8) (hm : Wb b m l) (hl : l.length ≤ xl) (a : Nat) (ha : a ≤ l.length) :
 zq D.W 81 [.vs b .sh m (zy l), .int .i64 a] [] = some (.vs b .sh (clN b) (zy (l.drop a)), none) := by
 have hmb : l.length ≤ 140737488355328 := hl
 have e6 := ze l
 have e2 := zx l
 have e1 : ¬ (a : Int) < 0 := by omega
 have e4 : ¬ (l.length : Int) < (a : Int) := by omega
 have e5 : (a : Int) ≤ (l.length : Int) := by omega
 have e12 : (List.take l.length (zy l)).drop a = zy (l.drop a) := by rw [wD, xK, List.take_length]
 have e14 : (zy l).drop a = zy (l.drop a) := xK l a
 have hs : Wb b m (l.drop a) := by have := hm.sub l.length a; rwa [List.take_length] at this
 have k := clone_eq b m (l.drop a) hs (by simp; omega)
 have e13 := zx (l.drop a)
 have hw1 : m = 1 ∨ b = true := by rcases hm with ⟨_, h⟩ | ⟨h, _⟩; exact .inl h; exact .inr h
 rw [yF fn81]
 by_cases h0 : (a : Int) = 0
 ·have : a = 0 := by omega
  subst this
  simp only [List.drop_zero] at *
  have e7 : ¬ (l.length : Int) < 0 := by omega
  have e8 : List.take l.length (zy l) = zy l := by rw [wD, List.take_length]
  simp [D.l81, D.c81, go_sem, mmL, sN, e2, e6, e7, e8, k, hw1]
 ·have e7 : 0 < a := by omega
  simp [D.l81, D.c81, go_sem, mmL, sN, e1, e2, e4, e5, e6, e7, e12, e13, e14, k, hw1]
set_option maxHeartbeats 4000000 in
theorem loop80 (b : Bool) (m : Nat) (l : List UInt8) (hm : Wb b m l) (hl : l.length ≤ 8) : ∀ (j i : Nat) (z n : Int) (v2 v3 v5 v6 v7 v10 v11 : LVal), v2.zr = false → v3.zr = false → v5.zr = false → v6.zr = false → v7.zr = false → v10.zr = false → v11.zr = false → z = i → i + j = l.length →
 ∃ (n' : Int) (w : Nat → LVal), (w 2).zr = false ∧ (w 3).zr = false ∧ xE D.W (.loop D.b80_0) { vars := [.vs b .sh m (zy l), .bool true, v2, v3, .int .u64 n, v5, v6, v7, .int .i64 l.length, .int .i64 z, v10, v11], st := [], rs := [] } =
  some (.exit 0, { vars := [.vs b .sh m (zy l), .bool true, w 2, w 3, .int .u64 n', w 5, w 6, w 7, w 8, w 9, w 10, w 11], st := [], rs := [] })
 | 0, i, z, n, v2, v3, v5, v6, v7, v10, v11, o2, o3, o5, o6, o7, o10, o11, hz, hij => by
  subst hz
  have hi : i = l.length := by omega
  subst hi
  refine ⟨n, fun j => [.undef, .undef, v2, v3, .undef, v5, v6, v7, .int .i64 l.length, .int .i64 l.length, .bool false, v11].getD j .undef, o2, o3, ?_⟩
  rw [wY]
  simp [D.b80_0, go_sem, o10]
 | j + 1, i, z, n, v2, v3, v5, v6, v7, v10, v11, o2, o3, o5, o6, o7, o10, o11, hz, hij => by
  subst hz
  have hi : i < l.length := by omega
  rcases hm with ⟨rfl, rfl⟩ | ⟨rfl, rfl⟩
  case inr => simp at hi
  have e1 : (i : Int) < (l.length : Int) := by omega
  have e0 : 0 ≤ (i : Int) ∧ (i : Int) < (l.length : Int) := by omega
  have e3 : IntKind.i64.wrap ((i : Int) + 1) = (i : Int) + 1 := vG (by omega) (by omega)
  have e4 : IntKind.i64.wrap ((l.length : Int) - 1) = (l.length : Int) - 1 := vG (by omega) (by omega)
  have e5 : IntKind.i64.wrap ((l.length : Int) - 1 - i) = ((l.length - 1 - i : Nat) : Int) := by rw [vG (by omega) (by omega)]; omega
  have e6 := ze l
  have e7 : (zy l)[i]? = some (sd l[i]) := by rw [vB, List.getElem?_eq_getElem hi]; rfl
  have e8 : (zy l)[l.length - 1 - i]? = some (sd (l[l.length - 1 - i]'(by omega))) := by rw [vB, List.getElem?_eq_getElem (by omega)]; rfl
  have e9 : 0 ≤ ((l.length - 1 - i : Nat) : Int) ∧ ((l.length - 1 - i : Nat) : Int) < (l.length : Int) := by omega
  have e10 := fun k => zG k l
  simp only [sd] at e7 e8
  have ih := fun n => loop80 false 1 l (.inl ⟨rfl, rfl⟩) hl j (i + 1) ((i : Int) + 1) n .undef .undef .undef .undef .undef .undef .undef rfl rfl rfl rfl rfl rfl rfl (by omega) (by omega)
  rw [wY]
  generalize hK : wB (xE D.W (.loop D.b80_0)) = K
  simp [D.b80_0, go_sem, sn, o2, o3, o5, o6, o7, o10, o11, e0, e1, e3, e4, e5, e6, e7, e8, e9, e10]
  subst hK
  exact ih _
set_option maxHeartbeats 4000000 in
theorem lY (b : Bool) (m : Nat) (l : List UInt8) (hm : Wb b m l) (hb : l.length ≤ xl) : ∃ n : Int, zq D.W 80 [.vs b .sh m (zy l), .bool true] [] = some (.tup [.int .u64 n, .bool (decide (1 ≤ l.length ∧ l.length ≤ 8))], none) := by
 have e6 := ze l
 have e2 := zx l
 have e10 := fun k => zG k l
 rw [yF fn80]
 by_cases h1 : (l.length : Int) < 1
 ·refine ⟨0, ?_⟩
  rw [decide_eq_false (by omega)]
  simp [D.l80, D.c80, go_sem, e6, e2, h1]
 ·by_cases h2 : (8 : Int) < l.length
  ·refine ⟨0, ?_⟩
   rw [decide_eq_false (by omega)]
   simp [D.l80, D.c80, go_sem, e6, e2, h1, h2]
  ·rw [decide_eq_true (by omega)]
   obtain ⟨n', w, p2, p3, c1⟩ := loop80 b m l hm (by omega) l.length 0 0 0 (.int .u64 0) (.bool false) .undef .undef (.bool false) .undef .undef rfl rfl rfl rfl rfl rfl rfl rfl (by omega)
   refine ⟨n', ?_⟩
   simp [D.l80, D.c80, go_sem, e6, e2, e10, h1, h2, c1, p2, p3]
end Go.Proofs.YtpfnlpakcldobaaGreat
namespace Go.Proofs.YtpfnlpakcldobaaGreat
open Go Go.L
structure zE where
 code : Int
 id : Int
 nil : Bool
 m : Nat
 data : List UInt8
def zE.cells (p : zE) : List LVal := [.int .i64 p.code, .int .i64 p.id, .vs p.nil .sh p.m (zy p.data)]
def zE.wf (p : zE) (n : Nat) : Prop := 0 ≤ p.code ∧ p.code ≤ 255 ∧ 0 ≤ p.id ∧ p.id ≤ 255 ∧ Wb p.nil p.m p.data ∧ p.data.length ≤ n
def zE.zero : zE := ⟨0, 0, true, 0, []⟩
theorem zE.rV (n : Nat) : zE.zero.wf n := ⟨by decide, by decide, by decide, by decide, Wb.nil, Nat.zero_le _⟩
theorem oa (b : UInt8) : IntKind.i64.wrap (b.toNat : Int) = (b.toNat : Int) := vG (by omega) (by have := b.toNat_lt; omega)
theorem tg (n : Int) : ∃ b : UInt8, IntKind.u8.wrap n = (b.toNat : Int) := by
 refine ⟨UInt8.ofNat (IntKind.u8.wrap n).toNat, ?_⟩
 rw [IntKind.wrap_u8']
 have h1 : 0 ≤ n % 256 := Int.emod_nonneg _ (by omega)
 have h2 : n % 256 < 256 := Int.emod_lt_of_pos _ (by omega)
 have h3 : (n % 256).toNat < 256 := by omega
 rw [show (UInt8.ofNat (n % 256).toNat).toNat = (n % 256).toNat % 256 by simp [UInt8.toNat_ofNat'], Nat.mod_eq_of_lt h3]
 omega
theorem mn8 : min 8 IntKind.i64.bits = 8 := rfl
theorem or16 (a b : UInt8) : ∃ n : Nat, n < 65536 ∧ n = 256 * a.toNat + b.toNat ∧ IntKind.i64.wrap (((((a.toNat : Int) * 256) % 2 ^ IntKind.i64.bits).toNat ||| ((b.toNat : Int) % 2 ^ IntKind.i64.bits).toNat : Nat) : Int) = (n : Int) := by
 have ha := a.toNat_lt
 have hb := b.toNat_lt
 have h1 : (((a.toNat : Int) * 256) % 2 ^ IntKind.i64.bits).toNat = a.toNat * 256 := by
  rw [show (2 ^ IntKind.i64.bits : Int) = 18446744073709551616 from rfl]; omega
 have h2 : ((b.toNat : Int) % 2 ^ IntKind.i64.bits).toNat = b.toNat := by
  rw [show (2 ^ IntKind.i64.bits : Int) = 18446744073709551616 from rfl]; omega
 have h3 : a.toNat * 256 ||| b.toNat < 2 ^ 16 := Nat.or_lt_two_pow (by omega) (by omega)
 have h4 : a.toNat * 256 ||| b.toNat = 256 * a.toNat + b.toNat := by
  have := Nat.two_pow_add_eq_or_of_lt (i := 8) (b := b.toNat) hb a.toNat
  rw [Nat.mul_comm a.toNat 256]
  exact this.symm
 refine ⟨a.toNat * 256 ||| b.toNat, by simpa using h3, h4, ?_⟩
 rw [h1, h2]
 exact vG (by omega) (by omega)
theorem or16b (a b n : Nat) (ha : a < 256) (hb : b < 256) (hn : n = 256 * a + b) : IntKind.i64.wrap (((BitVec.ofInt 64 ((a : Int) * 256) ||| BitVec.ofNat 64 b).toNat : Nat) : Int) = (n : Int) := by
 have h1 : (BitVec.ofInt 64 ((a : Int) * 256) ||| BitVec.ofNat 64 b).toNat = a * 256 ||| b := by
  have : BitVec.ofInt 64 ((a : Int) * 256) = BitVec.ofNat 64 (a * 256) := by
   rw [show ((a : Int) * 256) = ((a * 256 : Nat) : Int) by omega, BitVec.ofInt_natCast]
  rw [this, BitVec.toNat_or, BitVec.toNat_ofNat, BitVec.toNat_ofNat, Nat.mod_eq_of_lt (by omega), Nat.mod_eq_of_lt (by omega)]
 have h4 : a * 256 ||| b = 256 * a + b := by
  have := Nat.two_pow_add_eq_or_of_lt (i := 8) (b := b) hb a
  rw [Nat.mul_comm a 256]
  exact this.symm
 rw [h1, h4, ← hn]
 exact vG (by omega) (by omega)
theorem or16c (a b n : Nat) (ha : a < 256) (hb : b < 256) (hn : n = 256 * a + b) : IntKind.i64.wrap (((@HOr.hOr (BitVec 64) (BitVec 64) (BitVec 64) (@instHOrOfOrOp (BitVec IntKind.i64.bits) (@BitVec.instOrOp IntKind.i64.bits)) (BitVec.ofInt 64 ((a : Int) * 256)) (BitVec.ofNat 64 b)).toNat : Nat) : Int) = (n : Int) := or16b a b n ha hb hn
def pd (l : List UInt8) (p : zE) : Prop := 4 ≤ l.length ∧ p.code = ((l.getD 0 0).toNat : Int) ∧ 4 ≤ 256 * (l.getD 2 0).toNat + (l.getD 3 0).toNat ∧ 256 * (l.getD 2 0).toNat + (l.getD 3 0).toNat ≤ l.length
theorem sj {l : List UInt8} {i : Nat} (h : i < l.length) : l.getD i 0 = l[i] := by simp [List.getD, h]
set_option maxHeartbeats 4000000 in
theorem get47 (b : Bool) (m : Nat) (l : List UInt8) (hm : Wb b m l) (hl : l.length ≤ 70000) :
 ∃ p e, zq D.W 47 [.vs b .sh m (zy l)] [] = some (.tup [.agg (zE.cells p), .int .i64 e], none) ∧ p.wf l.length ∧ 0 ≤ e ∧ e ≤ 7 ∧ (e = 0 → pd l p) := by
 have e6 := ze l
 have e2 := zx l
 suffices h : Ret D.W 47 [.vs b .sh m (zy l)] [] (fun v o => o = none ∧ ∃ p e, v = .tup [.agg (zE.cells p), .int .i64 e] ∧ p.wf l.length ∧ 0 ≤ e ∧ e ≤ 7 ∧ (e = 0 → pd l p)) by
  obtain ⟨v, k, p, e, rfl, h⟩ := h.ex
  exact ⟨p, e, k, h⟩
 by_cases h4 : (l.length : Int) < 4
 ·have F := an e6 h4
  refine Ret.of wk ?_
  exact ⟨rfl, zE.zero, 2, rfl, zE.rV _, by decide, by decide, fun e => absurd e (by decide)⟩
 ·obtain ⟨rfl, rfl⟩ := hm.ne (fun e => by subst e; simp at h4)
  have g : ∀ i : Nat, i < 4 → (zy l)[i]? = some (.int .u8 (((l.getD i 0).toNat : Nat) : Int)) := fun i hi => by
   rw [vB, List.getElem?_eq_getElem (by omega), sj (by omega)]; rfl
  have g0 := g 0 (by omega)
  have g1 := g 1 (by omega)
  have g2 := g 2 (by omega)
  have g3 := g 3 (by omega)
  have g0' : ∀ h, (zy l)[0]'h = .int .u8 (((l.getD 0 0).toNat : Nat) : Int) := fun h => by have := List.getElem?_eq_getElem h; rw [g0] at this; exact (Option.some.inj this).symm
  have gl : ∀ i : Nat, i < 4 → i < l.length := fun i hi => by omega
  have q0 : 0 < l.length := by omega
  have q1 : (1 : Int) < l.length := by omega
  have q2 : (2 : Int) < l.length := by omega
  have q3 : (3 : Int) < l.length := by omega
  have w2 : IntKind.i64.wrap ((((l.getD 2 0).toNat : Nat) : Int) * 256) = (((l.getD 2 0).toNat : Nat) : Int) * 256 := by
   have := (l.getD 2 0).toNat_lt
   exact vG (by omega) (by omega)
  obtain ⟨n, hn, hnn, wo⟩ := or16 (l.getD 2 0) (l.getD 3 0)
  have wo2 := or16c _ _ n (l.getD 2 0).toNat_lt (l.getD 3 0).toNat_lt hnn
  have t0 := oa (l.getD 0 0)
  have t1 := oa (l.getD 1 0)
  have t2 := oa (l.getD 2 0)
  have t3 := oa (l.getD 3 0)
  have hb0 := (l.getD 0 0).toNat_lt
  have hb1 := (l.getD 1 0).toNat_lt
  have hg : ∀ p : zE, p.code = ((l.getD 0 0).toNat : Int) → 4 ≤ n → n ≤ l.length → pd l p := fun p hp h4 h5 => ⟨by omega, hp, by omega, by omega⟩
  generalize ((l.getD 0 0).toNat : Nat) = b0 at *
  generalize ((l.getD 1 0).toNat : Nat) = b1 at *
  generalize ((l.getD 2 0).toNat : Nat) = b2 at *
  generalize ((l.getD 3 0).toNat : Nat) = b3 at *
  by_cases hn4 : (n : Int) < 4
  ·have F := an e6 (an h4 (an g2 (an g3 (an q2 (an q3 (an mn8 (an w2 (an wo (an wo2 (an t2 (an t3 hn4)))))))))))
   refine Ret.of wk ?_
   exact ⟨rfl, zE.zero, 3, rfl, zE.rV _, by decide, by decide, fun e => absurd e (by decide)⟩
  ·have ws : IntKind.i64.wrap ((n : Int) - 4) = ((n - 4 : Nat) : Int) := by rw [vG (by omega) (by omega)]; omega
   by_cases hc : 4 + (n - 4) ≤ l.length
   ·have k : zq D.W 55 [.vs false .sh 1 (zy l), .int .i64 4, .int .i64 ((n - 4 : Nat) : Int)] [] = _ := nM false 1 l hm (by rw [mb']; omega) 4 (n - 4) hc
    have F := an e6 (an e2 (an h4 (an g0 (an g0' (an g1 (an g2 (an g3 (an q0 (an q1 (an q2 (an q3 (an mn8 (an w2 (an wo (an wo2 (an t0 (an t1 (an t2 (an t3 (an hn4 (an ws k)))))))))))))))))))))
    refine Ret.of wk ?_
    exact ⟨rfl, ⟨b0, b1, false, clN false, _⟩, 0, rfl, ⟨by show (0 : Int) ≤ b0; omega, by show (b0 : Int) ≤ 255; omega, by show (0 : Int) ≤ b1; omega, by show (b1 : Int) ≤ 255; omega, hm.cl.sub _ _, by simp; omega⟩, by decide, by decide, fun _ => hg _ rfl (by omega) (by omega)⟩
   ·have k : zq D.W 55 [.vs false .sh 1 (zy l), .int .i64 4, .int .i64 ((n - 4 : Nat) : Int)] [] = _ := kq false 1 l (by rw [mb']; omega) 4 (n - 4) (by omega) (by rw [mb']; omega) (by rw [mb']; omega)
    have F := an e6 (an e2 (an h4 (an g0 (an g0' (an g1 (an g2 (an g3 (an q0 (an q1 (an q2 (an q3 (an mn8 (an w2 (an wo (an wo2 (an t0 (an t1 (an t2 (an t3 (an hn4 (an ws k)))))))))))))))))))))
    refine Ret.of wk ?_
    exact ⟨rfl, zE.zero, 2, rfl, zE.rV _, by decide, by decide, fun e => absurd e (by decide)⟩
set_option maxHeartbeats 4000000 in
theorem get18 (b : Bool) (m : Nat) (l : List UInt8) (hm : Wb b m l) (hl : l.length ≤ 70000) :
 ∃ p e, zq D.W 18 [.vs b .sh m (zy l)] [] = some (.tup [.agg (zE.cells p), .int .i64 e], none) ∧ p.wf l.length ∧ 0 ≤ e ∧ e ≤ 7 ∧ (e = 0 → pd l p) ∧ (∀ p', pd l p' → e = 0) := by
 have e6 := ze l
 have e2 := zx l
 suffices h : Ret D.W 18 [.vs b .sh m (zy l)] [] (fun v o => o = none ∧ ∃ p e, v = .tup [.agg (zE.cells p), .int .i64 e] ∧ p.wf l.length ∧ 0 ≤ e ∧ e ≤ 7 ∧ (e = 0 → pd l p) ∧ (∀ p', pd l p' → e = 0)) by
  obtain ⟨v, k, p, e, rfl, h⟩ := h.ex
  exact ⟨p, e, k, h⟩
 by_cases h4 : (l.length : Int) < 4
 ·have F := an e6 h4
  refine Ret.of wk ?_
  exact ⟨rfl, zE.zero, 2, rfl, zE.rV _, by decide, by decide, fun e => absurd e (by decide), fun p hp => absurd hp.1 (by omega)⟩
 ·obtain ⟨rfl, rfl⟩ := hm.ne (fun e => by subst e; simp at h4)
  have g : ∀ i : Nat, i < 4 → (zy l)[i]? = some (.int .u8 (((l.getD i 0).toNat : Nat) : Int)) := fun i hi => by
   rw [vB, List.getElem?_eq_getElem (by omega), sj (by omega)]; rfl
  have g0 := g 0 (by omega)
  have g1 := g 1 (by omega)
  have g2 := g 2 (by omega)
  have g3 := g 3 (by omega)
  have g0' : ∀ h, (zy l)[0]'h = .int .u8 (((l.getD 0 0).toNat : Nat) : Int) := fun h => by have := List.getElem?_eq_getElem h; rw [g0] at this; exact (Option.some.inj this).symm
  have q0 : 0 < l.length := by omega
  have q1 : (1 : Int) < l.length := by omega
  have q2 : (2 : Int) < l.length := by omega
  have q3 : (3 : Int) < l.length := by omega
  have w2 : IntKind.i64.wrap (256 * (((l.getD 2 0).toNat : Nat) : Int)) = 256 * (((l.getD 2 0).toNat : Nat) : Int) := by
   have := (l.getD 2 0).toNat_lt
   exact vG (by omega) (by omega)
  obtain ⟨n, hn, hnn, wo⟩ : ∃ n : Nat, n < 65536 ∧ n = 256 * (l.getD 2 0).toNat + (l.getD 3 0).toNat ∧ IntKind.i64.wrap (256 * (((l.getD 2 0).toNat : Nat) : Int) + (((l.getD 3 0).toNat : Nat) : Int)) = (n : Int) := by
   have h1 := (l.getD 2 0).toNat_lt
   have h2 := (l.getD 3 0).toNat_lt
   exact ⟨256 * (l.getD 2 0).toNat + (l.getD 3 0).toNat, by omega, rfl, by rw [vG (by omega) (by omega)]; omega⟩
  have t0 := oa (l.getD 0 0)
  have t1 := oa (l.getD 1 0)
  have t2 := oa (l.getD 2 0)
  have t3 := oa (l.getD 3 0)
  have hb0 := (l.getD 0 0).toNat_lt
  have hb1 := (l.getD 1 0).toNat_lt
  have hg : ∀ p : zE, p.code = ((l.getD 0 0).toNat : Int) → 4 ≤ n → n ≤ l.length → pd l p := fun p hp h4 h5 => ⟨by omega, hp, by omega, by omega⟩
  have hno : ∀ p : zE, pd l p → 4 ≤ n ∧ n ≤ l.length := fun p hp => ⟨by have := hp.2.2.1; omega, by have := hp.2.2.2; omega⟩
  generalize ((l.getD 0 0).toNat : Nat) = b0 at *
  generalize ((l.getD 1 0).toNat : Nat) = b1 at *
  generalize ((l.getD 2 0).toNat : Nat) = b2 at *
  generalize ((l.getD 3 0).toNat : Nat) = b3 at *
  by_cases hn4 : (n : Int) < 4
  ·have F := an e6 (an h4 (an g2 (an g3 (an q2 (an q3 (an w2 (an wo (an t2 (an t3 hn4)))))))))
   refine Ret.of wk ?_
   exact ⟨rfl, zE.zero, 3, rfl, zE.rV _, by decide, by decide, fun e => absurd e (by decide), fun p hp => absurd (hno p hp) (by omega)⟩
  ·by_cases hc : (l.length : Int) < n
   ·have F := an e6 (an e2 (an h4 (an g0 (an g0' (an g1 (an g2 (an g3 (an q0 (an q1 (an q2 (an q3 (an w2 (an wo (an t0 (an t1 (an t2 (an t3 (an hn4 hc))))))))))))))))))
    refine Ret.of wk ?_
    exact ⟨rfl, zE.zero, 2, rfl, zE.rV _, by decide, by decide, fun e => absurd e (by decide), fun p hp => absurd (hno p hp) (by omega)⟩
   ·have c1 : 0 ≤ (n : Int) ∧ (n : Int) ≤ (l.length : Int) := by omega
    have c2 : (4 : Int) ≤ n := by omega
    have c4 : n ≤ l.length := by omega
    have c3 : ((zy l).take n).drop 4 = zy ((l.take n).drop 4) := by rw [wD, xK]
    have c6 : min n l.length - 4 ≤ 140737488355328 := by omega
    by_cases hne : (l.take n).drop 4 = []
    ·have F := an e6 (an e2 (an h4 (an g0 (an g0' (an g1 (an g2 (an g3 (an q0 (an q1 (an q2 (an q3 (an w2 (an wo (an t0 (an t1 (an t2 (an t3 (an hn4 (an hc (an c1 (an c2 (an c3 (an hne xz)))))))))))))))))))))))
     refine Ret.of wk ?_
     exact ⟨rfl, ⟨b0, b1, true, 0, []⟩, 0, rfl, ⟨by show (0 : Int) ≤ b0; omega, by show (b0 : Int) ≤ 255; omega, by show (0 : Int) ≤ b1; omega, by show (b1 : Int) ≤ 255; omega, Wb.nil, Nat.zero_le _⟩, by decide, by decide, fun _ => hg _ rfl (by omega) (by omega), fun _ _ => rfl⟩
    ·have hne' : ¬ zy ((l.take n).drop 4) = [] := fun e => hne (List.map_eq_nil_iff.1 e)
     have c5 : (zy ((l.take n).drop 4)).length ≤ 140737488355328 := by rw [ze]; simp; omega
     have F := an e6 (an e2 (an h4 (an g0 (an g0' (an g1 (an g2 (an g3 (an q0 (an q1 (an q2 (an q3 (an w2 (an wo (an t0 (an t1 (an t2 (an t3 (an hn4 (an hc (an c1 (an c2 (an c3 (an hne' (an c5 (an c6 mb')))))))))))))))))))))))))
     refine Ret.of wk ?_
     exact ⟨rfl, ⟨b0, b1, false, 1, (l.take n).drop 4⟩, 0, rfl, ⟨by show (0 : Int) ≤ b0; omega, by show (b0 : Int) ≤ 255; omega, by show (0 : Int) ≤ b1; omega, by show (b1 : Int) ≤ 255; omega, Wb.one, by simp; omega⟩, by decide, by decide, fun _ => hg _ rfl (by omega) (by omega), fun _ _ => rfl⟩
end Go.Proofs.YtpfnlpakcldobaaGreat
