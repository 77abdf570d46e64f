/- Texts of the proof: RF7 RE1 RG1. -/
import Derived.Test.YtpfnlpakcldobaaGreatARF6
import Derived.Test.YtpfnlpakcldobaaGreatARC
import Derived.Test.YtpfnlpakcldobaaGreatARF4
import Derived.Test.YtpfnlpakcldobaaGreatARM
set_option linter.unusedVariables false
set_option linter.unusedSimpArgs false
set_option linter.unusedSectionVars false
namespace Go.Proofs.YtpfnlpakcldobaaGreat
open Go Go.L
attribute [local go_sem] nb
theorem fn59 : D.W.fns 59 = some (.fn D.l59) := rfl
def sY (o : zt) : Prop := ∀ n, zt.within n o = true
set_option maxHeartbeats 8000000 in
theorem loop72 (A B C : zt) (hA : sY A) (hB : sY B) (hC : sY C) (b : Bool) (m : Nat) (cs : List wI) (hcs : ∀ o ∈ cs, o.ok) (hm : cs ≠ [] → m = 2) (hl : cs.length ≤ 100000) (Q : yS → RS → Prop)
 (hE : ∀ v0 v1 (l : List (Int × Int)) w, Q (.exit 0) ⟨[v0, v1, .map 3, .undef, .undef, .undef, .undef, .vs b .sh m (yz cs), .int .i64 cs.length, .int .i64 cs.length, w, .undef], [A, B, C, .map (kvL (.int .i64) l)], []⟩) :
 ∀ (j i : Nat) (v0 v1 : LVal) (l : List (Int × Int)), i + j = cs.length → v0.zr = false → v1.zr = false →
  Wp D.W (.loop D.b72_0) ⟨[v0, v1, .map 3, .undef, .undef, .undef, .undef, .vs b .sh m (yz cs), .int .i64 cs.length, .int .i64 i, .undef, .undef], [A, B, C, .map (kvL (.int .i64) l)], []⟩ Q
 | 0, i, v0, v1, l, hij, o0, o1 => by
  have : i = cs.length := by omega
  subst this
  apply xi
  have F := an o0 o1
  refine Wp.to wp1 ?_; first | apply za.n | apply za.e | apply za.r
  exact hE _ _ _ _
 | j + 1, i, v0, v1, l, hij, o0, o1 => by
  have hi : i < cs.length := by omega
  have hm2 := hm (fun e => by subst e; simp at hi)
  subst hm2
  have e1 : (i : Int) < cs.length := by omega
  have e0 : 0 ≤ (i : Int) ∧ (i : Int) < cs.length := by omega
  have e3 : IntKind.i64.wrap ((i : Int) + 1) = (i : Int) + 1 := vG (by omega) (by omega)
  have e4 := xZ cs
  have e5 : (yz cs)[i]? = some (.agg [.int .i64 cs[i].t, .vs cs[i].nil .sh cs[i].m (zy cs[i].data)]) := by rw [sk, List.getElem?_eq_getElem hi]; rfl
  have e5' : ∀ h, (yz cs)[i]'h = .agg [.int .i64 cs[i].t, .vs cs[i].nil .sh cs[i].m (zy cs[i].data)] := fun h => by have := List.getElem?_eq_getElem h; rw [e5] at this; exact (Option.some.inj this).symm
  have ih := fun l => loop72 A B C hA hB hC b 2 cs hcs hm hl Q hE j (i + 1) .undef .undef l (by omega) rfl rfl
  have ec : ((i + 1 : Nat) : Int) = (i : Int) + 1 := by omega
  simp only [ec] at ih
  obtain ⟨r, hr⟩ := pt (LVal.int .i64) cs[i].t l
  obtain ⟨l', hp⟩ := lR (LVal.int .i64) cs[i].t (i : Int) l
  have e7 := xy
  have e8 := fun n l => tH (LVal.int .i64) n l
  have e9 := fun n l => tG (LVal.int .i64) (fun _ => rfl) n l
  unfold sY at hA hB hC
  apply xi
  rcases r with _ | x
  ·simp only [Option.map_none] at hr
   have F := an o0 (an o1 (an e0 (an e1 (an e3 (an e4 (an e5 (an e5' (an e7 (an hr (an hp (an e8 (an e9 (an hA (an hB hC))))))))))))))
   refine Wp.to wp1 ?_; first | apply za.n | apply za.e | apply za.r
   exact ih _
  ·simp only [Option.map_some] at hr
   have F := an o0 (an o1 (an e0 (an e1 (an e3 (an e4 (an e5 (an e5' (an e7 (an hr (an hp (an e8 (an e9 (an hA (an hB hC))))))))))))))
   refine Wp.to wp1 ?_; first | apply za.n | apply za.e | apply za.r
   exact ih _
set_option maxHeartbeats 4000000 in
theorem places_ex (A B C : zt) (hA : sY A) (hB : sY B) (hC : sY C) (b : Bool) (m : Nat) (cs : List wI) (n : Nat) (h : rT b m cs n) (hn : n ≤ 100000) :
 ∃ l : List (Int × Int), zq D.W 72 [.vs b .sh m (yz cs)] [A, B, C] = some (.map 3, some [A, B, C, .map (kvL (.int .i64) l)]) := by
 suffices h : Ret D.W 72 [.vs b .sh m (yz cs)] [A, B, C] (fun v o => ∃ l : List (Int × Int), v = .map 3 ∧ o = some [A, B, C, .map (kvL (.int .i64) l)]) by
  obtain ⟨v, o, k, l, rfl, rfl⟩ := h
  exact ⟨l, k⟩
 have hm : cs ≠ [] → m = 2 := fun hne => (h.1.ne hne).2
 have e4 := xZ cs
 have e7 := xy
 have e8 := fun n l => tH (LVal.int .i64) n l
 have e9 := fun n l => tG (LVal.int .i64) (fun _ => rfl) n l
 refine yU fn72 rfl (fun h => by cases h) ?_
 simp only [Go.L.zc, List.map_cons, List.map_nil, Option.bind_some, Option.bind_none, Option.getD_some, Option.getD_none, List.getElem?_cons_zero, List.getElem?_cons_succ, zY.zH, if_true, Bool.false_eq_true, if_false, ite_self]
 unfold D.c72
 (have F := e4; refine gow ?_)
 refine loop72 A B C hA hB hC b m cs h.2.1 hm (by have := h.2.2; omega) _ ?_ cs.length 0 _ _ [] (by omega) rfl rfl
 unfold sY at hA hB hC
 intro v0 v1 l w
 (have F := an e7 (an e8 (an e9 (an hA (an hB hC)))); refine gow ?_)
 (have F : True := trivial; refine fnw ?_)
 exact ⟨_, rfl, rfl⟩
set_option maxHeartbeats 8000000 in
theorem cl75_ex (A B C E F G : zt) (hA : sY A) (hB : sY B) (hC : sY C) (hE : zt.within 7 E = true) (hF : zt.within 7 F = true) (hG : zt.within 7 G = true) (o x : wI) (ho : o.ok) (hx : x.ok) :
 ∃ q, zq D.W 75 [.agg x.cells, .ptr 6 0] [A, B, C, E, F, G, .cells 146 o.cells] = some (.bool q, some [A, B, C, E, F, G, .cells 146 o.cells]) := by
 suffices h : Ret D.W 75 [.agg x.cells, .ptr 6 0] [A, B, C, E, F, G, .cells 146 o.cells] (fun v r => ∃ q, v = .bool q ∧ r = some [A, B, C, E, F, G, .cells 146 o.cells]) by
  obtain ⟨v, o, k, q, rfl, rfl⟩ := h
  exact ⟨q, k⟩
 obtain ⟨q, k⟩ := same1_ex x o hx ho
 have e1 := zx x.data
 have e2 := zx o.data
 unfold wI.cells at *
 unfold sY at hA hB hC
 have F := an k (an e1 (an e2 (an hA (an hB (an hC (an hE (an hF hG)))))))
 refine Ret.of wk ?_
 exact ⟨_, rfl, rfl⟩
set_option maxHeartbeats 16000000 in
theorem cl74_ex (A B : zt) (hA : sY A) (hB : sY B) (b : Bool) (m : Nat) (cs : List wI) (n : Nat) (h : rT b m cs n) (hn : n ≤ 100000) (l : List (Int × Int)) (last : Int) (o : wI) (ho : o.ok) :
 ∃ q last', zq D.W 74 [.agg o.cells, .ptr 4 0, .ptr 2 0, .ptr 5 0] [A, B, .cells 116 [.vs b .sh m (yz cs)], .map (kvL (.int .i64) l), .cells 142 [.map 3], .cells 3 [.int .i64 last]] =
  some (.bool q, some [A, B, .cells 116 [.vs b .sh m (yz cs)], .map (kvL (.int .i64) l), .cells 142 [.map 3], .cells 3 [.int .i64 last']]) := by
 suffices h : Ret D.W 74 [.agg o.cells, .ptr 4 0, .ptr 2 0, .ptr 5 0] [A, B, .cells 116 [.vs b .sh m (yz cs)], .map (kvL (.int .i64) l), .cells 142 [.map 3], .cells 3 [.int .i64 last]]
  (fun v r => ∃ q last', v = .bool q ∧ r = some [A, B, .cells 116 [.vs b .sh m (yz cs)], .map (kvL (.int .i64) l), .cells 142 [.map 3], .cells 3 [.int .i64 last']]) by
  obtain ⟨v, o, k, q, last', rfl, rfl⟩ := h
  exact ⟨q, last', k⟩
 have e4 := xZ cs
 have e7 := xy
 have e8 := fun n l => tH (LVal.int .i64) n l
 have e9 := fun n l => tG (LVal.int .i64) (fun _ => rfl) n l
 have e2 := zx o.data
 have hm : cs ≠ [] → m = 2 := fun hne => (h.1.ne hne).2
 have hC : sY (.cells 116 [.vs b .sh m (yz cs)]) := fun _ => rfl
 have hD : ∀ n, zt.within n (.map (kvL (.int .i64) l)) = true := fun n => by
  simp only [zt.within, Bool.and_eq_true]
  exact ⟨e8 n l, e9 n l⟩
 obtain ⟨q0, st0, k0, rfl⟩ := oc 75 [.ptr 6 0] (fun st => st = [A, B, .cells 116 [.vs b .sh m (yz cs)], .map (kvL (.int .i64) l), .cells 142 [.map 3], .cells 3 [.int .i64 last], .cells 146 o.cells]) 7
  (fun st e => by subst e; exact ⟨rfl, by
   intro x hx
   simp only [List.mem_cons, List.mem_nil_iff, or_false] at hx
   rcases hx with rfl | rfl | rfl | rfl | rfl | rfl | rfl
   ·exact hA 7
   ·exact hB 7
   ·rfl
   ·exact hD 7
   ·rfl
   ·rfl
   ·rfl⟩) rfl b m cs (fun x hx st e => by
   subst e
   obtain ⟨q, k⟩ := cl75_ex A B _ _ (.cells 142 [.map 3]) (.cells 3 [.int .i64 last]) hA hB hC (hD 7) rfl rfl o x ho (h.2.1 x hx)
   exact ⟨q, _, k, rfl⟩) hm (by have := h.2.2; omega) _ rfl
 obtain ⟨r, hr⟩ := pt (LVal.int .i64) o.t l
 unfold wI.cells at *
 unfold sY at hA hB
 refine yU fn74 rfl (fun h => by cases h) ?_
 simp only [Go.L.zc, List.map_cons, List.map_nil, Option.bind_some, Option.bind_none, Option.getD_some, Option.getD_none, List.getElem?_cons_zero, List.getElem?_cons_succ, zY.zH, if_true, Bool.false_eq_true, if_false, ite_self]
 unfold D.c74
 rcases r with _ | x
 ·simp only [Option.map_none] at hr
  have F := an hr (an k0 (an e2 (an e4 (an e7 (an e8 (an e9 (an hA hB)))))))
  refine agw ?_ ?_ ?_ ?_ ?_ ?_ ?_ ?_
  all_goals first | exact ⟨_, _, rfl, rfl⟩ | exact trivial
 ·simp only [Option.map_some] at hr
  have F := an hr (an k0 (an e2 (an e4 (an e7 (an e8 (an e9 (an hA hB)))))))
  refine agw ?_ ?_ ?_ ?_ ?_ ?_ ?_ ?_
  all_goals first | exact ⟨_, _, rfl, rfl⟩ | exact trivial
set_option maxHeartbeats 16000000 in
theorem lM (a c : zE) (n : Nat) (ha : a.wf n) (hc : c.wd n) (hn : n ≤ 70000) : ∃ q : Bool, zq D.W 59 [.agg c.cells, .agg a.cells] [] = some (.bool q, none) ∧ (q = true → a.code = 3) := by
 suffices h : Ret D.W 59 [.agg c.cells, .agg a.cells] [] (fun v o => o = none ∧ ∃ q : Bool, v = .bool q ∧ (q = true → a.code = 3)) by
  obtain ⟨v, k, q, rfl, h⟩ := h.ex
  exact ⟨q, k, h⟩
 obtain ⟨b1, m1, o1, b2, m2, o2, q, k, ho1, ho2, hq⟩ := both_ex a c n ha hc hn 3
 obtain ⟨q2, k2⟩ := twice_ex b2 m2 o2 n ho2 (by omega)
 have hF1 : sY (.cells 57 c.cells) := fun _ => rfl
 have hF2 : sY (.cells 57 a.cells) := fun _ => rfl
 have hF3 : sY (.cells 116 [.vs b1 .sh m1 (yz o1)]) := fun _ => rfl
 obtain ⟨l, k3⟩ := places_ex _ _ _ hF1 hF2 hF3 b1 m1 o1 n ho1 (by omega)
 have e8 := fun n l => tH (LVal.int .i64) n l
 have e9 := fun n l => tG (LVal.int .i64) (fun _ => rfl) n l
 have hD : ∀ n, zt.within n (.map (kvL (.int .i64) l)) = true := fun n => by
  simp only [zt.within, Bool.and_eq_true]
  exact ⟨e8 n l, e9 n l⟩
 have hm : o2 ≠ [] → m2 = 2 := fun hne => (ho2.1.ne hne).2
 obtain ⟨q4, st4, k4, last', rfl⟩ := oc 74 [.ptr 4 0, .ptr 2 0, .ptr 5 0] (fun st => ∃ last, st = [.cells 57 c.cells, .cells 57 a.cells, .cells 116 [.vs b1 .sh m1 (yz o1)], .map (kvL (.int .i64) l), .cells 142 [.map 3], .cells 3 [.int .i64 last]]) 6
  (fun st e => by obtain ⟨last, rfl⟩ := e; exact ⟨rfl, by
   intro x hx
   simp only [List.mem_cons, List.mem_nil_iff, or_false] at hx
   rcases hx with rfl | rfl | rfl | rfl | rfl | rfl
   ·rfl
   ·rfl
   ·rfl
   ·exact hD 6
   ·rfl
   ·rfl⟩) rfl b2 m2 o2 (fun x hx st e => by
   obtain ⟨last, rfl⟩ := e
   obtain ⟨q, last', k⟩ := cl74_ex _ _ hF1 hF2 b1 m1 o1 n ho1 (by omega) l last x (ho2.2.1 x hx)
   exact ⟨q, _, k, last', rfl⟩) hm (by have := ho2.2.2; omega) _ ⟨-1, rfl⟩
 have e1 := zx a.data
 have e2 := zx c.data
 have e3 := xj o1
 have e4 := xj o2
 unfold zE.cells at *
 refine yU fn59 rfl (fun _ => ?_) ?_
 ·simp [LVal.pfs, LVal.pf, e1, e2]
 simp only [Go.L.zc, List.map_cons, List.map_nil, Option.bind_some, Option.bind_none, Option.getD_some, Option.getD_none, List.getElem?_cons_zero, List.getElem?_cons_succ, zY.zH, if_true, Bool.false_eq_true, if_false, ite_self]
 unfold D.c59
 cases q with
 | false =>
  have F := an k (an k2 (an e1 (an e2 (an e3 e4))))
  refine agw ?_ ?_ ?_ ?_ ?_ ?_ ?_ ?_
  all_goals first | exact ⟨rfl, _, rfl, fun e => by cases e⟩ | exact trivial
 | true =>
  cases q2 with
  | true =>
   have F := an k (an k2 (an e1 (an e2 (an e3 e4))))
   refine agw ?_ ?_ ?_ ?_ ?_ ?_ ?_ ?_
   all_goals first | exact ⟨rfl, _, rfl, fun e => by cases e⟩ | exact trivial
  | false =>
   have F := an k (an k2 (an k3 (an k4 (an e1 (an e2 (an e3 e4))))))
   refine agw ?_ ?_ ?_ ?_ ?_ ?_ ?_ ?_
   all_goals first | exact ⟨rfl, _, rfl, fun _ => hq rfl⟩ | exact trivial
end Go.Proofs.YtpfnlpakcldobaaGreat
namespace Go.Proofs.YtpfnlpakcldobaaGreat
open Go Go.L
set_option maxHeartbeats 4000000 in
theorem lr (p : zE) (n : Nat) (hp : p.wf n) (hn : n ≤ 70000) (k : Nat) (hk : k = 2 ∨ k = 4) : ∃ x b m r ok, zq D.W 63 [.agg p.cells, .int .i64 k] [] = some (.tup [.int .u64 x, .vs b .sh m (zy r), .bool ok], none) ∧ Wb b m r ∧ r.length ≤ p.data.length := by
 obtain ⟨_, _, _, _, hw, hl⟩ := hp
 have hm : p.data.length ≤ xl := by rw [mb']; omega
 suffices h : Ret D.W 63 [.agg p.cells, .int .i64 k] [] (fun v o => o = none ∧ ∃ x b m r ok, v = .tup [.int .u64 x, .vs b .sh m (zy r), .bool ok] ∧ Wb b m r ∧ r.length ≤ p.data.length) by
  obtain ⟨v, k, x, b, m, r, ok, rfl, h⟩ := h.ex
  exact ⟨x, b, m, r, ok, k, h⟩
 have e2 := zx p.data
 unfold zE.cells
 by_cases h : k ≤ p.data.length
 ·have k1 : zq D.W 55 [.vs p.nil .sh p.m (zy p.data), .int .i64 0, .int .i64 k] [] = _ := nM p.nil p.m p.data hw hm 0 k (by omega)
  obtain ⟨x, k2⟩ := lY p.nil (clN p.nil) ((p.data.take (0 + k)).drop 0) (hw.cl.sub _ _) (by simp; omega)
  have k3 := behind_eq p.nil p.m p.data hw hm k h
  simp only [Nat.zero_add, List.drop_zero] at k1 k2
  have e3 := zx (p.data.take k)
  have e4 := zx (p.data.drop k)
  generalize decide (1 ≤ (p.data.take k).length ∧ (p.data.take k).length ≤ 8) = q at *
  generalize hd : p.data.drop k = r at *
  have hr : r.length ≤ p.data.length := by rw [← hd]; simp
  have hwr : Wb p.nil (clN p.nil) r := by have := hw.cl.sub p.data.length k; rw [List.take_length, hd] at this; exact this
  have F := an k1 (an k2 (an k3 (an e2 (an e3 e4))))
  refine Ret.of wk ?_
  exact ⟨rfl, _, _, _, _, _, rfl, hwr, hr⟩
 ·have k1 : zq D.W 55 [.vs p.nil .sh p.m (zy p.data), .int .i64 0, .int .i64 k] [] = _ := kq p.nil p.m p.data hm 0 k (by omega) (Nat.zero_le _) (by rw [mb']; omega)
  have F := an k1 e2
  refine Ret.of wk ?_
  exact ⟨rfl, 0, true, 0, [], false, rfl, Wb.nil, Nat.zero_le _⟩
set_option maxHeartbeats 4000000 in
theorem ra (p : zE) (n : Nat) (hp : p.wf n) (hn : n ≤ 70000) : ∃ x b m r ok, zq D.W 50 [.agg p.cells] [] = some (.tup [.int .u32 x, .vs b .sh m (zy r), .bool ok], none) ∧ Wb b m r ∧ r.length ≤ p.data.length ∧ (ok = true → p.code = 9 ∨ p.code = 10 ∨ p.code = 11) := by
 obtain ⟨x, b, m, r, ok, k, hw, hr⟩ := lr p n hp hn 4 (.inr rfl)
 have k' : zq D.W 63 [.agg p.cells, .int .i64 4] [] = _ := k
 clear k
 have e2 := zx p.data
 have e3 := zx r
 unfold zE.cells at *
 suffices h : Ret D.W 50 [.agg p.cells] [] (fun v o => o = none ∧ ∃ x b m r ok, v = .tup [.int .u32 x, .vs b .sh m (zy r), .bool ok] ∧ Wb b m r ∧ r.length ≤ p.data.length ∧ (ok = true → p.code = 9 ∨ p.code = 10 ∨ p.code = 11)) by
  obtain ⟨v, k, x, b, m, r, ok, rfl, h⟩ := h.ex
  exact ⟨x, b, m, r, ok, k, h⟩
 unfold zE.cells
 by_cases h9 : p.code = 9
 ·rw [h9] at k'
  have F := an k' (an e2 (an e3 h9))
  refine Ret.of wk ?_
  exact ⟨rfl, _, _, _, _, _, rfl, hw, hr, fun _ => .inl h9⟩
 ·by_cases h10 : p.code = 10
  ·rw [h10] at k'
   have F := an k' (an e2 (an e3 h10))
   refine Ret.of wk ?_
   exact ⟨rfl, _, _, _, _, _, rfl, hw, hr, fun _ => .inr (.inl h10)⟩
  ·by_cases h11 : p.code = 11
   ·rw [h11] at k'
    have F := an k' (an e2 (an e3 h11))
    refine Ret.of wk ?_
    exact ⟨rfl, _, _, _, _, _, rfl, hw, hr, fun _ => .inr (.inr h11)⟩
   ·have F := an k' (an e2 (an e3 (an h9 (an h10 h11))))
    refine Ret.of wk ?_
    exact ⟨rfl, 0, true, 0, [], false, rfl, Wb.nil, Nat.zero_le _, fun e => by cases e⟩
set_option maxHeartbeats 4000000 in
theorem kY (p : zE) (n : Nat) (hp : p.wf n) (hn : n ≤ 70000) : ∃ x b m r ok, zq D.W 150 [.agg p.cells] [] = some (.tup [.int .i64 x, .vs b .sh m (zy r), .bool ok], none) ∧ Wb b m r := by
 obtain ⟨x, b, m, r, ok, k, hw, hr⟩ := lr p n hp hn 2 (.inl rfl)
 have k' : zq D.W 63 [.agg p.cells, .int .i64 2] [] = _ := k
 clear k
 have e2 := zx p.data
 have e3 := zx r
 unfold zE.cells at *
 suffices h : Ret D.W 150 [.agg p.cells] [] (fun v o => o = none ∧ ∃ x b m r ok, v = .tup [.int .i64 x, .vs b .sh m (zy r), .bool ok] ∧ Wb b m r) by
  obtain ⟨v, k, x, b, m, r, ok, rfl, h⟩ := h.ex
  exact ⟨x, b, m, r, ok, k, h⟩
 unfold zE.cells
 by_cases h8 : p.code = 8
 ·rw [h8] at k'
  have F := an k' (an e2 (an e3 h8))
  refine Ret.of wk ?_
  exact ⟨rfl, _, _, _, _, _, rfl, hw⟩
 ·have F := an k' (an e2 (an e3 h8))
  refine Ret.of wk ?_
  exact ⟨rfl, 0, true, 0, [], false, rfl, Wb.nil⟩
end Go.Proofs.YtpfnlpakcldobaaGreat
namespace Go.Proofs.YtpfnlpakcldobaaGreat
open Go Go.L
theorem fn154 : D.W.fns 154 = some (.fn D.l154) := rfl
theorem fn148 : D.W.fns 148 = some (.fn D.l148) := rfl
set_option maxHeartbeats 8000000 in
theorem loop154 (b : Bool) (m : Nat) (cs : List wI) (hcs : ∀ o ∈ cs, o.ok) (hm : cs ≠ [] → m = 2) (hl : cs.length ≤ 100000) (Q : yS → RS → Prop)
 (hE : ∀ v0 v1 w7, Q (.exit 0) ⟨[v0, v1, .undef, .vs b .sh m (yz cs), .int .i64 cs.length, .int .i64 cs.length, w7, .undef], [], []⟩)
 (hR : ∀ v0 n v2 v3 v4 v5 v6 v7 st, Q .ret ⟨[v0, .int .i64 n, v2, v3, v4, v5, v6, v7], st, []⟩) :
 ∀ (j i : Nat) (v0 v1 : LVal), i + j = cs.length → v0.zr = false → v1.zr = false →
  Wp D.W (.loop D.b154_0) ⟨[v0, v1, .undef, .vs b .sh m (yz cs), .int .i64 cs.length, .int .i64 i, .undef, .undef], [], []⟩ Q
 | 0, i, v0, v1, hij, o0, o1 => by
  have : i = cs.length := by omega
  subst this
  apply xi
  have F := an o0 o1
  refine Wp.to wp1 ?_; first | apply za.n | apply za.e | apply za.r
  exact hE _ _ _
 | j + 1, i, v0, v1, hij, o0, o1 => by
  have hi : i < cs.length := by omega
  have hm2 := hm (fun e => by subst e; simp at hi)
  subst hm2
  have e1 : (i : Int) < cs.length := by omega
  have e0 : 0 ≤ (i : Int) ∧ (i : Int) < cs.length := by omega
  have e3 : IntKind.i64.wrap ((i : Int) + 1) = (i : Int) + 1 := vG (by omega) (by omega)
  have e4 := xZ cs
  have e5 : (yz cs)[i]? = some (.agg [.int .i64 cs[i].t, .vs cs[i].nil .sh cs[i].m (zy cs[i].data)]) := by rw [sk, List.getElem?_eq_getElem hi]; rfl
  have e5' : ∀ h, (yz cs)[i]'h = .agg [.int .i64 cs[i].t, .vs cs[i].nil .sh cs[i].m (zy cs[i].data)] := fun h => by have := List.getElem?_eq_getElem h; rw [e5] at this; exact (Option.some.inj this).symm
  have ih := loop154 b 2 cs hcs hm hl Q hE hR j (i + 1) .undef .undef (by omega) rfl rfl
  have ec : ((i + 1 : Nat) : Int) = (i : Int) + 1 := by omega
  simp only [ec] at ih
  have hci : cs[i].ok := hcs _ (List.getElem_mem hi)
  obtain ⟨q, k⟩ := kW cs[i].t cs[i].nil cs[i].m cs[i].data hci.2.2.1 hci.2.2.2
  obtain ⟨n, k'⟩ := asked_ex cs[i].nil cs[i].m cs[i].data hci.2.2.1 (by have := hci.2.2.2; omega)
  have e7 := xy
  have e8 := zx cs[i].data
  apply xi
  by_cases h3 : cs[i].t = 3
  ·rw [h3] at k
   cases q with
   | true =>
    have F := an o0 (an o1 (an e0 (an e1 (an e3 (an e4 (an e5 (an e5' (an e7 (an e8 (an k (an k' h3)))))))))))
    refine Wp.to wp1 ?_; first | apply za.n | apply za.e | apply za.r
    exact hR _ _ _ _ _ _ _ _ _
   | false =>
    have F := an o0 (an o1 (an e0 (an e1 (an e3 (an e4 (an e5 (an e5' (an e7 (an e8 (an k (an k' h3)))))))))))
    refine Wp.to wp1 ?_; first | apply za.n | apply za.e | apply za.r
    exact ih
  ·have F := an o0 (an o1 (an e0 (an e1 (an e3 (an e4 (an e5 (an e5' (an e7 (an e8 (an k (an k' h3)))))))))))
   refine Wp.to wp1 ?_; first | apply za.n | apply za.e | apply za.r
   exact ih
set_option maxHeartbeats 4000000 in
theorem login_ex (b : Bool) (m : Nat) (cs : List wI) (n : Nat) (h : rT b m cs n) (hn : n ≤ 100000) : ∃ q : Int, zq D.W 154 [.vs b .sh m (yz cs)] [] = some (.int .i64 q, none) := by
 obtain ⟨hw, hc, hl⟩ := h
 have hm : cs ≠ [] → m = 2 := fun hne => by rcases hw with ⟨_, h⟩ | ⟨_, h⟩; exact h; exact absurd h hne
 suffices h : Ret D.W 154 [.vs b .sh m (yz cs)] [] (fun v o => o = none ∧ ∃ q : Int, v = .int .i64 q) by
  obtain ⟨v, k, q, rfl⟩ := h.ex
  exact ⟨q, k⟩
 have e1 := xj cs
 have e4 := xZ cs
 have e7 := xy
 refine yU fn154 rfl (fun _ => ?_) ?_
 ·simp [LVal.pfs, LVal.pf]
 simp only [Go.L.zc, List.map_cons, List.map_nil, Option.bind_some, Option.bind_none, Option.getD_some, Option.getD_none, List.getElem?_cons_zero, List.getElem?_cons_succ, zY.zH, if_true, Bool.false_eq_true, if_false, ite_self]
 unfold D.c154
 (have F := an e1 e4; refine gow ?_)
 refine loop154 b m cs hc hm (by omega) _ ?_ ?_ cs.length 0 _ _ (by omega) rfl rfl
 ·intro v0 v1 w7
  (have F := e7; refine gow ?_)
  (have F : True := trivial; refine fnw ?_)
  exact ⟨rfl, _, rfl⟩
 ·intro v0 n v2 v3 v4 v5 v6 v7 st
  (have F := e7; refine gow ?_)
  (have F : True := trivial; refine fnw ?_)
  exact ⟨rfl, _, rfl⟩
theorem oR (b : Bool) (m : Nat) (l : List UInt8) (hm : Wb b m l) (hl : l.length ≤ 70000) : ∃ n : Int, zq D.W 148 [.vs b .sh m (zy l)] [] = some (.int .i64 n, none) := by
 have hw : zE.wf ⟨1, 0, b, m, l⟩ 70000 := ⟨(by decide : (0 : Int) ≤ 1), (by decide : (1 : Int) ≤ 255), (by decide : (0 : Int) ≤ 0), (by decide : (0 : Int) ≤ 255), hm, hl⟩
 obtain ⟨b', m', os, ok, k, ho⟩ := uz ⟨1, 0, b, m, l⟩ 70000 hw (Nat.le_refl _)
 obtain ⟨n, k'⟩ := login_ex b' m' os 70000 ho (by omega)
 have e2 := zx l
 have e3 := xj os
 simp only [zE.cells] at k
 rw [yF fn148]
 exact ⟨n, by simp [D.l148, D.c148, go_sem, k, k', e2, e3]⟩
end Go.Proofs.YtpfnlpakcldobaaGreat
