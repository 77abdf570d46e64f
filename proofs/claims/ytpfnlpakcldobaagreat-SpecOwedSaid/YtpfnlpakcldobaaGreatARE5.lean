/- Texts of the proof: RE5. -/
import Derived.Test.YtpfnlpakcldobaaGreatARC
set_option linter.unusedVariables false
set_option linter.unusedSimpArgs false
set_option linter.unusedSectionVars false
namespace Go.Proofs.YtpfnlpakcldobaaGreat
open Go Go.L
theorem fn91 : D.W.fns 91 = some (.fn D.l91) := rfl
theorem fn92 : D.W.fns 92 = some (.fn D.l92) := rfl
theorem fn77 : D.W.fns 77 = some (.fn D.l77) := rfl
theorem fn64 : D.W.fns 64 = some (.fn D.l64) := rfl
set_option maxHeartbeats 8000000 in
theorem la (pre : List zt) (hp : pre = [] ∨ pre = [.cells 159 [.str [], .str []]]) (b : Bool) (m : Nat) (l : List UInt8) (hm : Wb b m l) (hl : l.length ≤ 70000) :
 ∃ s e b' m' r, zq D.W 91 [.ptr pre.length 0] (pre ++ [.cells 172 [.vs b .sh m (zy l)]]) = some (.tup [.str s, .int .i64 e], some (pre ++ [.cells 172 [.vs b' .sh m' (zy r)]])) ∧ Wb b' m' r ∧ r.length ≤ l.length := by
 suffices h : Ret D.W 91 [.ptr pre.length 0] (pre ++ [.cells 172 [.vs b .sh m (zy l)]]) (fun v o => ∃ s e b' m' r, v = .tup [.str s, .int .i64 e] ∧ o = some (pre ++ [.cells 172 [.vs b' .sh m' (zy r)]]) ∧ Wb b' m' r ∧ r.length ≤ l.length) by
  obtain ⟨v, o, k, s, e, b', m', r, rfl, rfl, h⟩ := h
  exact ⟨s, e, b', m', r, k, h⟩
 have e3 := ze l
 have e4 := zG
 by_cases hne : l = []
 ·subst hne
  rcases hp with rfl | rfl
  all_goals
   refine yU fn91 rfl (fun h => by cases h) ?_
   simp only [List.nil_append, List.cons_append, List.length_nil, List.length_cons]
   simp only [Go.L.zc, List.map_cons, List.map_nil, Option.bind_some, Option.bind_none, Option.getD_some, Option.getD_none, List.getElem?_cons_zero, List.getElem?_cons_succ, zY.zH, if_true, Bool.false_eq_true, if_false, ite_self]
   unfold D.c91
   (have F := xz; refine gow ?_)
   (have F : True := trivial; refine fnw ?_)
   exact ⟨_, _, b, m, [], rfl, rfl, hm, Nat.le_refl _⟩
 ·obtain ⟨rfl, rfl⟩ := hm.ne hne
  have hpos : 0 < l.length := List.length_pos_iff.2 hne
  have h0 : ¬ (l.length : Int) = 0 := by omega
  have g0 : (zy l)[0]? = some (.int .u8 (((l.getD 0 0).toNat : Nat) : Int)) := by rw [vB, List.getElem?_eq_getElem hpos, sj hpos]; rfl
  have g0' : ∀ h, (zy l)[0]'h = .int .u8 (((l.getD 0 0).toNat : Nat) : Int) := fun h => by have := List.getElem?_eq_getElem h; rw [g0] at this; exact (Option.some.inj this).symm
  have t0 := oa (l.getD 0 0)
  have hb0 := (l.getD 0 0).toNat_lt
  generalize ((l.getD 0 0).toNat : Nat) = b0 at *
  have w1 : IntKind.i64.wrap ((l.length : Int) - 1) = (l.length : Int) - 1 := vG (by omega) (by omega)
  have w2 : IntKind.i64.wrap (1 + (b0 : Int)) = ((1 + b0 : Nat) : Int) := by rw [vG (by omega) (by omega)]; omega
  by_cases h1 : (l.length : Int) - 1 < b0
  ·rcases hp with rfl | rfl
   all_goals
    refine yU fn91 rfl (fun h => by cases h) ?_
    simp only [List.nil_append, List.cons_append, List.length_nil, List.length_cons]
    simp only [Go.L.zc, List.map_cons, List.map_nil, Option.bind_some, Option.bind_none, Option.getD_some, Option.getD_none, List.getElem?_cons_zero, List.getElem?_cons_succ, zY.zH, if_true, Bool.false_eq_true, if_false, ite_self]
    unfold D.c91
    (have F := an e3 (an hne (an hpos (an h0 (an g0 (an g0' (an t0 (an w1 h1))))))); refine gow ?_)
    (have F := e4; refine fnw ?_)
    exact ⟨_, _, false, 1, l, rfl, rfl, hm, Nat.le_refl _⟩
  ·have c1 : (1 : Int) + b0 ≤ l.length := by omega
   have c2 : 1 + b0 ≤ l.length := by omega
   have c3 : 0 ≤ (((1 + b0 : Nat) : Int)) ∧ (((1 + b0 : Nat) : Int)) ≤ l.length := by omega
   have c4 : (1 : Int) ≤ ((1 + b0 : Nat) : Int) := by omega
   have c5 : ¬ ((1 + b0 : Nat) : Int) < 0 := by omega
   have d1 : (zy l).drop (1 + b0) = zy (l.drop (1 + b0)) := xK l _
   have d2 : ((zy l).take l.length).drop (1 + b0) = zy (l.drop (1 + b0)) := by rw [wD, List.take_length, xK]
   have d3 : ((zy l).take (1 + b0)).drop 1 = zy ((l.take (1 + b0)).drop 1) := by rw [wD, xK]
   have d4 := yq ((l.take (1 + b0)).drop 1)
   have hlen : (l.drop (1 + b0)).length ≤ l.length := by simp
   generalize l.drop (1 + b0) = r at *
   generalize (l.take (1 + b0)).drop 1 = tx at *
   generalize 1 + b0 = k at *
   rcases hp with rfl | rfl
   all_goals
    refine yU fn91 rfl (fun h => by cases h) ?_
    simp only [List.nil_append, List.cons_append, List.length_nil, List.length_cons]
    simp only [Go.L.zc, List.map_cons, List.map_nil, Option.bind_some, Option.bind_none, Option.getD_some, Option.getD_none, List.getElem?_cons_zero, List.getElem?_cons_succ, zY.zH, if_true, Bool.false_eq_true, if_false, ite_self]
    unfold D.c91
    (have F := an e3 (an hne (an hpos (an h0 (an g0 (an g0' (an t0 (an w1 (an w2 (an h1 (an c1 (an c2 (an c3 (an c4 (an c5 (an d1 (an d2 (an d3 d4))))))))))))))))); refine gow ?_)
    (have F := e4; refine fnw ?_)
    exact ⟨_, _, false, 1, r, rfl, rfl, Wb.one, hlen⟩
set_option maxHeartbeats 4000000 in
theorem end_ex (pre : List zt) (hp : pre = [] ∨ pre = [.cells 159 [.str [], .str []]]) (b : Bool) (m : Nat) (l : List UInt8) (hm : Wb b m l) :
 ∃ e, zq D.W 92 [.ptr pre.length 0] (pre ++ [.cells 172 [.vs b .sh m (zy l)]]) = some (.int .i64 e, some (pre ++ [.cells 172 [.vs b .sh m (zy l)]])) := by
 suffices h : Ret D.W 92 [.ptr pre.length 0] (pre ++ [.cells 172 [.vs b .sh m (zy l)]]) (fun v o => ∃ e, v = .int .i64 e ∧ o = some (pre ++ [.cells 172 [.vs b .sh m (zy l)]])) by
  obtain ⟨v, o, k, e, rfl, rfl⟩ := h
  exact ⟨e, k⟩
 have e3 := ze l
 have e4 := zG
 rcases hp with rfl | rfl
 all_goals
  refine yU fn92 rfl (fun h => by cases h) ?_
  simp only [List.nil_append, List.cons_append, List.length_nil, List.length_cons]
  simp only [Go.L.zc, List.map_cons, List.map_nil, Option.bind_some, Option.bind_none, Option.getD_some, Option.getD_none, List.getElem?_cons_zero, List.getElem?_cons_succ, zY.zH, if_true, Bool.false_eq_true, if_false, ite_self]
  unfold D.c92
  by_cases h : l = []
  ·subst h
   (have F := xz; refine gow ?_)
   (have F := e4; refine fnw ?_)
   exact ⟨_, rfl, rfl⟩
  ·have h0 : 0 < l.length := List.length_pos_iff.2 h
   (have F := an e3 (an h0 h); refine gow ?_)
   (have F := e4; refine fnw ?_)
   exact ⟨_, rfl, rfl⟩
set_option maxHeartbeats 8000000 in
theorem readSay_ex (b : Bool) (m : Nat) (l : List UInt8) (hm : Wb b m l) (hl : l.length ≤ 70000) : ∃ s e, zq D.W 89 [.vs b .sh m (zy l)] [] = some (.tup [.str s, .int .i64 e], none) := by
 suffices h : Ret D.W 89 [.vs b .sh m (zy l)] [] (fun v o => o = none ∧ ∃ s e, v = .tup [.str s, .int .i64 e]) by
  obtain ⟨v, k, s, e, rfl⟩ := h.ex
  exact ⟨s, e, k⟩
 obtain ⟨s, e, b', m', r, k, hw, hr⟩ := la [] (.inl rfl) b m l hm hl
 obtain ⟨e', k'⟩ := end_ex [] (.inl rfl) b' m' r hw
 simp only [List.nil_append, List.length_nil] at k k'
 have e2 := zx l
 by_cases h0 : e = 0
 ·by_cases h1 : e' = 0
  ·have F := an k (an k' (an h0 h1))
   refine Ret.of wk ?_
   exact ⟨rfl, _, _, rfl⟩
  ·have F := an k (an k' (an h0 h1))
   refine Ret.of wk ?_
   exact ⟨rfl, _, _, rfl⟩
 ·have F := an k (an k' h0)
  refine Ret.of wk ?_
  exact ⟨rfl, _, _, rfl⟩
set_option maxHeartbeats 8000000 in
theorem readAsk_ex (b : Bool) (m : Nat) (l : List UInt8) (hm : Wb b m l) (hl : l.length ≤ 70000) : ∃ s t e, zq D.W 82 [.vs b .sh m (zy l)] [] = some (.tup [.agg [.str s, .str t], .int .i64 e], none) := by
 suffices h : Ret D.W 82 [.vs b .sh m (zy l)] [] (fun v o => o = none ∧ ∃ s t e, v = .tup [.agg [.str s, .str t], .int .i64 e]) by
  obtain ⟨v, k, s, t, e, rfl⟩ := h.ex
  exact ⟨s, t, e, k⟩
 obtain ⟨s, e, b', m', r, k, hw, hr⟩ := la [.cells 159 [.str [], .str []]] (.inr rfl) b m l hm hl
 obtain ⟨s', e', b1, m1, r', k', hw', hr'⟩ := la [.cells 159 [.str [], .str []]] (.inr rfl) b' m' r hw (by omega)
 obtain ⟨e'', k''⟩ := end_ex [.cells 159 [.str [], .str []]] (.inr rfl) b1 m1 r' hw'
 simp only [List.nil_append, List.cons_append, List.length_nil, List.length_cons] at k k' k''
 have e2 := zx l
 by_cases h0 : e = 0
 ·by_cases h1 : e' = 0
  ·by_cases h2 : e'' = 0
   ·have F := an k (an k' (an k'' (an h0 (an h1 h2))))
    refine Ret.of wk ?_
    exact ⟨rfl, _, _, _, rfl⟩
   ·have F := an k (an k' (an k'' (an h0 (an h1 h2))))
    refine Ret.of wk ?_
    exact ⟨rfl, _, _, _, rfl⟩
  ·have F := an k (an k' (an k'' (an h0 h1)))
   refine Ret.of wk ?_
   exact ⟨rfl, _, _, _, rfl⟩
 ·have F := an k (an k' h0)
  refine Ret.of wk ?_
  exact ⟨rfl, _, _, _, rfl⟩
set_option maxHeartbeats 4000000 in
theorem say_ex (p : zE) (n : Nat) (hp : p.wf n) (hn : n ≤ 70000) : ∃ q : Bool, zq D.W 77 [.agg p.cells] [] = some (.bool q, none) := by
 obtain ⟨_, _, _, _, hw, hl⟩ := hp
 obtain ⟨s, e, k⟩ := readSay_ex p.nil p.m p.data hw (by omega)
 have e2 := zx p.data
 rw [yF fn77]
 exact ⟨e == 0, by simp [D.l77, D.c77, zE.cells, go_sem, k, e2]⟩
set_option maxHeartbeats 4000000 in
theorem ask_ex (p : zE) (n : Nat) (hp : p.wf n) (hn : n ≤ 70000) : ∃ q : Bool, zq D.W 64 [.agg p.cells] [] = some (.bool q, none) := by
 obtain ⟨_, _, _, _, hw, hl⟩ := hp
 obtain ⟨s, t, e, k⟩ := readAsk_ex p.nil p.m p.data hw (by omega)
 have e2 := zx p.data
 rw [yF fn64]
 exact ⟨e == 0, by simp [D.l64, D.c64, zE.cells, go_sem, k, e2]⟩
end Go.Proofs.YtpfnlpakcldobaaGreat
