/- Texts of the proof: RE8. -/
import Derived.Test.YtpfnlpakcldobaaGreatARE5
import Derived.Test.YtpfnlpakcldobaaGreatARE7
import Derived.Test.YtpfnlpakcldobaaGreatARW
set_option linter.unusedVariables false
set_option linter.unusedSimpArgs false
set_option linter.unusedSectionVars false
namespace Go.Proofs.YtpfnlpakcldobaaGreat
open Go Go.L
theorem fn60 : D.W.fns 60 = some (.fn D.l60) := rfl
theorem fn49 : D.W.fns 49 = some (.fn D.l49) := rfl
theorem fn51 : D.W.fns 51 = some (.fn D.l51) := rfl
theorem fn151 : D.W.fns 151 = some (.fn D.l151) := rfl
set_option maxHeartbeats 8000000 in
theorem judged_ex (c : zg) (g : zl) (d : yu) (p : zE) (n : Nat) (hp : p.wf n) (hn : n ≤ 70000) (hc : c.s1.length ≤ 70000) (hg : g.value.length ≤ 70000) (hd : d.data.length ≤ 70000) :
 ∃ q r : Bool, zq D.W 60 [.agg c.cells, .agg g.cells, .agg d.cells, .agg p.cells] [] = some (.tup [.bool q, .bool r], none) := by
 suffices h : Ret D.W 60 [.agg c.cells, .agg g.cells, .agg d.cells, .agg p.cells] [] (fun v o => o = none ∧ ∃ q r : Bool, v = .tup [.bool q, .bool r]) by
  obtain ⟨v, k, q, r, rfl⟩ := h.ex
  exact ⟨q, r, k⟩
 obtain ⟨s, k1⟩ := say_ex p n hp hn
 obtain ⟨y, k2⟩ := kV d.id c.s1 false 1 g.value false 1 d.data hc Wb.one hg Wb.one hd
 have e1 := zx p.data
 have e2 : g.value.length ≤ 140737488355328 := by omega
 have e3 : d.data.length ≤ 140737488355328 := by omega
 have e4 := zx g.value
 have e5 := zx d.data
 unfold zE.cells at *
 unfold zg.cells zl.cells yu.cells
 refine yU fn60 rfl (fun _ => ?_) ?_
 ·simp [LVal.pfs, LVal.pf]
 simp only [Go.L.zc, List.map_cons, List.map_nil, Option.bind_some, Option.bind_none, Option.getD_some, Option.getD_none, List.getElem?_cons_zero, List.getElem?_cons_succ, zY.zH, if_true, Bool.false_eq_true, if_false, ite_self]
 unfold D.c60
 unfold D.r60_0
 unfold D.r60_1
 by_cases h9 : d.kind = 9
 ·have F := an k1 (an k2 (an e1 (an e2 (an e3 (an e4 (an e5 (an mb' h9)))))))
  refine agw ?_ ?_ ?_ ?_ ?_ ?_ ?_ ?_
  all_goals first | exact ⟨rfl, _, _, rfl⟩ | exact trivial
 ·by_cases h3 : p.code = 3
  ·have F := an k1 (an k2 (an e1 (an e2 (an e3 (an e4 (an e5 (an mb' (an h9 h3))))))))
   refine agw ?_ ?_ ?_ ?_ ?_ ?_ ?_ ?_
   all_goals first | exact ⟨rfl, _, _, rfl⟩ | exact trivial
  ·have F := an k1 (an k2 (an e1 (an e2 (an e3 (an e4 (an e5 (an mb' (an h9 h3))))))))
   refine agw ?_ ?_ ?_ ?_ ?_ ?_ ?_ ?_
   all_goals first | exact ⟨rfl, _, _, rfl⟩ | exact trivial
set_option maxHeartbeats 16000000 in
theorem answer49_ex (c : zg) (g : zl) (d : yu) (x : Int) (p : zE) (n : Nat) (hp : p.wf n) (hn : n ≤ 70000) (hc : c.s1.length ≤ 70000) (hc2 : c.s2.length ≤ 70000) (hg : g.value.length ≤ 70000) (hd : d.data.length ≤ 70000) :
 ∃ (g' : zl) (q : Bool), zq D.W 49 [.agg c.cells, .agg g.cells, .agg d.cells, .int .i64 x, .agg p.cells] [] = some (.tup [.agg g'.cells, .bool q], none) ∧ g'.value = g.value := by
 suffices h : Ret D.W 49 [.agg c.cells, .agg g.cells, .agg d.cells, .int .i64 x, .agg p.cells] [] (fun v o => o = none ∧ ∃ a1 a2 a3 a4 a5 a6 a7 a8 a9 q, v = .tup [.agg [.int .i64 a1, .int .i64 a2, .bool a3, .bool a4, .bool a5, .int .i64 a6, .str a7, .bool a8, .int .i64 a9], .bool q] ∧ a7 = g.value) by
  obtain ⟨v, k, a1, a2, a3, a4, a5, a6, a7, a8, a9, q, rfl, h⟩ := h.ex
  exact ⟨⟨a1, a2, a3, a4, a5, a6, a7, a8, a9⟩, q, k, h⟩
 obtain ⟨q, r, k1⟩ := judged_ex c g d p n hp hn hc hg hd
 obtain ⟨b, m, v, ok, k2, hw, hv⟩ := oU p n hp hn
 obtain ⟨y, k3⟩ := kV d.id c.s2 false 1 d.data b m v hc2 Wb.one hd hw (by have := hp.2.2.2.2.2; omega)
 have e1 := zx p.data
 have e3 : d.data.length ≤ 140737488355328 := by omega
 have e4 := zx v
 have e5 := zx d.data
 unfold zE.cells zg.cells zl.cells yu.cells at *
 refine yU fn49 rfl (fun _ => ?_) ?_
 ·simp [LVal.pfs, LVal.pf, e1]
 simp only [Go.L.zc, List.map_cons, List.map_nil, Option.bind_some, Option.bind_none, Option.getD_some, Option.getD_none, List.getElem?_cons_zero, List.getElem?_cons_succ, zY.zH, if_true, Bool.false_eq_true, if_false, ite_self]
 unfold D.c49
 unfold D.r49_0
 by_cases h9 : d.kind = 9
 ·rw [h9] at k1
  have F := an k1 (an k2 (an k3 (an e1 (an e3 (an e4 (an e5 (an mb' h9)))))))
  refine agw ?_ ?_ ?_ ?_ ?_ ?_ ?_ ?_
  all_goals first | exact ⟨rfl, _, _, _, _, _, _, _, _, _, _, rfl, rfl⟩ | exact trivial
 ·by_cases h10 : d.kind = 10
  ·rw [h10] at k1
   have F := an k1 (an k2 (an k3 (an e1 (an e3 (an e4 (an e5 (an mb' h10)))))))
   refine agw ?_ ?_ ?_ ?_ ?_ ?_ ?_ ?_
   all_goals first | exact ⟨rfl, _, _, _, _, _, _, _, _, _, _, rfl, rfl⟩ | exact trivial
  ·have F := an k1 (an k2 (an k3 (an e1 (an e3 (an e4 (an e5 (an mb' (an h9 h10))))))))
   refine agw ?_ ?_ ?_ ?_ ?_ ?_ ?_ ?_
   all_goals first | exact ⟨rfl, _, _, _, _, _, _, _, _, _, _, rfl, rfl⟩ | exact trivial
set_option maxHeartbeats 16000000 in
theorem begin_ex (g : zl) (x : Int) (p : zE) (n : Nat) (hp : p.wf n) (hn : n ≤ 70000) (hg : g.value.length ≤ 70000) :
 ∃ (g' : zl) (q : Bool), zq D.W 51 [.agg g.cells, .int .i64 x, .agg p.cells] [] = some (.tup [.agg g'.cells, .bool q], none) ∧ g'.value.length ≤ 70000 ∧ (q = true → x = 49187 ∨ x = 49699) := by
 suffices h : Ret D.W 51 [.agg g.cells, .int .i64 x, .agg p.cells] [] (fun v o => o = none ∧ ∃ a1 a2 a3 a4 a5 a6 a7 a8 a9 q, v = .tup [.agg [.int .i64 a1, .int .i64 a2, .bool a3, .bool a4, .bool a5, .int .i64 a6, .str a7, .bool a8, .int .i64 a9], .bool q] ∧ a7.length ≤ 70000 ∧ (q = true → x = 49187 ∨ x = 49699)) by
  obtain ⟨v, k, a1, a2, a3, a4, a5, a6, a7, a8, a9, q, rfl, h⟩ := h.ex
  exact ⟨⟨a1, a2, a3, a4, a5, a6, a7, a8, a9⟩, q, k, h⟩
 obtain ⟨s, k1⟩ := ask_ex p n hp hn
 obtain ⟨b, m, v, ok, k2, hw, hv⟩ := oU p n hp hn
 have hv' : v.length ≤ 70000 := by have := hp.2.2.2.2.2; omega
 have hw1 : m = 1 ∨ v.length = 0 := by rcases hw with ⟨_, h⟩ | ⟨_, h⟩; exact .inl h; exact .inr (by rw [h]; rfl)
 have e1 := zx p.data
 have e4 := zx v
 have e5 := yq v
 have e6 := ze v
 have hw2 : m = 1 ∨ v = [] := by rcases hw with ⟨_, h⟩ | ⟨_, h⟩; exact .inl h; exact .inr h
 have hw3 : m = 1 ∨ zy v = [] := by rcases hw with ⟨_, h⟩ | ⟨_, h⟩; exact .inl h; exact .inr (by rw [h]; rfl)
 unfold zE.cells zl.cells at *
 refine yU fn51 rfl (fun _ => ?_) ?_
 ·simp [LVal.pfs, LVal.pf, e1]
 simp only [Go.L.zc, List.map_cons, List.map_nil, Option.bind_some, Option.bind_none, Option.getD_some, Option.getD_none, List.getElem?_cons_zero, List.getElem?_cons_succ, zY.zH, if_true, Bool.false_eq_true, if_false, ite_self]
 unfold D.c51
 by_cases hx : x = 49187
 ·by_cases h1 : p.code = 1
  ·rw [h1] at k1 k2
   have F := an k1 (an k2 (an e1 (an e4 (an e5 (an e6 (an hw1 (an hw2 (an hw3 (an hx h1)))))))))
   refine agw ?_ ?_ ?_ ?_ ?_ ?_ ?_ ?_
   all_goals first | exact ⟨rfl, _, _, _, _, _, _, _, _, _, _, rfl, hg, fun _ => .inl hx⟩ | exact trivial
  ·have F := an k1 (an k2 (an e1 (an e4 (an e5 (an e6 (an hw1 (an hw2 (an hw3 (an hx h1)))))))))
   refine agw ?_ ?_ ?_ ?_ ?_ ?_ ?_ ?_
   all_goals first | exact ⟨rfl, _, _, _, _, _, _, _, _, _, _, rfl, hg, fun _ => .inl hx⟩ | exact trivial
 ·by_cases hy : x = 49699
  ·by_cases h1 : p.code = 1
   ·rw [h1] at k1 k2
    have F := an k1 (an k2 (an e1 (an e4 (an e5 (an e6 (an hw1 (an hw2 (an hw3 (an hy h1)))))))))
    refine agw ?_ ?_ ?_ ?_ ?_ ?_ ?_ ?_
    all_goals first | (first | exact ⟨rfl, _, _, _, _, _, _, _, _, _, _, rfl, hv', fun _ => .inr hy⟩ | exact ⟨rfl, _, _, _, _, _, _, _, _, _, _, rfl, hg, fun _ => .inr hy⟩) | exact trivial
   ·have F := an k1 (an k2 (an e1 (an e4 (an e5 (an e6 (an hw1 (an hw2 (an hw3 (an hy h1)))))))))
    refine agw ?_ ?_ ?_ ?_ ?_ ?_ ?_ ?_
    all_goals first | exact ⟨rfl, _, _, _, _, _, _, _, _, _, _, rfl, hg, fun _ => .inr hy⟩ | exact trivial
  ·have F := an k1 (an k2 (an e1 (an e4 (an e5 (an e6 (an hw1 (an hw2 (an hw3 (an hx hy)))))))))
   refine agw ?_ ?_ ?_ ?_ ?_ ?_ ?_ ?_
   all_goals first | exact ⟨rfl, _, _, _, _, _, _, _, _, _, _, rfl, hg, fun e => by cases e⟩ | exact trivial
end Go.Proofs.YtpfnlpakcldobaaGreat
