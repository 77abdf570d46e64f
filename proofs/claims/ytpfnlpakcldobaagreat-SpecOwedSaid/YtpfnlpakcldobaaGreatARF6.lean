/- Texts of the proof: RF3 RF5 RF6. -/
import Derived.Test.YtpfnlpakcldobaaGreatARF4
set_option linter.unusedVariables false
set_option linter.unusedSimpArgs false
set_option linter.unusedSectionVars false
namespace Go.Proofs.YtpfnlpakcldobaaGreat
open Go Go.L
theorem fn86 : D.W.fns 86 = some (.fn D.l86) := rfl
theorem fn70 : D.W.fns 70 = some (.fn D.l70) := rfl
theorem fn57 : D.W.fns 57 = some (.fn D.l57) := rfl
set_option maxHeartbeats 4000000 in
theorem alike_ex (a c : wI) (ha : a.ok) (hc : c.ok) : ∃ q : Bool, zq D.W 86 [.agg a.cells, .agg c.cells] [] = some (.bool q, none) := by
 suffices h : Ret D.W 86 [.agg a.cells, .agg c.cells] [] (fun v o => o = none ∧ ∃ q : Bool, v = .bool q) by
  obtain ⟨v, k, q, rfl⟩ := h.ex
  exact ⟨q, k⟩
 have k := beq_eq a.nil c.nil a.m c.m a.data c.data ha.2.2.1 hc.2.2.1
 have e1 := zx a.data
 have e2 := zx c.data
 unfold wI.cells
 refine yU fn86 rfl (fun _ => ?_) ?_
 ·simp [LVal.pfs, LVal.pf]
 simp only [Go.L.zc, List.map_cons, List.map_nil, Option.bind_some, Option.bind_none, Option.getD_some, Option.getD_none, List.getElem?_cons_zero, List.getElem?_cons_succ, zY.zH, if_true, Bool.false_eq_true, if_false, ite_self]
 unfold D.c86
 have F := an k (an e1 e2)
 refine agw ?_ ?_ ?_ ?_ ?_ ?_ ?_ ?_
 all_goals first | exact ⟨rfl, _, rfl⟩ | exact trivial
theorem Wo.ne {b : Bool} {m : Nat} {l : List wI} (h : Wo b m l) (hl : l ≠ []) : b = false ∧ m = 2 := by
 rcases h with h | ⟨_, h⟩
 ·exact h
 ·exact absurd h hl
theorem Wo.drop {b : Bool} {m : Nat} {l : List wI} (h : Wo b m l) (k : Nat) : Wo b m (l.drop k) := by
 rcases h with h | ⟨h1, h2⟩
 ·exact .inl h
 ·exact .inr ⟨h1, by rw [h2]; simp⟩
theorem nj (l : List wI) (k : Nat) : (yz l).drop k = yz (l.drop k) := by simp [yz]
theorem optsL_take (l : List wI) (k : Nat) : (yz l).take k = yz (l.take k) := by simp [yz]
set_option maxHeartbeats 8000000 in
theorem loop70 (m : Nat) (cs : List wI) (hcs : ∀ o ∈ cs, o.ok) (hm : cs ≠ [] → m = 2) (hl : cs.length ≤ 100000) (b2 : Bool) (Q : yS → RS → Prop)
 (hE : ∀ b1 m1 us v1 v2 w7, Wo b1 m1 us → Q (.exit 0) ⟨[.vs b1 .sh m1 (yz us), v1, v2, .undef, .vs b2 .sh m (yz cs), .int .i64 cs.length, .int .i64 cs.length, w7, .undef], [], []⟩) :
 ∀ (j i : Nat) (b1 : Bool) (m1 : Nat) (us : List wI) (v1 v2 : LVal), i + j = cs.length → v1.zr = false → v2.zr = false → Wo b1 m1 us → (∀ o ∈ us, o.ok) →
  Wp D.W (.loop D.b70_0) ⟨[.vs b1 .sh m1 (yz us), v1, v2, .undef, .vs b2 .sh m (yz cs), .int .i64 cs.length, .int .i64 i, .undef, .undef], [], []⟩ Q
 | 0, i, b1, m1, us, v1, v2, hij, o1, o2, hw, ha => by
  have : i = cs.length := by omega
  subst this
  apply xi
  have F := an o1 o2
  refine Wp.to wp1 ?_; first | apply za.n | apply za.e | apply za.r
  exact hE _ _ _ _ _ _ hw
 | j + 1, i, b1, m1, us, v1, v2, hij, o1, o2, hw, ha => by
  have hi : i < cs.length := by omega
  have hm2 := hm (fun e => by subst e; simp at hi)
  subst hm2
  have e1 : (i : Int) < cs.length := by omega
  have e0 : 0 ≤ (i : Int) ∧ (i : Int) < cs.length := by omega
  have e3 : IntKind.i64.wrap ((i : Int) + 1) = (i : Int) + 1 := vG (by omega) (by omega)
  have e4 := xZ cs
  have e5 : (yz cs)[i]? = some (.agg [.int .i64 cs[i].t, .vs cs[i].nil .sh cs[i].m (zy cs[i].data)]) := by rw [sk, List.getElem?_eq_getElem hi]; rfl
  have e5' : ∀ h, (yz cs)[i]'h = .agg [.int .i64 cs[i].t, .vs cs[i].nil .sh cs[i].m (zy cs[i].data)] := fun h => by have := List.getElem?_eq_getElem h; rw [e5] at this; exact (Option.some.inj this).symm
  have hci : cs[i].ok := hcs _ (List.getElem_mem hi)
  have ih := fun b1 m1 us => loop70 2 cs hcs hm hl b2 Q hE j (i + 1) b1 m1 us .undef .undef (by omega) rfl rfl
  have ec : ((i + 1 : Nat) : Int) = (i : Int) + 1 := by omega
  simp only [ec] at ih
  have e6 := xZ us
  have e7 := xy
  have e8 := zG
  have e9 := zx cs[i].data
  apply xi
  cases us with
  | nil =>
   have F := an o1 (an o2 (an e0 (an e1 (an e3 (an e4 (an e5 (an e5' (an e6 (an e7 (an e8 e9))))))))))
   refine Wp.to wp1 ?_; first | apply za.n | apply za.e | apply za.r
   exact ih _ _ _ hw ha
  | cons x us' =>
   obtain ⟨rfl, rfl⟩ := hw.ne (by simp)
   have hx := ha x (List.mem_cons_self ..)
   obtain ⟨q, k⟩ := alike_ex x cs[i] hx hci
   simp only [wI.cells] at k
   have g0 : (yz (x :: us'))[0]? = some (.agg [.int .i64 x.t, .vs x.nil .sh x.m (zy x.data)]) := rfl
   have g0' : ∀ h, (yz (x :: us'))[0]'h = .agg [.int .i64 x.t, .vs x.nil .sh x.m (zy x.data)] := fun h => rfl
   have h0 : (0 : Int) < ((x :: us').length : Nat) := by simp only [List.length_cons]; omega
   have h0' : 0 < (x :: us').length := by simp
   have h1 : (1 : Int) ≤ ((x :: us').length : Nat) := by simp only [List.length_cons]; omega
   have h1' : 1 ≤ (x :: us').length := by simp
   have d1 : (yz (x :: us')).drop 1 = yz us' := by rw [nj]; rfl
   have d2 : ((yz (x :: us')).take (x :: us').length).drop 1 = yz us' := by rw [optsL_take, List.take_length, nj]; rfl
   have p9 := zx x.data
   generalize hn : (x :: us').length = n1 at *
   generalize hL : yz (x :: us') = L at *
   cases q with
   | true =>
    have F := an o1 (an o2 (an e0 (an e1 (an e3 (an e4 (an e5 (an e5' (an e6 (an e7 (an e8 (an e9 (an p9 (an k (an g0 (an g0' (an h0 (an h0' (an h1 (an h1' (an d1 d2))))))))))))))))))))
    refine Wp.to wp1 ?_; first | apply za.n | apply za.e | apply za.r
    exact ih _ _ _ (.inl ⟨rfl, rfl⟩) (fun o ho => ha o (List.mem_cons_of_mem _ ho))
   | false =>
    (have F := an o1 (an o2 (an e0 (an e1 (an e3 (an e4 (an e5 (an e5' (an e6 (an e7 (an e8 (an e9 (an p9 (an k (an g0 (an g0' (an h0 (an h0' (an h1 (an h1' (an d1 d2)))))))))))))))))))); refine gow ?_)
    have hfin := ih false 2 (x :: us') (.inl ⟨rfl, rfl⟩) ha
    rw [hL] at hfin
    exact hfin
set_option maxHeartbeats 8000000 in
theorem within_ex (b1 : Bool) (m1 : Nat) (us : List wI) (n1 : Nat) (h1 : rT b1 m1 us n1) (b2 : Bool) (m : Nat) (cs : List wI) (n2 : Nat) (h2 : rT b2 m cs n2) (hn : n2 ≤ 100000) :
 ∃ q : Bool, zq D.W 70 [.vs b1 .sh m1 (yz us), .vs b2 .sh m (yz cs)] [] = some (.bool q, none) := by
 have hm : cs ≠ [] → m = 2 := fun hne => (h2.1.ne hne).2
 suffices h : Ret D.W 70 [.vs b1 .sh m1 (yz us), .vs b2 .sh m (yz cs)] [] (fun v o => o = none ∧ ∃ q : Bool, v = .bool q) by
  obtain ⟨v, k, q, rfl⟩ := h.ex
  exact ⟨q, k⟩
 have e1 := xj us
 have e2 := xj cs
 have e4 := xZ cs
 have e7 := xy
 refine yU fn70 rfl (fun _ => ?_) ?_
 ·simp [LVal.pfs, LVal.pf]
 simp only [Go.L.zc, List.map_cons, List.map_nil, Option.bind_some, Option.bind_none, Option.getD_some, Option.getD_none, List.getElem?_cons_zero, List.getElem?_cons_succ, zY.zH, if_true, Bool.false_eq_true, if_false, ite_self]
 unfold D.c70
 (have F := an e1 (an e2 e4); refine gow ?_)
 refine loop70 m cs h2.2.1 hm (by have := h2.2.2; omega) b2 _ ?_ cs.length 0 b1 m1 us _ _ (by omega) rfl rfl h1.1 h1.2.1
 intro b1 m1 us v1 v2 w7 hw
 (have F := e7; refine gow ?_)
 (have F : True := trivial; refine fnw ?_)
 exact ⟨rfl, _, rfl⟩
set_option maxHeartbeats 8000000 in
theorem oS (a c : zE) (n : Nat) (ha : a.wf n) (hc : Wb c.nil c.m c.data) : ∃ q : Bool, zq D.W 57 [.agg c.cells, .agg a.cells] [] = some (.bool q, none) ∧ (q = true → a.code = 2) := by
 suffices h : Ret D.W 57 [.agg c.cells, .agg a.cells] [] (fun v o => o = none ∧ ∃ q : Bool, v = .bool q ∧ (q = true → a.code = 2)) by
  obtain ⟨v, k, q, rfl, h⟩ := h.ex
  exact ⟨q, k, h⟩
 have k := beq_eq a.nil c.nil a.m c.m a.data c.data ha.2.2.2.2.1 hc
 have e1 := zx a.data
 have e2 := zx c.data
 unfold zE.cells
 refine yU fn57 rfl (fun _ => ?_) ?_
 ·simp [LVal.pfs, LVal.pf]
 simp only [Go.L.zc, List.map_cons, List.map_nil, Option.bind_some, Option.bind_none, Option.getD_some, Option.getD_none, List.getElem?_cons_zero, List.getElem?_cons_succ, zY.zH, if_true, Bool.false_eq_true, if_false, ite_self]
 unfold D.c57
 unfold D.r57_0
 by_cases h2 : a.code = 2
 ·have F := an k (an e1 (an e2 h2))
  refine agw ?_ ?_ ?_ ?_ ?_ ?_ ?_ ?_
  all_goals first | exact ⟨rfl, _, rfl, fun _ => h2⟩ | exact trivial
 ·have F := an k (an e1 (an e2 h2))
  refine agw ?_ ?_ ?_ ?_ ?_ ?_ ?_ ?_
  all_goals first | exact ⟨rfl, _, rfl, fun e => by cases e⟩ | exact trivial
end Go.Proofs.YtpfnlpakcldobaaGreat
namespace Go.Proofs.YtpfnlpakcldobaaGreat
open Go Go.L
theorem fn69 : D.W.fns 69 = some (.fn D.l69) := rfl
set_option maxHeartbeats 8000000 in
theorem both_ex (a c : zE) (n : Nat) (ha : a.wf n) (hc : c.wd n) (hn : n ≤ 70000) (code : Int) : ∃ b1 m1 o1 b2 m2 o2 q, zq D.W 69 [.agg c.cells, .agg a.cells, .int .i64 code] [] = some (.tup [.vs b1 .sh m1 (yz o1), .vs b2 .sh m2 (yz o2), .bool q], none) ∧ rT b1 m1 o1 n ∧ rT b2 m2 o2 n ∧ (q = true → a.code = code) := by
 suffices h : Ret D.W 69 [.agg c.cells, .agg a.cells, .int .i64 code] [] (fun v o => o = none ∧ ∃ b1 m1 o1 b2 m2 o2 q, v = .tup [.vs b1 .sh m1 (yz o1), .vs b2 .sh m2 (yz o2), .bool q] ∧ rT b1 m1 o1 n ∧ rT b2 m2 o2 n ∧ (q = true → a.code = code)) by
  obtain ⟨v, k, b1, m1, o1, b2, m2, o2, q, rfl, h⟩ := h.ex
  exact ⟨b1, m1, o1, b2, m2, o2, q, k, h⟩
 obtain ⟨b1, m1, o1, q1, k1, ho1⟩ := ni c n hc hn
 obtain ⟨b2, m2, o2, q2, k2, ho2⟩ := uz a n ha hn
 have e1 := zx a.data
 have e2 := zx c.data
 have e3 := xj o1
 have e4 := xj o2
 have e5 := xZ o2
 have hnil : rT true 0 [] n := ⟨.inr ⟨rfl, rfl⟩, by simp, Nat.zero_le _⟩
 unfold zE.cells at *
 refine yU fn69 rfl (fun _ => ?_) ?_
 ·simp [LVal.pfs, LVal.pf, e1, e2]
 simp only [Go.L.zc, List.map_cons, List.map_nil, Option.bind_some, Option.bind_none, Option.getD_some, Option.getD_none, List.getElem?_cons_zero, List.getElem?_cons_succ, zY.zH, if_true, Bool.false_eq_true, if_false, ite_self]
 unfold D.c69
 unfold D.r69_0
 by_cases h : a.code = code
 ·rw [h] at k2
  have F := an k1 (an k2 (an e1 (an e2 (an e3 (an e4 (an e5 h))))))
  refine agw ?_ ?_ ?_ ?_ ?_ ?_ ?_ ?_
  all_goals first | (first | exact ⟨rfl, _, _, _, _, _, _, _, rfl, ho1, ho2, fun _ => h⟩ | exact ⟨rfl, true, 0, [], true, 0, [], _, rfl, hnil, hnil, fun _ => h⟩) | exact trivial
 ·have hb : (a.code != code) = true := by simpa using h
  have F := an k1 (an k2 (an e1 (an e2 (an e3 (an e4 (an e5 (an h hb)))))))
  refine agw ?_ ?_ ?_ ?_ ?_ ?_ ?_ ?_
  all_goals first | exact ⟨rfl, true, 0, [], true, 0, [], _, rfl, hnil, hnil, fun e => by cases e⟩ | exact trivial
set_option maxHeartbeats 8000000 in
theorem sH (a c : zE) (n : Nat) (ha : a.wf n) (hc : c.wd n) (hn : n ≤ 70000) : ∃ q : Bool, zq D.W 58 [.agg c.cells, .agg a.cells] [] = some (.bool q, none) ∧ (q = true → a.code = 4) := by
 suffices h : Ret D.W 58 [.agg c.cells, .agg a.cells] [] (fun v o => o = none ∧ ∃ q : Bool, v = .bool q ∧ (q = true → a.code = 4)) by
  obtain ⟨v, k, q, rfl, h⟩ := h.ex
  exact ⟨q, k, h⟩
 obtain ⟨b1, m1, o1, b2, m2, o2, q, k, ho1, ho2, hq⟩ := both_ex a c n ha hc hn 4
 obtain ⟨q', k'⟩ := within_ex b2 m2 o2 n ho2 b1 m1 o1 n ho1 (by omega)
 have e1 := zx a.data
 have e2 := zx c.data
 have e3 := xj o1
 have e4 := xj o2
 unfold zE.cells at *
 cases q with
 | true =>
  have F := an k (an k' (an e1 (an e2 (an e3 e4))))
  refine Ret.of wk ?_
  exact ⟨rfl, _, rfl, fun _ => hq rfl⟩
 | false =>
  have F := an k (an k' (an e1 (an e2 (an e3 e4))))
  refine Ret.of wk ?_
  exact ⟨rfl, _, rfl, fun e => by cases e⟩
end Go.Proofs.YtpfnlpakcldobaaGreat
namespace Go.Proofs.YtpfnlpakcldobaaGreat
open Go Go.L
theorem fn76 : D.W.fns 76 = some (.fn D.l76) := rfl
theorem fn87 : D.W.fns 87 = some (.fn D.l87) := rfl
theorem fn73 : D.W.fns 73 = some (.fn D.l73) := rfl
theorem fn74 : D.W.fns 74 = some (.fn D.l74) := rfl
theorem fn72 : D.W.fns 72 = some (.fn D.l72) := rfl
theorem pure_st {T : Tbl} {f : FuncId} {lf : zJ} (hf : T.fns f = some (.fn lf)) (hm : lf.mode = .pure) (args : List LVal) (st : List zt) : zq T f args st = zq T f args [] := by
 rw [yF hf, yF hf]
 unfold xn
 simp only [hm, zY.zH, if_true, vD]
set_option maxHeartbeats 8000000 in
theorem same1_ex (a c : wI) (ha : a.ok) (hc : c.ok) : ∃ q : Bool, zq D.W 76 [.vs false .sh 2 [.agg a.cells], .vs false .sh 2 [.agg c.cells]] [] = some (.bool q, none) := by
 obtain ⟨q, k⟩ := alike_ex a c ha hc
 have e1 := zx a.data
 have e2 := zx c.data
 have w1 : IntKind.i64.wrap 1 = 1 := rfl
 unfold wI.cells at *
 have k' : ∃ q : Bool, zq D.W 88 [.vs false .sh 2 [.agg [.int .i64 a.t, .vs a.nil .sh a.m (zy a.data)]], .vs false .sh 2 [.agg [.int .i64 c.t, .vs c.nil .sh c.m (zy c.data)]], .func 86 []] [] = some (.bool q, some []) := by
  suffices h : Ret D.W 88 [.vs false .sh 2 [.agg [.int .i64 a.t, .vs a.nil .sh a.m (zy a.data)]], .vs false .sh 2 [.agg [.int .i64 c.t, .vs c.nil .sh c.m (zy c.data)]], .func 86 []] [] (fun v o => ∃ q : Bool, v = .bool q ∧ o = some []) by
   obtain ⟨v, o, k, q, rfl, rfl⟩ := h
   exact ⟨q, k⟩
  have k2 : ∀ st, zq D.W 86 [.agg [.int .i64 a.t, .vs a.nil .sh a.m (zy a.data)], .agg [.int .i64 c.t, .vs c.nil .sh c.m (zy c.data)]] st = some (.bool q, none) := fun st => by rw [pure_st fn86 rfl, k]
  cases q with
  | true =>
   have F := an k2 (an w1 (an e1 e2))
   refine Ret.of wkl ?_
   exact ⟨_, rfl, rfl⟩
  | false =>
   have F := an k2 (an w1 (an e1 e2))
   refine Ret.of wkl ?_
   exact ⟨_, rfl, rfl⟩
 obtain ⟨q', k2⟩ := k'
 rw [yF fn76]
 exact ⟨q', by simp [D.l76, D.c76, go_sem, k2, e1, e2]⟩
def Asks (f : FuncId) (caps : List LVal) (Inv : List zt → Prop) (cs : List wI) : Prop :=
 ∀ o ∈ cs, ∀ st, Inv st → ∃ q st', zq D.W f (.agg o.cells :: caps) st = some (.bool q, some st') ∧ Inv st'
def Inn (n : Nat) (st : List zt) : Prop := st.length = n ∧ ∀ x ∈ st, zt.within n x = true
set_option maxHeartbeats 8000000 in
theorem loop87 (f : FuncId) (caps : List LVal) (Inv : List zt → Prop) (N : Nat) (hN : ∀ st, Inv st → Inn N st) (hcaps : LVal.zb N caps = true) (b : Bool) (m : Nat) (cs : List wI) (hA : Asks f caps Inv cs) (hm : cs ≠ [] → m = 2) (hl : cs.length ≤ 100000) (Q : yS → RS → Prop)
 (hE : ∀ st v2 w6, Inv st → Q (.exit 0) ⟨[.vs b .sh m (yz cs), .func f caps, v2, .undef, .int .i64 cs.length, .int .i64 cs.length, w6, .undef], st, []⟩)
 (hR : ∀ st n v0 v1 v3 v4 v5 v6 v7, Inv st → Q .ret ⟨[v0, v1, .int .i64 n, v3, v4, v5, v6, v7], st, []⟩) :
 ∀ (j i : Nat) (v2 : LVal) (st : List zt), i + j = cs.length → v2.zr = false → Inv st →
  Wp D.W (.loop D.b87_0) ⟨[.vs b .sh m (yz cs), .func f caps, v2, .undef, .int .i64 cs.length, .int .i64 i, .undef, .undef], st, []⟩ Q
 | 0, i, v2, st, hij, o2, hI => by
  have : i = cs.length := by omega
  subst this
  apply xi
  have F := o2
  refine Wp.to wp1 ?_; first | apply za.n | apply za.e | apply za.r
  exact hE _ _ _ hI
 | j + 1, i, v2, st, hij, o2, hI => by
  have hi : i < cs.length := by omega
  have hm2 := hm (fun e => by subst e; simp at hi)
  subst hm2
  have e1 : (i : Int) < cs.length := by omega
  have e0 : 0 ≤ (i : Int) ∧ (i : Int) < cs.length := by omega
  have e3 : IntKind.i64.wrap ((i : Int) + 1) = (i : Int) + 1 := vG (by omega) (by omega)
  have e4 := xZ cs
  have e5 : (yz cs)[i]? = some (.agg [.int .i64 cs[i].t, .vs cs[i].nil .sh cs[i].m (zy cs[i].data)]) := by rw [sk, List.getElem?_eq_getElem hi]; rfl
  have e5' : ∀ h, (yz cs)[i]'h = .agg [.int .i64 cs[i].t, .vs cs[i].nil .sh cs[i].m (zy cs[i].data)] := fun h => by have := List.getElem?_eq_getElem h; rw [e5] at this; exact (Option.some.inj this).symm
  have ec : ((i + 1 : Nat) : Int) = (i : Int) + 1 := by omega
  obtain ⟨q, st', k, hI'⟩ := hA cs[i] (List.getElem_mem hi) st hI
  simp only [wI.cells] at k
  have ih := loop87 f caps Inv N hN hcaps b 2 cs hA hm hl Q hE hR j (i + 1) .undef st' (by omega) rfl hI'
  simp only [ec] at ih
  obtain ⟨n1, n2⟩ := hN st hI
  obtain ⟨n3, n4⟩ := hN st' hI'
  have e7 := xy
  have e8 : List.take N st' = st' := List.take_of_length_le (by omega)
  have e9 : (∀ x, x ∈ st' → zt.within N x = true) = True := eq_true n4
  have e10 : st'.all (zt.within N) = true := List.all_eq_true.2 n4
  have e11 : N ≤ st'.length := by omega
  apply xi
  cases q with
  | true =>
   have F := an o2 (an e0 (an e1 (an e3 (an e4 (an e5 (an e5' (an e7 (an k (an n1 (an n3 (an e8 (an e9 (an e10 hcaps)))))))))))))
   refine Wp.to wp1 ?_; first | apply za.n | apply za.e | apply za.r
   exact hR _ _ _ _ _ _ _ _ _ hI'
  | false =>
   have F := an o2 (an e0 (an e1 (an e3 (an e4 (an e5 (an e5' (an e7 (an k (an n1 (an n3 (an e8 (an e9 (an e10 hcaps)))))))))))))
   refine Wp.to wp1 ?_; first | apply za.n | apply za.e | apply za.r
   exact ih
set_option maxHeartbeats 8000000 in
theorem oc (f : FuncId) (caps : List LVal) (Inv : List zt → Prop) (N : Nat) (hN : ∀ st, Inv st → Inn N st) (hcaps : LVal.zb N caps = true) (b : Bool) (m : Nat) (cs : List wI) (hA : Asks f caps Inv cs) (hm : cs ≠ [] → m = 2) (hl : cs.length ≤ 100000) (st : List zt) (hI : Inv st) :
 ∃ q st', zq D.W 73 [.vs b .sh m (yz cs), .func f caps] st = some (.bool q, some st') ∧ Inv st' := by
 obtain ⟨n1, n2⟩ := hN st hI
 have e4 := xZ cs
 have e7 := xy
 have key : ∃ n st', zq D.W 87 [.vs b .sh m (yz cs), .func f caps] st = some (.int .i64 n, some st') ∧ Inv st' := by
  suffices h : Ret D.W 87 [.vs b .sh m (yz cs), .func f caps] st (fun v o => ∃ n st', v = .int .i64 n ∧ o = some st' ∧ Inv st') by
   obtain ⟨v, o, k, n, st', rfl, rfl, h⟩ := h
   exact ⟨n, st', k, h⟩
  refine yU fn87 rfl (fun h => by cases h) ?_
  simp only [Go.L.zc, List.map_cons, List.map_nil, Option.bind_some, Option.bind_none, Option.getD_some, Option.getD_none, List.getElem?_cons_zero, List.getElem?_cons_succ, zY.zH, if_true, Bool.false_eq_true, if_false, ite_self]
  unfold D.c87
  (have F := e4; refine gow ?_)
  refine loop87 f caps Inv N hN hcaps b m cs hA hm hl _ ?_ ?_ cs.length 0 _ st (by omega) rfl hI
  ·intro st' v2 w6 hI'
   obtain ⟨n3, n4⟩ := hN st' hI'
   have e8 : List.take N st' = st' := List.take_of_length_le (by omega)
   have e9 : (∀ x, x ∈ st' → zt.within N x = true) = True := eq_true n4
   have e10 : st'.all (zt.within N) = true := List.all_eq_true.2 n4
   (have F := an e7 (an n1 (an n3 (an e8 (an e9 (an e10 hcaps))))); refine gow ?_)
   (have F := an e7 (an n1 (an n3 (an e8 (an e9 e10)))); refine fnw ?_)
   exact ⟨_, _, rfl, rfl, hI'⟩
  ·intro st' n v0 v1 v3 v4 v5 v6 v7 hI'
   obtain ⟨n3, n4⟩ := hN st' hI'
   have e8 : List.take N st' = st' := List.take_of_length_le (by omega)
   have e9 : (∀ x, x ∈ st' → zt.within N x = true) = True := eq_true n4
   have e10 : st'.all (zt.within N) = true := List.all_eq_true.2 n4
   (have F := an e7 (an n1 (an n3 (an e8 (an e9 (an e10 hcaps))))); refine gow ?_)
   (have F := an e7 (an n1 (an n3 (an e8 (an e9 e10)))); refine fnw ?_)
   exact ⟨_, _, rfl, rfl, hI'⟩
 obtain ⟨n, st', k, hI'⟩ := key
 obtain ⟨n3, n4⟩ := hN st' hI'
 have e8 : List.take N st' = st' := List.take_of_length_le (by omega)
 have e9 : (∀ x, x ∈ st' → zt.within N x = true) = True := eq_true n4
 have e10 : st'.all (zt.within N) = true := List.all_eq_true.2 n4
 refine ⟨decide (n ≥ 0), st', ?_, hI'⟩
 rw [yF fn73]
 simp [D.l73, D.c73, go_sem, k, n1, n3, e8, e9, e10]
end Go.Proofs.YtpfnlpakcldobaaGreat
