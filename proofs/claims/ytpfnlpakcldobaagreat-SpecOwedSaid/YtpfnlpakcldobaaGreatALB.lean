/- Texts of the proof: L9 L10 L11 L12 L13. -/
import Derived.Test.YtpfnlpakcldobaaGreatALA
import Derived.Laws.IdiomStrings
import Derived.Laws.Build
set_option linter.unusedVariables false
set_option linter.unusedSimpArgs false
set_option linter.unusedSectionVars false
namespace Go.L
open Go
variable {P : Program} {vm : List Nat} {lm : List (Option Nat)} {ρ ρ' : List Nat} {S S' : Nat → Nat → Prop} {G G' : Nat → Cl} {σ σ' : RS} {a : Act} {w w' : World}
variable {C : xV} {im : TypeId → String → Option FuncId} {impl : TypeId → TypeId → Bool}
theorem V.re {v : LVal} {cv : Value} (h : V w S ρ v cv) : v.pf = true → V w S [] v cv := by
 refine V.rec (motive_1 := fun ρ v cv _ => v.pf = true → V w S [] v cv)
  (motive_2 := fun ρ l cs _ => LVal.pfs l = true → VL w S [] l cs)
  (motive_3 := fun b off l _ => True) ?_ ?_ ?_ ?_ ?_ ?_ ?_ ?_ ?_ ?_ ?_ ?_ ?_ ?_ ?_ ?_ ?_ ?_ ?_ ?_ ?_ ?_ ?_ h
 ·intros; exact .undef
 ·intros; exact .bool _
 ·intros; exact .int _ _
 ·intros; exact .str _
 ·intro ρ id off b h hp; simp [LVal.pf] at hp
 ·intro ρ v b off h _ _; exact .ref h
 ·intros; exact .vh
 ·intros; exact .oF
 ·intro ρ o n xs b off cap h1 h2 h3 h4 h5 _ _; exact .vs h1 h2 h3 h4 h5
 ·intros; exact .vz
 ·intro ρ id b off len esz agg cap h h1 h2 hp; simp [LVal.pf] at hp
 ·intro ρ id b h hp; simp [LVal.pf] at hp
 ·intros; exact .wq
 ·intro ρ f caps cs _ hp ih hpf; exact .func (ih (by simpa [LVal.pf] using hpf)) hp
 ·intros; exact .x6
 ·intro ρ t v x _ hp ih hpf; exact .iface (ih (by simpa [LVal.pf] using hpf)) hp
 ·intros; exact .yX
 ·intro ρ cs xs _ hp ih hpf; exact .agg (ih (by simpa [LVal.pf] using hpf)) hp
 ·intro ρ l xs _ hp ih hpf; exact .tup (ih (by simpa [LVal.pf] using hpf)) hp
 ·intros; exact .nil
 ·intro ρ v c vs cs _ _ i1 i2 hpf
  simp only [LVal.pfs, Bool.and_eq_true] at hpf
  exact .cons (i1 hpf.1) (i2 hpf.2)
 ·intros; trivial
 ·intros; trivial
theorem VL.lL {l : List LVal} {cs : List Value} (h : VL w S ρ l cs) (hp : LVal.pfs l = true) : VL w S [] l cs := by
 induction l generalizing cs with
 | nil => cases h; exact .nil
 | cons v l ih =>
  cases h with
  | cons h1 h2 =>
   simp only [LVal.pfs, Bool.and_eq_true] at hp
   exact .cons (h1.re hp.1) (ih h2 hp.2)
def rP (vm : List Nat) (lm : List (Option Nat)) : List (Nat × Operand) → List (Nat × Opd) → Bool
 | [], [] => true
 | (i, x) :: r, (j, y) :: r' => i == j && zp vm lm x y && rP vm lm r r'
 | _, _ => false
theorem qP : ∀ {ps : List (Nat × Operand)} {qs : List (Nat × Opd)} {S G σ} (_ : Rel P vm lm ρ S G σ a w) (_ : rP vm lm ps qs = true)
 {us : List (Nat × LVal)} {σ' : RS} (_ : σ.zS qs = some (us, σ')),
 ∃ S' G', Rel P vm lm ρ S' G' σ' a w ∧ Pr w S G ρ w S' G' ρ ∧ us.length = ps.length ∧
  ∀ (j : Nat) i v, us[j]? = some (i, v) → ∃ x, ps[j]? = some (i, x) ∧ V w S' ρ v (a.eval x)
 | [], [], S, G, σ, h, _, us, σ', ht => by
  simp [RS.zS] at ht
  obtain ⟨rfl, rfl⟩ := ht
  exact ⟨S, G, h, Pr.refl .., rfl, fun j _ _ hj => by simp at hj⟩
 | (i, x) :: ps, (i', y) :: qs, S, G, σ, h, hc, us, σ', ht => by
  simp only [rP, Bool.and_eq_true, beq_iff_eq] at hc
  simp only [RS.zS, Option.bind_eq_some_iff, Option.map_eq_some_iff] at ht
  obtain ⟨⟨u, σ1⟩, h1, ⟨⟨us1, σ2⟩, h2, e⟩⟩ := ht
  injection e with e1 e2; subst e1; subst e2
  obtain ⟨S1, G1, k1, k2, k3, k4⟩ := h.take hc.1.2 h1
  obtain ⟨S2, G2, m1, m2, m3, m4⟩ := qP k1 hc.2 h2
  refine ⟨S2, G2, m1, k4.trans m2, by simp [m3], fun j i2 v hj => ?_⟩
  cases j with
  | zero =>
   simp at hj
   obtain ⟨rfl, rfl⟩ := hj
   exact ⟨x, by simp [hc.1.1], LVal.arg_V (k2.mono m2.ext (zB.refl _))⟩
  | succ j =>
   obtain ⟨x', q1, q2⟩ := m4 j i2 v (by simpa using hj)
   exact ⟨x', by simpa using q1, q2⟩
theorem rJ {n : Nat} : ∀ {xs : List LVal} (_ : ∀ x ∈ xs, x.cells.length = n) (i : Nat) (v : LVal), i < xs.length →
 (xs.set i v).flatMap LVal.cells = (xs.flatMap LVal.cells).take (i * n) ++ v.cells ++ (xs.flatMap LVal.cells).drop (i * n + n)
 | x :: xs, hx, 0, v, _ => by
  have h0 := hx x (List.mem_cons_self ..)
  simp [List.flatMap_cons, List.drop_append, h0]
 | x :: xs, hx, i + 1, v, hi => by
  have h0 := hx x (List.mem_cons_self ..)
  have ih := rJ (n := n) (xs := xs) (fun y hy => hx y (List.mem_cons_of_mem _ hy)) i v (by simpa using hi)
  simp only [List.set_cons_succ, List.flatMap_cons, ih]
  rw [List.take_append, List.drop_append]
  rw [List.take_of_length_le (l := x.cells) (by rw [h0, Nat.add_mul]; omega), List.drop_of_length_le (l := x.cells) (by rw [h0, Nat.add_mul]; omega)]
  have e1 : (i + 1) * n - x.cells.length = i * n := by rw [h0, Nat.add_mul]; omega
  have e2 : (i + 1) * n + n - x.cells.length = i * n + n := by rw [h0, Nat.add_mul]; omega
  rw [e1, e2]
  simp
theorem ov {zero : LVal} {size : Nat} : ∀ {ps : List (Nat × Value)} {us : List (Nat × LVal)} {xs xs' : List LVal} {cc : Array Value}, (∀ x ∈ xs, x.cells.length = size) →
 VL w S [] (xs.flatMap LVal.cells) cc.toList → us.length = ps.length → (∀ (j : Nat) i v, us[j]? = some (i, v) → ∃ cv, ps[j]? = some (i, cv) ∧ V w S ρ v cv) →
 zero.cells.length = size → us.all (fun p => yO zero p.2) = true → yM xs us = some xs' →
 ∃ r, Instr.fill (fun i => some (i * size, size)) cc ps = some r ∧ VL w S [] (xs'.flatMap LVal.cells) r.toList ∧ (∀ x ∈ xs', x.cells.length = size) ∧
  ((xs.flatMap LVal.cells).all LVal.plain = true → (xs'.flatMap LVal.cells).all LVal.plain = true) ∧ xs'.length = xs.length
 | [], [], xs, xs', cc, hx, h, _, _, _, _, hs => by simp [yM] at hs; subst hs; exact ⟨cc, rfl, h, hx, fun h => h, rfl⟩
 | (i, cv) :: ps, (i', v) :: us, xs, xs', cc, hx, h, hl, hp, hz, ha, hs => by
  simp only [yM] at hs
  split at hs
  ·rename_i hi
   obtain ⟨cv', e, hV⟩ := hp 0 i' v rfl
   simp at e
   obtain ⟨rfl, rfl⟩ := e
   simp only [List.all_cons, Bool.and_eq_true, yO, beq_iff_eq] at ha
   obtain ⟨⟨⟨⟨ha1, ha2⟩, ha3⟩, ha4⟩, ha5⟩ := ha
   have hV0 : V w S [] v cv := hV.re ha3
   obtain ⟨hVL, _⟩ := hV0.cells ha4
   have hn : v.cells.length = size := ha2.trans hz
   have hsum := yY hx
   have hmul : i * size + size ≤ xs.length * size := by
    have := Nat.mul_le_mul_right size (show i + 1 ≤ xs.length from hi)
    rw [Nat.add_mul] at this; omega
   have hstep := h.setPart hVL (off := i * size) (by rw [hsum, hn]; exact hmul)
   rw [hn, ← rJ hx i v hi] at hstep
   have hsz : cv.cells.size = size := by have := hVL.length; simp at this; omega
   have hcc : cc.size = xs.length * size := by have := h.length; simp at this; rw [← hsum]; simp; omega
   have hx' : ∀ x ∈ xs.set i v, x.cells.length = size := fun x hm => by
    rcases List.mem_or_eq_of_mem_set hm with hm | rfl
    ·exact hx x hm
    ·exact hn
   obtain ⟨r, k1, k2, k3, k4, k5⟩ := ov hx' hstep (by simpa using hl) (fun j i'' v' hj => by simpa using hp (j + 1) i'' v' (by simpa using hj)) hz (by simpa [yO] using ha5) hs
   refine ⟨r, ?_, k2, k3, fun hpl => k4 ?_, by simpa using k5⟩
   ·unfold Instr.fill
    simp only [hsz]
    rw [if_neg (by simp; omega)]
    rw [← k1]
    congr 1
    rw [← Array.foldl_toList, Array.toList_zipIdx]
   ·rw [rJ hx i v hi]
    simp only [List.all_append, Bool.and_eq_true, List.all_eq_true]
    refine ⟨⟨fun x hx => List.all_eq_true.1 hpl x (List.mem_of_mem_take hx), fun x hx => List.all_eq_true.1 ha4 x hx⟩, fun x hx => List.all_eq_true.1 hpl x (List.mem_of_mem_drop hx)⟩
  ·simp at hs
def tC (S : Nat → Nat → Prop) (w : World) (n : Nat) : Nat → Nat → Prop := fun b o => S b o ∨ (b = w.heap.size ∧ o < n)
theorem Rel.newRo (h : Rel P vm lm ρ S G σ a w) (ob : Obj) (n : Nat) : Rel P vm lm ρ (tC S w n) G σ a (w.alloc ob) ∧ Pr w S G ρ (w.alloc ob) (tC S w n) G ρ ∧ Ext S w (tC S w n) (w.alloc ob) := by
 have he : Ext S w (tC S w n) (w.alloc ob) := fun b o hs => ⟨.inl hs, World.cell?_alloc_lt _ _ _ (h.swf.lt _ _ hs)⟩
 have hsz : (w.alloc ob).heap.size = w.heap.size + 1 := tp
 refine ⟨h.yb he (by omega) {
  lt := fun b o hs => by
   rcases hs with hs | ⟨rfl, _⟩
   ·have := h.swf.lt b o hs; omega
   ·omega
  fresh := fun b hb => h.swf.fresh b (by omega)
  box := fun b o id hs hg => by
   rcases hs with hs | ⟨rfl, _⟩
   ·exact h.swf.box b o id hs hg
   ·have := h.swf.fresh w.heap.size (Nat.le_refl _); rw [hg] at this; cases this
  arr := fun b o l e x hs hg => by
   rcases hs with hs | ⟨rfl, _⟩
   ·exact h.swf.arr b o l e x hs hg
   ·have := h.swf.fresh w.heap.size (Nat.le_refl _); rw [hg] at this; cases this }
  (fun b id hg => ⟨wC (h.swf.uu (by rw [hg]; simp)), rfl⟩) (fun b l e x hg _ => ⟨wC (h.swf.uu (by rw [hg]; simp)), rfl⟩), ?_, he⟩
 exact ⟨rfl, rfl, rfl, by omega, he, zB.refl _, fun b hb hg => ⟨wC hb, hg⟩, fun b o hs => by
  rcases hs with hs | ⟨rfl, _⟩
  ·exact .inl hs
  ·exact .inr (.inl (Nat.le_refl _))⟩
theorem Row.new {cells : List LVal} {cc : Array Value} {e : TypeId} (hV : VL w S [] cells cc.toList) (hp : cells.all LVal.plain = true) (he : Ext S w S' (w.alloc (.cells cc e)))
 (hS : ∀ o, o < cells.length → S' w.heap.size o) : Row (w.alloc (.cells cc e)) S' w.heap.size 0 cells := by
 refine Cells.row fun j v hj => ?_
 obtain ⟨c, hc, hv⟩ := hV.get j v hj
 have hlt := (List.getElem?_eq_some_iff.1 hj).1
 refine ⟨by simpa using hS j hlt, c, ?_, hv.mono he (zB.refl _), List.all_eq_true.1 hp v (List.mem_of_getElem? hj)⟩
 unfold World.cell?
 rw [xN]
 simpa using hc
theorem rI {zero : LVal} {n : Nat} (hz : zero.cells.length = n) : ∀ (len i : Nat), i < len * n → ((List.replicate len zero).flatMap LVal.cells)[i]? = zero.cells[i % n]?
 | 0, i, hi => by simp at hi
 | len + 1, i, hi => by
  rw [List.replicate_succ, List.flatMap_cons, List.getElem?_append]
  split
  ·rename_i h; rw [Nat.mod_eq_of_lt (by omega)]
  ·rename_i h
   rw [hz]
   rw [rI hz len (i - n) (by rw [Nat.add_mul] at hi; omega)]
   rw [← Nat.mod_eq_sub_mod (by omega)]
theorem lh {zero : LVal} {z : Value} {len n : Nat} (hz : VL w S [] zero.cells z.cells.toList) (hn : zero.cells.length = n) :
 VL w S [] ((List.replicate len zero).flatMap LVal.cells) ((Array.range (len * n)).map (fun i => z.cells[i % z.cells.size]!)).toList := by
 have hzs : z.cells.size = n := by have := hz.length; simp at this; omega
 refine VL.of ?_ (fun i v hv => ?_)
 ·rw [yY (n := n)]
  ·simp
  ·intro x hx
   rw [List.eq_of_mem_replicate hx]; exact hn
 ·have hlt : i < len * n := by
   have := (List.getElem?_eq_some_iff.1 hv).1
   rw [yY (n := n)] at this
   ·simpa using this
   ·intro x hx
    rw [List.eq_of_mem_replicate hx]; exact hn
  rw [rI hn len i hlt] at hv
  obtain ⟨c, hc, hcv⟩ := hz.get _ v hv
  refine ⟨c, ?_, hcv⟩
  simp at hc ⊢
  refine ⟨i, by simp [hlt], ?_⟩
  rw [hzs]
  obtain ⟨h1, h2⟩ := Array.getElem?_eq_some_iff.1 hc
  simp [h1, h2]
theorem ok_mkslice (h : Rel P vm lm ρ S G σ a w) {o : Oper} {t e : TypeId} {len esz : Nat} {ps : Array (Nat × Operand)} {zero : LVal} {qs : List (Nat × Opd)} (ho : o.op = .buildSlice t len ps)
 (ht : P.underlying t = some (.slice e)) (hz : uO P e zero.cells = true) (hsz : (P.info? e).map (·.size) = some esz) (hbig : len * esz ≤ 2 ^ 24) (hlen : len ≤ 2 ^ 24)
 (hc : rP vm lm ps.toList qs = true) {v : LVal} (hs : sem C im impl σ (.zI zero esz len qs) = some (v, σ')) : yn P o a w (xk P vm lm ρ S G w a σ' v) := by
 simp only [sem, Option.bind_eq_some_iff] at hs
 obtain ⟨⟨us, σ1⟩, h1, h2⟩ := hs
 dsimp only at h2
 split at h2
 ·rename_i hcond
  obtain ⟨hzl, hall⟩ := hcond
  simp only [Option.map_eq_some_iff] at h2
  obtain ⟨xs, h3, e'⟩ := h2
  injection e' with e1 e2; subst e1; subst e2
  obtain ⟨S1, G1, k1, k2, k3, k4⟩ := qP h hc h1
  obtain ⟨i, z, z1, z2, z3, z4⟩ := th hz
  have hsize : i.size = esz := by simpa [z1] using hsz
  have hzV : VL w S1 [] zero.cells z.cells.toList := wW.VL [] z3
  obtain ⟨r, r1, r2, r3, r4, r5⟩ := ov (ρ := ρ) (size := esz) (zero := zero) (ps := (ps.map fun (p : Nat × Operand) => (p.1, a.eval p.2)).toList)
   (cc := (Array.range (len * esz)).map (fun i => z.cells[i % z.cells.size]!))
   (fun x hx => by rw [List.eq_of_mem_replicate hx]; exact hzl) (lh (w := w) (S := S1) hzV hzl) (by simp [k3]) (fun j i v hj => by
    obtain ⟨x, q1, q2⟩ := k4 j i v hj
    exact ⟨a.eval x, by simp at q1 ⊢; exact ⟨i, x, q1, rfl, rfl⟩, q2⟩) hzl hall h3
  have hpl := r4 (by
   rw [List.all_eq_true]
   intro x hx
   obtain ⟨y, hy, hxy⟩ := List.mem_flatMap.1 hx
   rw [List.eq_of_mem_replicate hy] at hxy
   exact List.all_eq_true.1 z4 x hxy)
  have hxl : xs.length = len := by simpa using r5
  have hrl : (xs.flatMap LVal.cells).length = r.size := by have := r2.length; simpa using this
  obtain ⟨m1, m2, m3⟩ := k1.newRo (.cells r e) r.size
  have hrow := Row.new (e := e) r2 hpl m3 (fun o ho => .inr ⟨rfl, by omega⟩)
  refine .value (cv := .slice (some ⟨w.heap.size, 0, none⟩) len len) (w' := w.alloc (.cells r e)) ?_ (.simple m1 rfl ?_ (k2.trans m2))
  ·refine yi (s := Instr.buildSlice t len (ps.map fun (p : Nat × Operand) => (p.1, a.eval p.2))) (by simp [execOp, ho]) ?_
   unfold Instr.buildSlice
   simp only [Sem.run_bind, run_underlying ht, Result.andThen_ok, xS z1, hsize]
   rw [if_neg (by omega)]
   by_cases h0 : len * esz = 0
   ·have hr0 : ((Array.range (len * esz)).map (fun i => z.cells[i % z.cells.size]!)) = #[] := by simp [h0]
    rw [hr0] at r1
    simp only [h0, if_true, Sem.run_pure, Result.andThen_ok, Sem.run_bind]
    have hr1 : ((Array.range 0).map (fun i => (#[] : Array Value)[i % (#[] : Array Value).size]!)) = #[] := by simp
    rw [hr1, r1]
    simp [newRow]
   ·simp only [h0, if_false, Sem.run_bind, x9 z1 z2, Sem.run_pure, Result.andThen_ok]
    rw [r1]
    simp [newRow]
  ·have := V.vs (w := w.alloc (.cells r e)) (S := tC S1 w r.size) (ρ := ρ) (o := .full) (n := esz) (xs := xs) (b := w.heap.size) (off := 0) (cap := len) (by omega) (by unfold maxLen; omega) (fun _ => hxl.symm) r3 hrow
   rw [hxl] at this
   exact this
 ·simp at h2
end Go.L
namespace Go.L
open Go
variable {P : Program} {vm : List Nat} {lm : List (Option Nat)} {ρ ρ' : List Nat} {S S' : Nat → Nat → Prop} {G G' : Nat → Cl} {σ σ' : RS} {a : Act} {w w' : World}
variable {C : xV} {im : TypeId → String → Option FuncId} {impl : TypeId → TypeId → Bool}
theorem mz (b off j : Nat) : (⟨b, off, none⟩ : Addr).add j = ⟨b, off + j, none⟩ := by unfold Addr.add; split <;> simp_all
theorem Cells.kG {T : Nat → Nat → Prop} {b : Nat} : ∀ {l : List LVal} {off : Nat}, Cells w S T b off l →
 ∃ cs : List Value, VL w S [] l cs ∧ ∀ (j : Nat) c, cs[j]? = some c → w.cell? ⟨b, off + j, none⟩ = some c
 | [], off, _ => ⟨[], .nil, fun j c hj => by simp at hj⟩
 | v :: l, off, h => by
  obtain ⟨_, c, h1, h2, _⟩ := h 0 v rfl
  obtain ⟨cs, k1, k2⟩ := Cells.kG (l := l) (off := off + 1) (fun j u hj => by
   have := h (j + 1) u (by simpa using hj)
   rwa [show off + (j + 1) = off + 1 + j by omega] at this)
  refine ⟨c :: cs, .cons h2 k1, fun j u hj => ?_⟩
  cases j with
  | zero => simp at hj; subst hj; exact h1
  | succ j =>
   have := k2 j u (by simpa using hj)
   rwa [show off + 1 + j = off + (j + 1) by omega] at this
theorem vL {t : TypeId} {agg : Bool} {n : Nat} (ht : ry P t agg n = true) {b off : Nat} {cs : List Value} (hl : cs.length = n)
 (hc : ∀ (j : Nat) c, cs[j]? = some c → w.cell? ⟨b, off + j, none⟩ = some c) :
 (loadVar t ⟨b, off, none⟩).run P w = .ok (if agg then .agg ⟨cs⟩ else cs.getD 0 undef) w := by
 obtain ⟨d, i, h1, h2, h3, h4, h5⟩ := uQ ht
 unfold loadVar
 simp only [Sem.run_bind, sE h1, Result.andThen_ok, h2]
 cases agg with
 | true =>
  simp only [if_true, Sem.run_bind, xS h3, h4, Result.andThen_ok]
  have := run_loadCells_list (P := P) w ⟨b, off, none⟩ cs (fun j v hj => by rw [mz]; exact hc j v hj)
  rw [hl] at this
  rw [this]
  rfl
 | false =>
  have h1n := h5 rfl
  cases cs with
  | nil => simp at hl; omega
  | cons c cs =>
   have := hc 0 c rfl
   simp at this
   simp [this]
theorem VL.nZ {l : List LVal} (h : ∀ v ∈ l, v.plain = true ∨ v.zr = true) : (l.map LVal.down).all LVal.plain = true := by
 rw [List.all_eq_true]
 intro x hx
 obtain ⟨v, hv, rfl⟩ := List.mem_map.1 hx
 rcases h v hv with hp | hp
 ·rw [LVal.rL (by cases v with | vs b o n xs => cases o <;> simp_all [LVal.plain, LVal.zr] | _ => simp_all [LVal.plain, LVal.zr])]; exact hp
 ·obtain ⟨b, e, x, n, xs, rfl⟩ := LVal.wT hp; rfl
theorem VL.rR {l : List LVal} (h : ∀ v ∈ l, v.plain = true ∨ v.zr = true) : (l.map LVal.soft).all LVal.plain = true := by
 have := VL.nZ h
 rw [List.all_eq_true] at this ⊢
 intro x hx
 obtain ⟨v, hv, rfl⟩ := List.mem_map.1 hx
 rw [LVal.soft_down, LVal.arg_plain]
 exact this _ (List.mem_map.2 ⟨v, hv, rfl⟩)
theorem ok_loadL (h : Rel P vm lm ρ S G σ a w) {t : TypeId} {agg zu : Bool} {n : Nat} (ht : ry P t agg n = true) {p : LVal} {pc : Value} (hp : V w S ρ p pc)
 {v : LVal} (hs : xU σ agg n p zu = some (v, σ')) : ∃ cv, (Instr.loadAt t pc).run P w = .ok cv w ∧ xk P vm lm ρ S G w a σ' v cv w := by
 unfold xU at hs
 cases p with
 | ref u =>
  dsimp only at hs
  split at hs
  ·rename_i hcond
   simp at hs
   obtain ⟨rfl, rfl⟩ := hs
   obtain ⟨b, off, hrow, rfl⟩ := hp.qV
   obtain ⟨cs, k1, k2⟩ := hrow.cells.kG (b := b)
   have hl : cs.length = n := by rw [← k1.length]; exact hcond.2
   have hpl : u.cells.all LVal.plain = true := by
    rw [List.all_eq_true]
    intro x hx
    obtain ⟨i, hi, hix⟩ := List.getElem_of_mem hx
    exact (hrow.cells i x (by rw [List.getElem?_eq_getElem hi, hix])).2.choose_spec.2.2
   refine ⟨if agg then .agg ⟨cs⟩ else cs.getD 0 undef, ?_, ?_⟩
   ·unfold Instr.loadAt Instr.sureAddr
    simp only [Sem.run_bind, Sem.run_pure, Result.andThen_ok]
    exact vL ht hl k2
   ·cases u with
    | agg xs =>
     have : agg = true := by have := hcond.1; simpa [LVal.isAgg] using this.symm
     subst this
     exact .pure h rfl (.agg (k1.mono (Ext.refl _ _) (zB.nil _)) hpl)
    | undef => simp [LVal.cells, LVal.plain] at hpl
    | tup l => simp [LVal.cells, LVal.plain] at hpl
    | bool _ | int _ _ | str _ | ptr _ _ | ref _ | vh | vs _ _ _ _ | ms _ _ _ _ _ | map _ | wq | func _ _ | x6 | iface _ _ | yX =>
     have : agg = false := by have := hcond.1; simpa [LVal.isAgg] using this.symm
     subst this
     have hpl' := (by simpa [LVal.cells] using hpl)
     cases k1 with
     | cons q1 q2 =>
      exact .pure h (LVal.zO hpl') (by simpa using q1.mono (Ext.refl _ _) (zB.nil _))
  ·simp at hs
 | ptr id off =>
  dsimp only at hs
  obtain ⟨b, hb, rfl⟩ := hp.sL
  cases hst : σ.st[id]? with
  | none => simp [hst] at hs
  | some ob =>
   cases ob with
   | dead => simp [hst] at hs
   | map es => simp [hst] at hs
   | cells ty c =>
    simp only [hst] at hs
    split at hs
    ·rename_i hle
     obtain ⟨b', cc, q1, q2, q3, q4, q5⟩ := h.st id _ hst
     obtain rfl : b = b' := by rw [hb] at q1; exact Option.some.inj q1
     have hcs : ∀ (j : Nat) u, ((cc.toList.drop off).take n)[j]? = some u → w.cell? ⟨b, off + j, none⟩ = some u := by
      intro j u hj
      rw [List.getElem?_take] at hj
      split at hj
      ·unfold World.cell?
       rw [q2]
       simp at hj ⊢
       exact hj
      ·simp at hj
     have hcl : ((cc.toList.drop off).take n).length = n := by simp; omega
     have hrun : (Instr.loadAt t (.pointer (some ⟨b, off, none⟩))).run P w = .ok (if agg then .agg ⟨(cc.toList.drop off).take n⟩ else ((cc.toList.drop off).take n).getD 0 undef) w := by
      unfold Instr.loadAt Instr.sureAddr
      simp only [Sem.run_bind, Sem.run_pure, Result.andThen_ok]
      exact vL ht hcl hcs
     refine ⟨_, hrun, ?_⟩
     have hget : ∀ (j : Nat) u, ((c.drop off).take n)[j]? = some u → c[off + j]? = some u ∧ j < n := by
      intro j u hj
      rw [List.getElem?_take] at hj
      split at hj
      ·exact ⟨by simpa using hj, by assumption⟩
      ·simp at hj
     cases agg with
     | true =>
      simp only [if_true] at hs ⊢
      injection hs with hs
      injection hs with e1 hσ
      subst e1
      have hmem : ∀ x ∈ (c.drop off).take n, x.plain = true ∨ x.zr = true := by
       intro x hx
       obtain ⟨i, hi, hix⟩ := List.getElem_of_mem hx
       obtain ⟨hc', _⟩ := hget i x (by rw [List.getElem?_eq_getElem hi, hix])
       exact (q5 _ _ hc').1
      have hpl := VL.rR hmem
      have mk : ∀ S', (∀ (o : Nat) (v : LVal), c[o]? = some v → ∃ cv, cc[o]? = some cv ∧ V w S' ρ v.down cv) → V w S' ρ (.agg (((c.drop off).take n).map LVal.soft)) (.agg ⟨(cc.toList.drop off).take n⟩) := by
       intro S' hV
       refine .agg (VL.of (by simp; omega) (fun i v hv => ?_)) hpl
       simp only [List.getElem?_map, Option.map_eq_some_iff] at hv
       obtain ⟨u, hu, rfl⟩ := hv
       obtain ⟨hc', hi⟩ := hget i u hu
       obtain ⟨cv, m1, m2⟩ := hV _ _ hc'
       refine ⟨cv, ?_, LVal.soft_V m2⟩
       rw [List.getElem?_take, if_pos hi]
       simpa using m1
      split at hσ
      ·subst hσ
       obtain ⟨S', G', k1, k2, b2, cc2, p1, p2, p3, p4⟩ := h.oP hst
       obtain rfl : b = b2 := by rw [hb] at p1; exact Option.some.inj p1
       rw [q2] at p2
       injection p2 with p2; injection p2 with p2 _ _
       subst p2
       exact .simple k1 rfl (mk S' (fun o v hv => by obtain ⟨cv, m1, m2, _⟩ := p4 o v hv; exact ⟨cv, m1, m2⟩)) k2
      ·rename_i hany
       subst hσ
       have hno : ∀ x ∈ (c.drop off).take n, x.zr = false := by
        intro x hx
        simp only [List.any_eq_true, not_exists, not_and, Bool.not_eq_true] at hany
        exact hany x hx
       refine .pure h rfl (.agg (VL.of (by simp; omega) (fun i v hv => ?_)) hpl)
       simp only [List.getElem?_map, Option.map_eq_some_iff] at hv
       obtain ⟨u, hu, rfl⟩ := hv
       obtain ⟨hc', hi⟩ := hget i u hu
       obtain ⟨m0, cv, m1, m2⟩ := q5 _ _ hc'
       have hun := hno u (List.mem_of_getElem? hu)
       have hup : u.plain = true := by rcases m0 with m0 | m0; exact m0; rw [hun] at m0; cases m0
       refine ⟨cv, ?_, ?_⟩
       ·rw [List.getElem?_take, if_pos hi]; simpa using m1
       ·refine LVal.soft_V ?_; rw [LVal.rL hun]; exact (At1.simple (LVal.zO hup)).1 m2
     | false =>
      simp only [Bool.false_eq_true, if_false] at hs ⊢
      split at hs
      ·rename_i hn1
       subst hn1
       simp only [Option.map_eq_some_iff] at hs
       obtain ⟨u, hu, hs⟩ := hs
       obtain ⟨m0, cv, m1, m2⟩ := q5 _ _ hu
       have hcv : ((cc.toList.drop off).take 1).getD 0 undef = cv := by
        simp [List.getD, m1]
       rw [hcv]
       by_cases hown : u.zr = true
       ·simp only [hown, if_true] at hs
        obtain ⟨bb, e, x, k, xs, rfl⟩ := LVal.wT hown
        cases zu with
        | true =>
         simp at hs
         obtain ⟨rfl, rfl⟩ := hs
         obtain ⟨rfl, _⟩ := m2
         exact ⟨ρ, S, G, h, ⟨rfl, e, x, ty, c, b, cc, ty, _, hst, hu, hb, q2, m1⟩, Pr.refl ..⟩
        | false =>
         simp at hs
         obtain ⟨rfl, rfl⟩ := hs
         obtain ⟨S', G', k1, k2, b2, cc2, p1, p2, p3, p4⟩ := h.oP hst
         obtain rfl : b = b2 := by rw [hb] at p1; exact Option.some.inj p1
         rw [q2] at p2
         injection p2 with p2; injection p2 with p2 _ _
         subst p2
         obtain ⟨cv2, r1, r2, _⟩ := p4 _ _ hu
         obtain rfl : cv = cv2 := by rw [m1] at r1; exact Option.some.inj r1
         exact .simple k1 rfl r2 k2
       ·simp only [hown, if_false, Bool.false_eq_true] at hs
        injection hs with e1 e2; subst e1; subst e2
        have hup : u.plain = true := by rcases m0 with m0 | m0; exact m0; exact absurd m0 hown
        exact .pure h (LVal.zO hup) ((At1.simple (LVal.zO hup)).1 m2)
      ·simp at hs
    ·simp at hs
 | _ => simp at hs
theorem ok_load (h : Rel P vm lm ρ S G σ a w) {o : Oper} {t : TypeId} {agg zu : Bool} {n : Nat} {x : Operand} {y : Opd} (ho : o.op = .load t x) (ht : ry P t agg n = true)
 (hc : zp vm lm x y = true) {v : LVal} (hs : sem C im impl σ (.load agg n y zu) = some (v, σ')) : yn P o a w (xk P vm lm ρ S G w a σ' v) := by
 simp only [sem, Option.bind_eq_some_iff] at hs
 obtain ⟨p, h1, h2⟩ := hs
 have hsim : p.simple = true := by
  cases p with
  | vs b o n xs => simp [xU] at h2
  | tup l => simp [xU] at h2
  | _ => rfl
 obtain ⟨cv, k1, k2⟩ := ok_loadL h ht (h.zM hc h1 hsim) h2
 exact .value (yi (s := Instr.loadAt t (a.eval x)) (by simp [execOp, ho]) k1) k2
end Go.L
namespace Go.L
open Go
variable {P : Program} {vm : List Nat} {lm : List (Option Nat)} {ρ ρ' : List Nat} {S S' : Nat → Nat → Prop} {G G' : Nat → Cl} {σ σ' : RS} {a : Act} {w w' : World}
variable {C : xV} {im : TypeId → String → Option FuncId} {impl : TypeId → TypeId → Bool}
theorem Rel.setRow (h : Rel P vm lm ρ S G σ a w) {id b : Nat} {c c' : List LVal} {cc cc' : Array Value} {et : TypeId} (hst : σ.st[id]? = some (.cells et c)) (hb : ρ[id]? = some b)
 (hh : w.heap[b]? = some (.cells cc et (0, 0))) (hg : G b = .box id) (hsz : c'.length ≤ cc'.size)
 (hc' : ∀ (o : Nat) (v : LVal), c'[o]? = some v → (v.plain = true ∨ v.zr = true) ∧ ∃ cv, cc'[o]? = some cv ∧ At1 P w S G ρ yr (.cell id o, 0) v cv)
 (hpk : ∀ (o : Nat) e x n xs (cv : Value), c[o]? = some (.vs false (.own e x) n xs) → cc[o]? = some cv → (¬ σ.uy → ∃ e' x', c'[o]? = some (.vs false (.own e' x') n xs) ∧ cc'[o]? = some cv)) :
 Rel P vm lm ρ S G { σ with st := σ.st.set id (.cells et c') } a (w.setRow b cc') ∧ Pr w S G ρ (w.setRow b cc') S G ρ := by
 have he : Ext S w S (w.setRow b cc') := fun b' o hs => ⟨hs, cell_setRow_other w b cc' ⟨b', o, none⟩ (fun e => by
  have e' : b' = b := e
  subst e'
  exact h.swf.box _ _ _ hs hg)⟩
 have hother : ∀ b', b' ≠ b → (w.setRow b cc').heap[b']? = w.heap[b']? := fun b' hn => setRow_other w b b' cc' hn
 have hsize : (w.setRow b cc').heap.size = w.heap.size := size_setRow w b cc'
 have hne : ∀ b', (∀ l e x, G b' = .arr l e x → True) → G b' ≠ .box id → b' ≠ b := fun b' _ hn e => hn (e ▸ hg)
 have hswf : SWf (w.setRow b cc') S G := ⟨fun b o hs => by rw [hsize]; exact h.swf.lt b o hs, fun b hb => h.swf.fresh b (by rw [hsize] at hb; exact hb), h.swf.box, h.swf.arr⟩
 have karr : ∀ bl l e x, G bl = .arr l e x → (w.setRow b cc').heap[bl]? = w.heap[bl]? ∧ G bl = G bl := fun bl l e x hg' => ⟨hother bl (fun e => by rw [e, hg] at hg'; cases hg'), rfl⟩
 have kbox : ∀ bl i, G bl = .box i → i ≠ id → (w.setRow b cc').heap[bl]? = w.heap[bl]? ∧ G bl = G bl := fun bl i hg' hi => ⟨hother bl (fun e => by rw [e, hg] at hg'; injection hg' with hg'; exact hi hg'.symm), rfl⟩
 refine ⟨?_, ?_⟩
 ·exact {
   defers := h.defers
   vsz := h.vsz
   lsz := h.lsz
   swf := hswf
   len := by simpa using h.len
   rho := fun i b' hb' => by rw [hsize]; exact h.rho i b' hb'
   st := fun i o ho => by
    by_cases hi : id = i
    ·subst hi
     rw [List.getElem?_set] at ho
     simp at ho
     obtain ⟨_, rfl⟩ := ho
     refine ⟨b, cc', hb, setRow_heap w b cc cc' et (0, 0) hh, hg, hsz, fun o v hv => ?_⟩
     obtain ⟨m0, cv, m1, m2⟩ := hc' o v hv
     exact ⟨m0, cv, m1, m2.yb he (zB.refl _) (fun bl e x hg' => karr bl _ e x hg') (fun _ _ _ h => h)⟩
    ·rw [List.getElem?_set_ne hi] at ho
     exact (h.st i o ho).yb he (zB.refl _) (fun bl hg' => kbox bl i hg' (fun e => hi e.symm)) (fun bl off c e x hg' => karr bl _ e x hg')
   vars := fun k v hv => by
    obtain ⟨t, h1, h2, h3⟩ := h.vars k v hv
    exact ⟨t, h1, h2, h3.yb he (zB.refl _) (fun bl c e x hg' => karr bl _ e x hg') (fun _ _ _ h => h)⟩
   rs := fun i v hv => by
    rcases h.rs i v hv with h0 | ⟨t, h1, h2, h3⟩
    ·exact .inl h0
    ·refine .inr ⟨t, h1, h2, ?_⟩
     by_cases hn : σ.uy
     ·exact (h3.uy (fun bb p n xs e => hn i bb p n xs (e ▸ hv))).yb he (zB.refl _) (fun bl c e x hg' => karr bl _ e x hg') (fun _ _ _ h => h)
     ·refine h3.yb he (zB.refl _) (fun bl c e x hg' => karr bl _ e x hg') (fun p n xs hp => ?_)
      cases p with
      | var k => exact hp
      | cell i' off =>
       obtain ⟨e, x, ty2, c2, b2, cc2, et2, fr, q1, q2, q3, q4, q5⟩ := hp
       by_cases hi : id = i'
       ·subst hi
        obtain rfl : b = b2 := by rw [hb] at q3; exact Option.some.inj q3
        rw [hst] at q1
        obtain rfl : c = c2 := by injection q1 with q1; injection q1
        rw [hh] at q4
        have ecc : cc = cc2 := by injection q4 with q4; injection q4
        subst ecc
        obtain ⟨e', x', r1, r2⟩ := hpk off e x n xs _ q2 q5 hn
        exact ⟨e', x', et, c', b, cc', et, (0, 0), by simp [List.getElem?_set_self', hst], r1, hb, setRow_heap w b cc cc' et (0, 0) hh, r2⟩
       ·obtain ⟨b3, cc3, s1, s2, s3, _⟩ := h.st i' _ q1
        obtain rfl : b2 = b3 := by rw [q3] at s1; exact Option.some.inj s1
        exact ⟨e, x, ty2, c2, b2, cc2, et2, fr, by rw [List.getElem?_set_ne hi]; exact q1, q2, q3, (kbox b2 i' s3 (fun e => hi e.symm)).1.trans q4, q5⟩ }
 ·refine ⟨setRow_os .., rfl, setRow_output .., by rw [hsize]; exact Nat.le_refl _, he, zB.refl _, fun b' hb' hg' => ⟨hother b' (fun e => by rw [e, hg] at hg'; cases hg'), hg'⟩, fun _ _ hs => .inl hs⟩
theorem LVal.qE {v : LVal} (h : v.cells.all LVal.plain = true) : v.simple = true := by
 cases v with
 | vs b o n xs => cases o <;> simp_all [LVal.simple, LVal.cells, LVal.plain]
 | tup l => simp [LVal.cells, LVal.plain] at h
 | _ => rfl
theorem wm {α : Type} (c us : List α) (off : Nat) (hle : off + us.length ≤ c.length) (o : Nat) :
 (c.take off ++ us ++ c.drop (off + us.length))[o]? = if off ≤ o ∧ o < off + us.length then us[o - off]? else c[o]? := by
 rw [List.append_assoc, List.getElem?_append]
 simp only [List.length_take]
 split
 ·rename_i hi
  rw [if_neg (by omega), List.getElem?_take, if_pos (by omega)]
 ·rename_i hi
  rw [List.getElem?_append]
  split
  ·rename_i hi2
   rw [if_pos (by omega)]
   congr 1
   omega
  ·rename_i hi2
   rw [if_neg (by omega), List.getElem?_drop]
   congr 1
   omega
theorem qC {t : TypeId} {i : TypeInfo} {n b off : Nat} {cc : Array Value} {et : TypeId} {cv : Value} (hi : P.info? t = some i) (hn : i.size = n) (hcv : cv.cells.size = n)
 (h1 : ∀ c ∈ cv.cells.toList, c.oneCell' = true) (hh : w.heap[b]? = some (.cells cc et (0, 0))) (hle : off + n ≤ cc.size) :
 (storeVar t ⟨b, off, none⟩ cv).run P w = .ok () (w.setRow b (cc.toList.take off ++ cv.cells.toList ++ cc.toList.drop (off + cv.cells.toList.length)).toArray) := by
 unfold storeVar
 simp only [Sem.run_bind, xS hi, Result.andThen_ok, hn]
 rw [if_neg (by simp [hcv])]
 have := run_storeCells_at P b off et cv.cells.toList 0 cc w hh (by simp [hcv]; omega) h1
 simpa using this
theorem ok_storeL (h : Rel P vm lm ρ S G σ a w) {t : TypeId} {n : Nat} {i : TypeInfo} (hi : P.info? t = some i) (hn : i.size = n) {p : LVal} {pc : Value} (hp : V w S ρ p pc) {v : LVal} {cv : Value}
 (hv : At P w S G ρ yr .yd v cv) (hs : xq σ n p v = some σ') :
 ∃ w', (Instr.storeAt t pc cv).run P w = .ok () w' ∧ xk P vm lm ρ S G w a σ' .undef undef w' := by
 unfold xq at hs
 cases p with
 | ptr id off =>
  dsimp only at hs
  obtain ⟨b, hb, rfl⟩ := hp.sL
  cases hst : σ.st[id]? with
  | none => simp [hst] at hs
  | some ob =>
   cases ob with
   | dead => simp [hst] at hs
   | map es => simp [hst] at hs
   | cells ty c =>
    simp only [hst] at hs
    split at hs
    ·rename_i hcond
     obtain ⟨hle, hvl, hpl⟩ := hcond
     injection hs with hs
     obtain ⟨b', cc, q1, q2, q3, q4, q5⟩ := h.st id _ hst
     obtain rfl : b = b' := by rw [hb] at q1; exact Option.some.inj q1
     have main : ∀ (σ1 : RS) (G1 : Nat → Cl), Rel P vm lm ρ S G1 σ1 a w → Pr w S G ρ w S G1 ρ → σ1.st = σ.st →
      (σ1.uy ∨ ∀ (o : Nat) (u : LVal), off ≤ o → o < off + n → c[o]? = some u → u.zr = false) →
      (VL w S ρ v.cells cv.cells.toList ∧ (∀ x ∈ cv.cells.toList, x.oneCell' = true) ∧ v.cells.all LVal.plain = true ∨
       (v.cells = [v] ∧ v.zr = true ∧ cv.cells = #[cv] ∧ cv.oneCell' = true ∧ At1 P w S G1 ρ yr (.cell id off, 0) v cv)) →
      ∃ w', (Instr.storeAt t (.pointer (some ⟨b, off, none⟩)) cv).run P w = .ok () w' ∧
       xk P vm lm ρ S G w a { σ1 with st := σ1.st.set id (.cells ty (c.take off ++ v.cells ++ c.drop (off + n))) } .undef undef w' := by
      intro σ1 G1 h1 hp1 hst1 hnp hval
      obtain ⟨b2, cc2, s1, s2, s3, s4, s5⟩ := h1.st id _ (by rw [hst1]; exact hst)
      obtain rfl : b = b2 := by rw [hb] at s1; exact Option.some.inj s1
      rw [q2] at s2
      have ecc : cc = cc2 := by injection s2 with s2; injection s2
      subst ecc
      have hsz : cv.cells.size = n := by
       rcases hval with ⟨hVL, _⟩ | ⟨hc1, _, hc2, _⟩
       ·have := hVL.length; simp at this; omega
       ·rw [hc1] at hvl; rw [hc2]; simpa using hvl
      have hone : ∀ x ∈ cv.cells.toList, x.oneCell' = true := by
       rcases hval with ⟨_, hone, _⟩ | ⟨_, _, hc2, h1c, _⟩
       ·exact hone
       ·rw [hc2]; intro x hx; simp at hx; subst hx; exact h1c
      have hrun := qC (P := P) (w := w) (off := off) hi hn hsz hone q2 (by omega)
      refine ⟨_, by unfold Instr.storeAt Instr.sureAddr; simp only [Sem.run_bind, Sem.run_pure, Result.andThen_ok]; exact hrun, ?_⟩
      have hul : cv.cells.toList.length = n := by simpa using hsz
      have hspl := wm c v.cells off (by omega)
      have hspc := wm cc.toList cv.cells.toList off (by simp; omega)
      rw [hvl] at hspl
      rw [hul] at hspc
      obtain ⟨k1, k2⟩ := h1.setRow (c' := c.take off ++ v.cells ++ c.drop (off + n)) (cc' := (cc.toList.take off ++ cv.cells.toList ++ cc.toList.drop (off + n)).toArray)
       (by rw [hst1]; exact hst) hb q2 s3 (by simp; omega) (fun o u hu => by
        rw [hspl o] at hu
        have hce : ((cc.toList.take off ++ cv.cells.toList ++ cc.toList.drop (off + n)).toArray)[o]? = if off ≤ o ∧ o < off + n then cv.cells.toList[o - off]? else cc.toList[o]? := by
         rw [← hspc o]; simp
        rw [hce]
        split at hu
        ·rename_i hin
         rw [if_pos hin]
         rcases hval with ⟨hVL, _, hap⟩ | ⟨hc1, hown, hc2, _, hat⟩
         ·obtain ⟨x, hx, hxV⟩ := hVL.get _ u hu
          have hup := List.all_eq_true.1 hap u (List.mem_of_getElem? hu)
          exact ⟨.inl hup, x, hx, (At1.simple (LVal.zO hup)).2 hxV⟩
         ·have hn1 : n = 1 := by rw [hc1] at hvl; simpa using hvl.symm
          have ho : o = off := by omega
          subst ho
          rw [hc1] at hu
          simp at hu
          subst hu
          exact ⟨.inr hown, cv, by simp [hc2], hat⟩
        ·rename_i hin
         rw [if_neg hin]
         obtain ⟨m0, x, m1, m2⟩ := s5 o u hu
         exact ⟨m0, x, by simpa using m1, m2⟩)
       (fun o e x k xs x' hco hcc hnn => by
        rcases hnp with hnp | hnp
        ·exact absurd hnp hnn
        ·have hout : ¬ (off ≤ o ∧ o < off + n) := fun hin => by
          have := hnp o _ hin.1 hin.2 hco
          simp [LVal.zr] at this
         refine ⟨e, x, by rw [hspl o, if_neg hout]; exact hco, ?_⟩
         have hce : ((cc.toList.take off ++ cv.cells.toList ++ cc.toList.drop (off + n)).toArray)[o]? = if off ≤ o ∧ o < off + n then cv.cells.toList[o - off]? else cc.toList[o]? := by
          rw [← hspc o]; simp
         rw [hce, if_neg hout]; simpa using hcc)
      rw [hul] at *
      exact .simple k1 rfl .undef (hp1.trans k2)
     by_cases hall : v.cells.all LVal.plain = true
     ·have hV := (At.simple (LVal.qE hall)).1 hv
      obtain ⟨hVL, hone⟩ := hV.cells hall
      split at hs
      ·subst hs
       exact main σ.yJ G h.yJ (Pr.refl ..) rfl (.inl σ.vq) (.inl ⟨hVL, hone, hall⟩)
      ·rename_i hany
       subst hs
       refine main σ G h (Pr.refl ..) rfl (.inr fun o u h1 h2 hu => ?_) (.inl ⟨hVL, hone, hall⟩)
       simp only [List.any_eq_true, not_exists, not_and, Bool.not_eq_true] at hany
       refine hany u (List.mem_of_getElem? (i := o - off) ?_)
       rw [List.getElem?_take, if_pos (by omega), List.getElem?_drop]
       rw [show off + (o - off) = o by omega]; exact hu
     ·have hown : v.zr = true := by
       simp only [Bool.or_eq_true, Bool.and_eq_true] at hpl
       rcases hpl with hpl | hpl
       ·exact absurd hpl hall
       ·exact hpl.2
      obtain ⟨bb, e, x, k, xs, rfl⟩ := LVal.wT hown
      have hat : At1 P w S (wM .yd (.cell id off) G) ρ yr (.cell id off, 0) (.vs bb (.own e x) k xs) cv := At1.xT ((At.nt (by simp)).1 hv)
      have hone := ((At.nt (by simp)).1 hv).2.one
      split at hs
      ·subst hs
       exact main σ.yJ _ (h.yJ.xT (p := .yd) (q := .cell id off) trivial) (Pr.xT ..) rfl (.inl σ.vq) (.inr ⟨rfl, rfl, hone.2, hone.1, hat⟩)
      ·rename_i hany
       subst hs
       refine main σ _ (h.xT (p := .yd) (q := .cell id off) trivial) (Pr.xT ..) rfl (.inr fun o u h1 h2 hu => ?_) (.inr ⟨rfl, rfl, hone.2, hone.1, hat⟩)
       simp only [List.any_eq_true, not_exists, not_and, Bool.not_eq_true] at hany
       refine hany u (List.mem_of_getElem? (i := o - off) ?_)
       rw [List.getElem?_take, if_pos (by omega), List.getElem?_drop]
       rw [show off + (o - off) = o by omega]; exact hu
    ·simp at hs
 | _ => simp at hs
theorem ok_store (h : Rel P vm lm ρ S G σ a w) {o : Oper} {t : TypeId} {n : Nat} {x y : Operand} {x' y' : Opd} (ho : o.op = .store t x y) (ht : (P.info? t).map (·.size) = some n)
 (hcx : zp vm lm x x' = true) (hcy : zp vm lm y y' = true) {v : LVal} (hs : sem C im impl σ (.store n x' y') = some (v, σ')) : yn P o a w (xk P vm lm ρ S G w a σ' v) ∧ v = .undef := by
 simp only [sem, Option.bind_eq_some_iff, Option.map_eq_some_iff] at hs
 obtain ⟨⟨u, σ1⟩, h1, p, h2, s, h3, e⟩ := hs
 injection e with e1 e2; subst e1; subst e2
 refine ⟨?_, rfl⟩
 simp only [Option.map_eq_some_iff] at ht
 obtain ⟨i, hi, hn⟩ := ht
 obtain ⟨S1, G1, k1, k2, k3⟩ := h.yW hcy h1
 have hsim : p.simple = true := by
  cases p with
  | vs b o n xs => simp [xq] at h3
  | tup l => simp [xq] at h3
  | _ => rfl
 obtain ⟨w2, r1, r2⟩ := ok_storeL k1 hi hn ((h.zM hcx h2 hsim).mono k3.ext (zB.refl _)) k2 h3
 obtain ⟨ρ', S', G', m1, m2, m3⟩ := r2
 exact .skip (exec_u (s := Instr.storeAt t (a.eval x) (a.eval y)) (by simp [execOp, ho]) r1) ⟨ρ', S', G', m1, m2, k3.trans m3⟩
end Go.L
namespace Go.L
open Go
variable {P : Program} {vm : List Nat} {lm : List (Option Nat)} {ρ ρ' : List Nat} {S S' : Nat → Nat → Prop} {G G' : Nat → Cl} {σ σ' : RS} {a : Act} {w w' : World}
variable {C : xV} {im : TypeId → String → Option FuncId} {impl : TypeId → TypeId → Bool}
theorem binInt_ok {op : BinOp} {k : IntKind} {x y : Int} {v : LVal} (h : wh op k x y = some v) (w : World) (t : TypeId) (hop : op ≠ .shl ∧ op ≠ .shr) :
 ∃ cv, (binOp op t (.int k x) (.int k y)).run P w = .ok cv w ∧ v.simple = true ∧ ∀ S ρ, V w S ρ v cv := by
 cases op <;> simp only [wh] at h <;> first
  | (exact absurd rfl hop.1)
  | (exact absurd rfl hop.2)
  | (cases h; done)
  | (injection h with h; subst h; refine ⟨.int k _, ?_, rfl, fun S ρ => .int _ _⟩; simp [binOp, Op.intArith, Op.intBits, Op.intCmp]; done)
  | (injection h with h; subst h; refine ⟨.bool _, ?_, rfl, fun S ρ => .bool _⟩; simp [binOp, Op.intArith, Op.intBits, Op.intCmp]; done)
  | (split at h
     ·cases h
     ·rename_i hy
      injection h with h; subst h
      refine ⟨.int k _, ?_, rfl, fun S ρ => .int _ _⟩
      simp [binOp, Op.intDiv, hy])
theorem oz {left : Bool} {k yk : IntKind} {x y : Int} {v : LVal} (h : sn left k x y = some v) (w : World) (t : TypeId) :
 ∃ cv, (binOp (if left then .shl else .shr) t (.int k x) (.int yk y)).run P w = .ok cv w ∧ v.simple = true ∧ ∀ S ρ, V w S ρ v cv := by
 unfold sn at h
 split at h
 ·cases h
 ·rename_i hy
  cases left with
  | true => simp only [if_true] at h; injection h with h; subst h; refine ⟨.int k _, ?_, rfl, fun S ρ => .int _ _⟩; simp [binOp, Op.shift, hy]
  | false => simp only [Bool.false_eq_true, if_false] at h; injection h with h; subst h; refine ⟨.int k _, ?_, rfl, fun S ρ => .int _ _⟩; simp [binOp, Op.shift, hy]
theorem kA (s : List UInt8) : (⟨⟨s⟩⟩ : ByteArray).toList = s := by simp
theorem binStr_ok {op : BinOp} {x y : List UInt8} {v : LVal} (h : wi op x y = some v) (w : World) (t : TypeId) :
 ∃ cv, (binOp op t (.string ⟨⟨x⟩⟩) (.string ⟨⟨y⟩⟩)).run P w = .ok cv w ∧ v.simple = true ∧ ∀ S ρ, V w S ρ v cv := by
 have hadd : (⟨⟨x⟩⟩ : ByteArray) ++ ⟨⟨y⟩⟩ = ⟨⟨x ++ y⟩⟩ := by
  apply ByteArray.ext; simp
 cases op <;> simp only [wi] at h <;> first
  | (cases h; done)
  | (injection h with h; subst h; refine ⟨.bool _, ?_, rfl, fun S ρ => .bool _⟩; simp [binOp, Op.stringOp, kA]; done)
  | (split at h
     ·rename_i hl
      injection h with h; subst h
      refine ⟨.string ⟨⟨x ++ y⟩⟩, ?_, rfl, fun S ρ => .str _⟩
      simp only [binOp, Op.stringOp]
      have hs : ¬ (((⟨⟨x⟩⟩ : ByteArray).size + (⟨⟨y⟩⟩ : ByteArray).size : Nat) : Int) > IntKind.i64.max := by
       have e1 : (⟨⟨x⟩⟩ : ByteArray).size = x.length := rfl
       have e2 : (⟨⟨y⟩⟩ : ByteArray).size = y.length := rfl
       have e3 : IntKind.i64.max = 9223372036854775807 := by decide
       rw [e1, e2, e3]; omega
      rw [if_neg hs, hadd]
      rfl
     ·cases h)
theorem tr {op : BinOp} {t : TypeId} {x y : Operand} {k k' : IntKind} {m n : Int} (w : World) : (eqGuard op t x y (.int k m) (.int k' n)).run P w = .ok () w := by
 unfold eqGuard; split <;> rfl
theorem oD {op : BinOp} {t : TypeId} {x y : Operand} {r s : ByteArray} (w : World) : (eqGuard op t x y (.string r) (.string s)).run P w = .ok () w := by
 unfold eqGuard; split <;> rfl
theorem pF {op : BinOp} {t : TypeId} {x y : Operand} {r s : Bool} (w : World) : (eqGuard op t x y (.bool r) (.bool s)).run P w = .ok () w := by
 unfold eqGuard; split <;> rfl
theorem run_equalIn_bool {t : TypeId} (ht : P.underlying t = some .bool) (d : Nat) (x y : Bool) (w : World) : (Op.equalIn (d + 1) t (.bool x) (.bool y)).run P w = .ok (x == y) w := by
 simp [Op.equalIn, run_underlying ht]
section
variable (h : Rel P vm lm ρ S G σ a w) {o : Oper}
include h
theorem ok_bin {op : BinOp} {t t' : TypeId} {x y : Operand} {x' y' : Opd} (ho : o.op = .binOp op t x y t') (hx : zp vm lm x x' = true) (hy : zp vm lm y y' = true) {v : LVal}
 (hs : sem C im impl σ (.bin op x' y') = some (v, σ')) : yn P o a w (xk P vm lm ρ S G w a σ' v) := by
 simp only [sem, Option.bind_eq_some_iff, Option.map_eq_some_iff] at hs
 obtain ⟨u, h1, u', h2, r, h3, e⟩ := hs
 injection e with e1 e2; subst e1; subst e2
 have go : ∀ cx cy cv, a.eval x = cx → a.eval y = cy → (eqGuard op t x y cx cy).run P w = .ok () w → (binOp op t cx cy).run P w = .ok cv w → r.simple = true → (∀ S ρ, V w S ρ r cv) →
  yn P o a w (xk P vm lm ρ S G w a σ r) := by
  intro cx cy cv e1 e2 hg hb hs hV
  refine .value (yi (s := do eqGuard op t x y (a.eval x) (a.eval y); binOp op t (a.eval x) (a.eval y)) (by simp [execOp, ho]) ?_) (.pure h hs (hV S ρ))
  rw [e1, e2, Sem.run_bind, hg]
  exact hb
 cases u with
 | int k m =>
  cases u' with
  | int k' n =>
   have ex := (h.zM hx h1 rfl).xP
   have ey := (h.zM hy h2 rfl).xP
   simp only [uJ] at h3
   split at h3
   ·obtain ⟨cv, m1, m2, m3⟩ := oz (P := P) (yk := k') h3 w t
    exact go _ _ cv ex ey (tr w) (by simpa using m1) m2 m3
   ·obtain ⟨cv, m1, m2, m3⟩ := oz (P := P) (yk := k') h3 w t
    exact go _ _ cv ex ey (tr w) (by simpa using m1) m2 m3
   ·rename_i hn1 hn2
    split at h3
    ·rename_i hk
     subst hk
     obtain ⟨cv, m1, m2, m3⟩ := binInt_ok (P := P) h3 w t ⟨hn1, hn2⟩
     exact go _ _ cv ex ey (tr w) m1 m2 m3
    ·cases h3
  | _ => simp [uJ] at h3
 | str s =>
  cases u' with
  | str s' =>
   have ex := (h.zM hx h1 rfl).vK
   have ey := (h.zM hy h2 rfl).vK
   simp only [uJ] at h3
   obtain ⟨cv, m1, m2, m3⟩ := binStr_ok (P := P) h3 w t
   exact go _ _ cv ex ey (oD w) m1 m2 m3
  | _ => simp [uJ] at h3
 | _ => simp [uJ] at h3
theorem ok_eqBool {neq : Bool} {t t' : TypeId} {x y : Operand} {x' y' : Opd} (ho : o.op = .binOp (if neq then .neq else .eql) t x y t') (ht : P.underlying t = some .bool)
 (hx : zp vm lm x x' = true) (hy : zp vm lm y y' = true) {v : LVal} (hs : sem C im impl σ (.uV neq x' y') = some (v, σ')) : yn P o a w (xk P vm lm ρ S G w a σ' v) := by
 simp only [sem, Option.bind_eq_some_iff] at hs
 obtain ⟨u, h1, u', h2, h3⟩ := hs
 split at h3
 ·rename_i b b'
  injection h3 with h3; injection h3 with e1 e2; subst e1; subst e2
  have ex := (h.zM hx h1 rfl).vn
  have ey := (h.zM hy h2 rfl).vn
  refine .value (cv := .bool ((b == b') != neq)) (yi (s := do eqGuard (if neq then .neq else .eql) t x y (a.eval x) (a.eval y); binOp (if neq then .neq else .eql) t (a.eval x) (a.eval y)) (by simp [execOp, ho]) ?_) (.pure h rfl (.bool _))
  rw [ex, ey, Sem.run_bind, pF]
  have e1 : binOp .eql t (.bool b) (.bool b') = (do Pure.pure (.bool (← Op.equalIn (9999 + 1) t (.bool b) (.bool b')))) := rfl
  have e2 : binOp .neq t (.bool b) (.bool b') = (do Pure.pure (.bool !(← Op.equalIn (9999 + 1) t (.bool b) (.bool b')))) := rfl
  cases neq with
  | false => simp only [Bool.false_eq_true, if_false, Result.andThen_ok, e1, Sem.run_bind, run_equalIn_bool ht, Sem.run_pure]; simp
  | true => simp only [if_true, Result.andThen_ok, e2, Sem.run_bind, run_equalIn_bool ht, Sem.run_pure]; simp
 ·cases h3
theorem ok_un {op : UnOp} {t : TypeId} {x : Operand} {x' : Opd} (ho : o.op = .unOp op t x) (hx : zp vm lm x x' = true) {v : LVal}
 (hs : sem C im impl σ (.un op x') = some (v, σ')) : yn P o a w (xk P vm lm ρ S G w a σ' v) := by
 simp only [sem, Option.bind_eq_some_iff, Option.map_eq_some_iff] at hs
 obtain ⟨u, h1, r, h3, e⟩ := hs
 injection e with e1 e2; subst e1; subst e2
 cases u with
 | bool b =>
  have ex := (h.zM hx h1 rfl).vn
  cases op <;> simp [unL] at h3
  subst h3
  exact .value (yi (s := Op.unary .not (a.eval x)) (by simp [execOp, ho]) (by rw [ex]; rfl)) (.pure h rfl (.bool _))
 | int k n =>
  have ex := (h.zM hx h1 rfl).xP
  cases op with
  | neg =>
   simp [unL] at h3; subst h3
   exact .value (yi (s := Op.unary .neg (a.eval x)) (by simp [execOp, ho]) (by rw [ex]; simp [Op.unary, Op.intArith])) (.pure h rfl (.int _ _))
  | xor =>
   simp only [unL] at h3
   injection h3 with h3; subst h3
   exact .value (yi (s := Op.unary .xor (a.eval x)) (by simp [execOp, ho]) (by rw [ex]; simp only [Op.unary, Op.intBits]; rfl)) (.pure h rfl (.int _ _))
  | _ => simp [unL] at h3
 | _ => simp [unL] at h3
theorem ok_nilCheck {x : Operand} {x' : Opd} (ho : o.op = .nilCheck x) (hx : zp vm lm x x' = true) {v : LVal}
 (hs : sem C im impl σ (.nilCheck x') = some (v, σ')) : yn P o a w (xk P vm lm ρ S G w a σ' v) := by
 simp only [sem, Option.bind_eq_some_iff] at hs
 obtain ⟨u, h1, h3⟩ := hs
 cases u with
 | ptr id off =>
  simp at h3; obtain ⟨rfl, rfl⟩ := h3
  have hV := h.zM hx h1 rfl
  obtain ⟨b, hb, ex⟩ := hV.sL
  exact .value (cv := .pointer (some ⟨b, off, none⟩)) (w' := w) (by simp [execOp, ho, ex]) (.pure h rfl (.ptr hb))
 | ref u =>
  simp at h3; obtain ⟨rfl, rfl⟩ := h3
  have hV := h.zM hx h1 rfl
  obtain ⟨b, off, hb, ex⟩ := hV.qV
  exact .value (cv := .pointer (some ⟨b, off, none⟩)) (w' := w) (by simp [execOp, ho, ex]) (.pure h rfl (.ref hb))
 | _ => simp at h3
theorem ok_cvInt {src dst : TypeId} {k : IntKind} {x : Operand} {x' : Opd} (ho : o.op = .convert src dst x) (hs1 : (P.underlying src).isSome = true) (hd : P.underlying dst = some (.int k))
 (hx : zp vm lm x x' = true) {v : LVal} (hs : sem C im impl σ (.xd k x') = some (v, σ')) : yn P o a w (xk P vm lm ρ S G w a σ' v) := by
 simp only [sem, Option.bind_eq_some_iff] at hs
 obtain ⟨u, h1, h3⟩ := hs
 cases u with
 | int k' n =>
  simp at h3; obtain ⟨rfl, rfl⟩ := h3
  have ex := (h.zM hx h1 rfl).xP
  obtain ⟨d, hd'⟩ := Option.isSome_iff_exists.1 hs1
  exact .value (yi (s := convert src dst (a.eval x)) (by simp [execOp, ho]) (by rw [ex]; simp [convert, run_underlying hd', run_underlying hd, Conv.intToInt])) (.pure h rfl (.int _ _))
 | _ => simp at h3
theorem ok_cvId {src dst : TypeId} {x : Operand} {x' : Opd} (ho : o.op = .convert src dst x) (hs1 : P.underlying src = some .string) (hd : P.underlying dst = some .string)
 (hx : zp vm lm x x' = true) {v : LVal} (hs : sem C im impl σ (.cvId x') = some (v, σ')) : yn P o a w (xk P vm lm ρ S G w a σ' v) := by
 simp only [sem, Option.bind_eq_some_iff] at hs
 obtain ⟨u, h1, h3⟩ := hs
 cases u with
 | str s =>
  simp at h3; obtain ⟨rfl, rfl⟩ := h3
  have ex := (h.zM hx h1 rfl).vK
  exact .value (yi (s := convert src dst (a.eval x)) (by simp [execOp, ho]) (by rw [ex]; simp [convert, run_underlying hs1, run_underlying hd])) (.pure h rfl (.str _))
 | _ => simp at h3
omit h in
theorem nU : ∀ {xs : List LVal} {l : List UInt8} {cs : List Value}, wX xs = some l → VL w S [] xs cs →
 ∃ ns : List Int, cs = ns.map (Value.int .u8) ∧ ns.foldl (fun r n => r.push (UInt8.ofNat n.toNat)) ByteArray.empty = ⟨⟨l⟩⟩ ∧ ns.map (fun n => UInt8.ofNat n.toNat) = l := by
 have main : ∀ {xs : List LVal} {l : List UInt8} {cs : List Value}, wX xs = some l → VL w S [] xs cs → ∃ ns : List Int, cs = ns.map (Value.int .u8) ∧ ns.map (fun n => UInt8.ofNat n.toNat) = l := by
  intro xs
  induction xs with
  | nil => intro l cs h1 h2; cases h2; simp [wX] at h1; subst h1; exact ⟨[], rfl, rfl⟩
  | cons v xs ih =>
   intro l cs h1 h2
   cases h2 with
   | cons q1 q2 =>
    simp only [wX, Option.bind_eq_some_iff, Option.map_eq_some_iff] at h1
    obtain ⟨b, hb, l', hl', rfl⟩ := h1
    obtain ⟨ns, e1, e2⟩ := ih hl' q2
    cases v with
    | int k n =>
     cases k <;> simp [pj] at hb
     subst hb
     have := q1.xP
     subst this
     exact ⟨n :: ns, by simp [e1], by simp [e2]⟩
    | _ => simp [pj] at hb
 intro xs l cs h1 h2
 obtain ⟨ns, e1, e2⟩ := main h1 h2
 refine ⟨ns, e1, ?_, e2⟩
 have key : ∀ (ns : List Int) (r : ByteArray), ns.foldl (fun r n => r.push (UInt8.ofNat n.toNat)) r = ⟨r.data ++ (ns.map (fun n => UInt8.ofNat n.toNat)).toArray⟩ := by
  intro ns
  induction ns with
  | nil => intro r; simp
  | cons n ns ih => intro r; simp only [List.foldl_cons]; rw [ih]; simp [ByteArray.push]
 rw [key, e2]
 have he0 : ByteArray.empty.data = #[] := rfl
 rw [he0]; simp
omit h in
theorem flat_one {xs : List LVal} (hu : ∀ x ∈ xs, x.cells.length = 1) (hb : ∀ x ∈ xs, x.isAgg = false) : xs.flatMap LVal.cells = xs := by
 induction xs with
 | nil => rfl
 | cons x xs ih =>
  rw [List.flatMap_cons, ih (fun y hy => hu y (List.mem_cons_of_mem _ hy)) (fun y hy => hb y (List.mem_cons_of_mem _ hy))]
  have := hb x (List.mem_cons_self ..)
  cases x <;> simp_all [LVal.cells, LVal.isAgg]
omit h in
theorem rz : ∀ {xs : List LVal} {l : List UInt8}, wX xs = some l → ∀ x ∈ xs, x.isAgg = false
 | [], _, _, x, hx => by simp at hx
 | v :: xs, l, h1, x, hx => by
  simp only [wX, Option.bind_eq_some_iff, Option.map_eq_some_iff] at h1
  obtain ⟨b, hb, l', hl', rfl⟩ := h1
  rcases List.mem_cons.1 hx with rfl | hx
  ·cases x <;> simp_all [pj, LVal.isAgg]
  ·exact rz hl' x hx
theorem ok_cvStr {src dst e : TypeId} {x : Operand} {x' : Opd} (ho : o.op = .convert src dst x) (hs1 : P.underlying src = some (.slice e)) (he : P.underlying e = some (.int .u8)) (hd : P.underlying dst = some .string)
 (hx : zp vm lm x x' = true) {v : LVal} (hs : sem C im impl σ (.vW x') = some (v, σ')) : yn P o a w (xk P vm lm ρ S G w a σ' v) := by
 simp only [sem, Option.bind_eq_some_iff] at hs
 obtain ⟨u, h1, h3⟩ := hs
 split at h3
 ·rename_i b ow n xs
  split at h3
  case isFalse => cases h3
  rename_i hcond
  simp only [Option.map_eq_some_iff] at h3
  obtain ⟨l, hl, e'⟩ := h3
  injection e' with e1 e2; subst e1; subst e2
  rcases h.rZ hx h1 with ⟨rfl, rfl, ex⟩ | ⟨rfl, bl, off, cap, ex, hcap, hmax, hun, hcells⟩ | ⟨rfl, rfl, ad, ex⟩
  ·simp [wX] at hl; subst hl
   exact .value (yi (s := convert src dst (a.eval x)) (by simp [execOp, ho]) (by rw [ex, run_convert_bytes_string w src dst e none 0 0 hs1 he hd]; rfl)) (.pure h rfl (.str []))
  ·have hflat : xs.flatMap LVal.cells = xs := by
    rcases hcond with h1n | h0
    ·exact flat_one (fun x hx => (hun x hx).trans h1n) (rz hl)
    ·rw [List.eq_nil_of_length_eq_zero h0]; rfl
   rw [hflat] at hcells
   obtain ⟨cs, k1, k2⟩ := hcells.kG
   obtain ⟨ns, q1, q2, q3⟩ := nU hl k1
   have hlen : ns.length = xs.length := by have := k1.length; rw [q1] at this; simpa using this.symm
   refine .value (yi (s := convert src dst (a.eval x)) (by simp [execOp, ho]) (cv := .string ⟨⟨l⟩⟩) (w' := w) ?_) (.pure h rfl (.str l))
   rw [ex, run_convert_bytes_string w src dst e _ _ _ hs1 he hd]
   have hload := run_loadCells_list (P := P) w ⟨bl, off, none⟩ cs (fun j v hj => by rw [mz]; exact k2 j v hj)
   rw [q1] at hload
   simp only [List.length_map, hlen] at hload
   rw [run_bytesToString w _ _ cap ns hload, q2]
  ·simp [wX] at hl; subst hl
   exact .value (yi (s := convert src dst (a.eval x)) (by simp [execOp, ho]) (by rw [ex, run_convert_bytes_string w src dst e (some ad) 0 0 hs1 he hd]; rfl)) (.pure h rfl (.str []))
 ·cases h3
omit h in
theorem lu : ∀ (l : List UInt8), VL w S [] (zy l) (l.map fun b => Value.int .u8 (b.toNat : Int))
 | [] => .nil
 | b :: l => .cons (.int _ _) (lu l)
omit h in
theorem pn (l : List UInt8) : (zy l).all LVal.plain = true := by
 rw [List.all_eq_true]; intro x hx
 obtain ⟨b, _, rfl⟩ := List.mem_map.1 hx; rfl
omit h in
theorem rQ (l : List UInt8) : (zy l).flatMap LVal.cells = zy l := by
 induction l with
 | nil => rfl
 | cons b l ih => show (sd b :: zy l).flatMap LVal.cells = _; rw [List.flatMap_cons, ih]; rfl
omit h in
theorem nV (l : List UInt8) : ∀ x ∈ zy l, x.cells.length = 1 := by
 intro x hx
 obtain ⟨b, _, rfl⟩ := List.mem_map.1 hx; rfl
omit h in
theorem Rel.drew (h : Rel P vm lm ρ S G σ a w) : Rel P vm lm ρ S G σ a w.drew ∧ Pr w S G ρ w.drew S G ρ :=
 ⟨h.yb (fun _ _ hs => ⟨hs, rfl⟩) (Nat.le_refl _) ⟨h.swf.lt, h.swf.fresh, h.swf.box, h.swf.arr⟩ (fun _ _ _ => ⟨rfl, rfl⟩) (fun _ _ _ _ _ _ => ⟨rfl, rfl⟩),
  ⟨rfl, rfl, rfl, Nat.le_refl _, fun _ _ hs => ⟨hs, rfl⟩, zB.refl _, fun _ _ hg => ⟨rfl, hg⟩, fun _ _ hs => .inl hs⟩⟩
theorem ok_cvBytes {src dst e : TypeId} {x : Operand} {x' : Opd} (ho : o.op = .convert src dst x) (hs1 : P.underlying src = some .string) (hd : P.underlying dst = some (.slice e)) (he : P.underlying e = some (.int .u8))
 (hx : zp vm lm x x' = true) {v : LVal} (hs : sem C im impl σ (.vO x') = some (v, σ')) : yn P o a w (xk P vm lm ρ S G w a σ' v) := by
 simp only [sem, Option.bind_eq_some_iff] at hs
 obtain ⟨u, h1, h3⟩ := hs
 cases u with
 | str l =>
  dsimp only at h3
  split at h3
  ·rename_i hl
   injection h3 with h3; injection h3 with e1 e2; subst e1; subst e2
   have ex := (h.zM hx h1 rfl).vK
   obtain ⟨d1, d2⟩ := h.drew
   have hsz : (⟨⟨l⟩⟩ : ByteArray).size = l.length := rfl
   have hlm : l.length ≤ maxLen := by unfold xl at hl; unfold maxLen; omega
   have hcap := grownCap_ge w l.length 0 e
   have hcapm := grownCap_le_maxLen w l.length 0 e hlm
   obtain ⟨m1, m2, m3⟩ := d1.newRo (.cells (bytesRow ⟨⟨l⟩⟩ (grownCap w l.length 0 e)) e ((bytesRow ⟨⟨l⟩⟩ (grownCap w l.length 0 e)).size, (bytesRow ⟨⟨l⟩⟩ (grownCap w l.length 0 e)).size + 1)) l.length
   refine .value (yi (s := convert src dst (a.eval x)) (by simp [execOp, ho]) (by rw [ex]; exact run_bytes_of_string w src dst e _ hs1 hd he)) (.simple m1 rfl ?_ (d2.trans m2))
   have hrow : Row (w.drew.alloc (.cells (bytesRow ⟨⟨l⟩⟩ (grownCap w l.length 0 e)) e ((bytesRow ⟨⟨l⟩⟩ (grownCap w l.length 0 e)).size, (bytesRow ⟨⟨l⟩⟩ (grownCap w l.length 0 e)).size + 1)))
    (tC S w.drew l.length) w.heap.size 0 ((zy l).flatMap LVal.cells) := by
    rw [rQ]
    refine Cells.row fun j v hj => ?_
    have hlt : j < l.length := by have := (List.getElem?_eq_some_iff.1 hj).1; simpa [zy] using this
    refine ⟨.inr ⟨rfl, by omega⟩, .int .u8 (l[j].toNat : Int), ?_, ?_, List.all_eq_true.1 (pn l) v (List.mem_of_getElem? hj)⟩
    ·rw [Nat.zero_add]
     have := World.cell?_alloc_mark w.drew (bytesRow ⟨⟨l⟩⟩ (grownCap w l.length 0 e)) e ((bytesRow ⟨⟨l⟩⟩ (grownCap w l.length 0 e)).size, (bytesRow ⟨⟨l⟩⟩ (grownCap w l.length 0 e)).size + 1) j
     refine Eq.trans this ?_
     rw [bytesRow_at _ _ j (by simpa using hlt)]
     rfl
    ·simp [zy, List.getElem?_eq_getElem hlt] at hj
     subst hj
     exact .int _ _
   have := V.vs (w := w.drew.alloc (.cells (bytesRow ⟨⟨l⟩⟩ (grownCap w l.length 0 e)) e ((bytesRow ⟨⟨l⟩⟩ (grownCap w l.length 0 e)).size, (bytesRow ⟨⟨l⟩⟩ (grownCap w l.length 0 e)).size + 1)))
    (S := tC S w.drew l.length) (ρ := ρ) (o := .sh) (n := 1) (xs := zy l) (b := w.heap.size) (off := 0) (cap := grownCap w l.length 0 e) (by simpa [zy] using hcap) hcapm (by intro h; cases h) (nV l) hrow
   have hl2 : (zy l).length = l.length := by simp [zy]
   rw [hl2] at this
   exact this
  ·cases h3
 | _ => simp at h3
theorem ok_mkIface {t : TypeId} {x : Operand} {x' : Opd} (ho : o.op = .makeInterface t x) (ht : P.concrete t = true) (hx : zp vm lm x x' = true) {v : LVal}
 (hs : sem C im impl σ (.vu t x') = some (v, σ')) : yn P o a w (xk P vm lm ρ S G w a σ' v) := by
 simp only [sem, Option.bind_eq_some_iff] at hs
 obtain ⟨r, h1, h2⟩ := hs
 split at h2
 ·rename_i hp
  injection h2 with h2; injection h2 with e1 e2; subst e1; subst e2
  obtain ⟨S', G', k1, k2, k3, k4⟩ := h.take hx (u := r.1) (σ' := r.2) h1
  refine .value (yi (s := Instr.makeInterface t (a.eval x)) (by simp [execOp, ho]) (run_makeInterface w t _ ht)) (.simple k1 rfl (.iface k2 (by simpa using hp)) k4)
 ·cases h2
theorem ok_mkFunc {f : FuncId} {caps : Array Operand} {ys : List Opd} (ho : o.op = .makeFunc (.func f) #[] caps) (hx : xR vm lm caps.toList ys = true) {v : LVal}
 (hs : sem C im impl σ (.tF f ys) = some (v, σ')) : yn P o a w (xk P vm lm ρ S G w a σ' v) := by
 simp only [sem, Option.bind_eq_some_iff] at hs
 obtain ⟨r, h1, h2⟩ := hs
 split at h2
 ·rename_i hp
  injection h2 with h2; injection h2 with e1 e2; subst e1; subst e2
  obtain ⟨S', G', k1, k2, k3, k4⟩ := h.takes hx (us := r.1) (σ' := r.2) h1
  refine .value (cv := .func (.func f) #[] (caps.map a.eval)) (w' := w) (by simp [execOp, ho, Instr.makeFunc]) (.simple k1 rfl ?_ k4)
  have : caps.map a.eval = ⟨caps.toList.map a.eval⟩ := by apply Array.ext'; simp
  rw [this]
  exact .func k2 hp
 ·cases h2
end
end Go.L
namespace Go.L
open Go
variable {P : Program} {vm : List Nat} {lm : List (Option Nat)} {ρ ρ' : List Nat} {S S' : Nat → Nat → Prop} {G G' : Nat → Cl} {σ σ' : RS} {a : Act} {w w' : World}
variable {C : xV} {im : TypeId → String → Option FuncId} {impl : TypeId → TypeId → Bool}
theorem qW {t : TypeId} {agg : Bool} {n off : Nat} (ht : ry P t agg n = true) {cs : List LVal} {xs : List Value} (hV : VL w S ρ cs xs) (hp : cs.all LVal.plain = true) {v : LVal}
 (h : wF agg cs off n = some v) : ∃ cv, (part t ⟨xs⟩ off).run P w = .ok cv w ∧ V w S ρ v cv ∧ v.simple = true ∧ (v.plain = true ∨ v.isAgg = true) ∧ v.cells = (cs.drop off).take n := by
 obtain ⟨d, i, h1, h2, h3, h4, h5⟩ := uQ ht
 unfold wF at h
 split at h
 ·rename_i hle
  have hlen := hV.length
  cases agg with
  | true =>
   simp at h
   subst h
   have hVs : VL w S ρ ((cs.drop off).take n) ((xs.drop off).take n) := by
    refine VL.of (by simp; omega) (fun j u hj => ?_)
    rw [List.getElem?_take] at hj
    split at hj
    ·rw [List.getElem?_drop] at hj
     obtain ⟨c, hc, hcv⟩ := hV.get _ u hj
     exact ⟨c, by rw [List.getElem?_take, if_pos (by assumption), List.getElem?_drop]; exact hc, hcv⟩
    ·simp at hj
   have hps : ((cs.drop off).take n).all LVal.plain = true := by
    rw [List.all_eq_true]; intro x hx
    exact List.all_eq_true.1 hp x (List.mem_of_mem_drop (List.mem_of_mem_take hx))
   refine ⟨.agg ⟨(xs.drop off).take n⟩, ?_, .agg hVs hps, rfl, .inr rfl, rfl⟩
   unfold part
   simp only [Sem.run_bind, sE h1, h2, Result.andThen_ok, if_true, xS h3, h4]
   have : (⟨xs⟩ : Array Value).extract off (off + n) = ⟨(xs.drop off).take n⟩ := by
    apply Array.ext'
    simp [List.take_drop, Nat.add_sub_cancel_left]
   rw [this]; rfl
  | false =>
   simp only [Bool.false_eq_true, if_false] at h
   split at h
   ·rename_i hn
    subst hn
    obtain ⟨c, hc, hcv⟩ := hV.get _ v h
    have hpv := List.all_eq_true.1 hp v (List.mem_of_getElem? h)
    refine ⟨c, ?_, hcv, LVal.zO hpv, .inl hpv, ?_⟩
    ·unfold part
     simp only [Sem.run_bind, sE h1, h2, Result.andThen_ok, Bool.false_eq_true, if_false]
     have hc' : (⟨xs⟩ : Array Value)[off]? = some c := by simpa using hc
     rw [hc']; rfl
    ·have : v.cells = [v] := by cases v <;> simp_all [LVal.plain, LVal.cells]
     rw [this]
     have hd : cs.drop off = v :: cs.drop (off + 1) := by
      have hlt := (List.getElem?_eq_some_iff.1 h).1
      rw [List.drop_eq_getElem_cons hlt]
      have := (List.getElem?_eq_some_iff.1 h).2
      rw [this]
     rw [hd]; rfl
   ·cases h
 ·cases h
theorem Row.sub {b off : Nat} {l : List LVal} (h : Row w S b off l) (i n : Nat) : Row w S b (off + i) ((l.drop i).take n) := (h.cells.sub i n).row
theorem vY (b off n : Nat) : (⟨b, off, none⟩ : Addr).add n = ⟨b, off + n, none⟩ := mz b off n
def r8 : Nat → TypeDesc → Bool
 | 0, .string | 1, .slice _ | 2, .map _ _ => true
 | _, _ => false
section
variable (h : Rel P vm lm ρ S G σ a w) {o : Oper}
include h
theorem lK {s : TypeId} {x : Operand} {x' : Opd} {f off n : Nat} {agg : Bool} {fs : Array Field} {fl : Field} (ho : o.op = .fieldAddr s x f) (hs0 : P.underlying s = some (.struct fs)) (hf : fs[f]? = some fl)
 (hoff : fl.offset = off) (ht : ry P fl.type agg n = true) (hn : 0 < n) (hx : zp vm lm x x' = true) {v : LVal}
 (hs : sem C im impl σ (.fieldAddr off n agg x') = some (v, σ')) : yn P o a w (xk P vm lm ρ S G w a σ' v) := by
 simp only [sem, Option.bind_eq_some_iff] at hs
 obtain ⟨u, h1, h3⟩ := hs
 obtain ⟨d, i, t1, t2, t3, t4, t5⟩ := uQ ht
 have hrun : ∀ b o', (Instr.fieldAt s (.pointer (some ⟨b, o', none⟩)) f).run P w = .ok (.pointer (some ⟨b, o' + off, none⟩)) w := by
  intro b o'
  unfold Instr.fieldAt
  simp only [Sem.run_bind, run_underlying hs0, Result.andThen_ok, hf, Instr.sureAddr, Sem.run_pure, fieldPlace, xS t3, t4]
  rw [if_neg (by omega)]
  simp [vY, hoff]
 cases u with
 | ptr id o' =>
  simp at h3; obtain ⟨rfl, rfl⟩ := h3
  obtain ⟨b, hb, ex⟩ := (h.zM hx h1 rfl).sL
  exact .value (yi (s := Instr.fieldAt s (a.eval x) f) (by simp [execOp, ho]) (by rw [ex]; exact hrun b o')) (.pure h rfl (.ptr hb))
 | ref u =>
  cases u with
  | agg cs =>
   simp only [Option.map_eq_some_iff] at h3
   obtain ⟨r, hr, e⟩ := h3
   injection e with e1 e2; subst e1; subst e2
   obtain ⟨b, o', hrow, ex⟩ := (h.zM hx h1 rfl).qV
   refine .value (yi (s := Instr.fieldAt s (a.eval x) f) (by simp [execOp, ho]) (by rw [ex]; exact hrun b o')) (.pure h rfl (.ref ?_))
   have hrow' : Row w S b o' cs := hrow
   have hpl : cs.all LVal.plain = true := by
    rw [List.all_eq_true]; intro y hy
    obtain ⟨j, hj, hjy⟩ := List.getElem_of_mem hy
    exact (hrow'.cells j y (by rw [List.getElem?_eq_getElem hj, hjy])).2.choose_spec.2.2
   obtain ⟨cs', k1, _⟩ := hrow'.cells.kG
   obtain ⟨_, _, _, _, _, hcells⟩ := qW ht k1 hpl hr
   rw [hcells]
   exact hrow'.sub off n
  | _ => simp at h3
 | _ => simp at h3
theorem ok_field {s : TypeId} {x : Operand} {x' : Opd} {f off n : Nat} {agg : Bool} {fs : Array Field} {fl : Field} (ho : o.op = .field s x f) (hs0 : P.underlying s = some (.struct fs)) (hf : fs[f]? = some fl)
 (hoff : fl.offset = off) (ht : ry P fl.type agg n = true) (hx : zp vm lm x x' = true) {v : LVal}
 (hs : sem C im impl σ (.field off n agg x') = some (v, σ')) : yn P o a w (xk P vm lm ρ S G w a σ' v) := by
 simp only [sem, Option.bind_eq_some_iff] at hs
 obtain ⟨u, h1, h3⟩ := hs
 cases u with
 | agg cs =>
  simp only [Option.map_eq_some_iff] at h3
  obtain ⟨r, hr, e⟩ := h3
  injection e with e1 e2; subst e1; subst e2
  obtain ⟨xs, q1, q2, ex⟩ := (h.zM hx h1 rfl).pg
  obtain ⟨cv, k1, k2, k3, _⟩ := qW ht q1 q2 hr
  refine .value (yi (s := Instr.field s (a.eval x) f) (by simp [execOp, ho]) ?_) (.pure h k3 k2)
  rw [ex]
  unfold Instr.field
  simp only [Sem.run_bind, run_underlying hs0, Result.andThen_ok, hf, asAgg, Sem.run_pure, hoff]
  exact k1
 | _ => simp at h3
omit h in
theorem uA {i : Int} {len k : Nat} (h : xw i len = some k) : 0 ≤ i ∧ i < (len : Int) ∧ i.toNat = k ∧ k < len := by
 unfold xw at h
 split at h
 ·rename_i hc
  injection h with h
  exact ⟨hc.1, hc.2, h, by omega⟩
 ·cases h
omit h in
theorem qw {v : LVal} {i : Int} (h : uI v = some i) : ∃ k, v = .int k i := by
 cases v <;> simp [uI] at h
 subst h; exact ⟨_, rfl⟩
theorem mo {t e : TypeId} {x i : Operand} {x' i' : Opd} {len esz : Nat} {agg : Bool} (ho : o.op = .indexAddr t x i) (ht : P.underlying t = some (.array len e)) (he : ry P e agg esz = true)
 (hx : zp vm lm x x' = true) (hi : zp vm lm i i' = true) {v : LVal} (hs : sem C im impl σ (.zF len esz agg x' i') = some (v, σ')) : yn P o a w (xk P vm lm ρ S G w a σ' v) := by
 simp only [sem, Option.bind_eq_some_iff] at hs
 obtain ⟨u, h1, iv, h2, i0, h3, k, h4, h5⟩ := hs
 obtain ⟨kk, rfl⟩ := qw h3
 obtain ⟨r1, r2, r3, r4⟩ := uA h4
 obtain ⟨d, inf, t1, t2, t3, t4, t5⟩ := uQ he
 have ei := (h.zM hi h2 rfl).xP
 have hrun : ∀ b o', (Instr.indexAt t (.pointer (some ⟨b, o', none⟩)) (.int kk i0)).run P w = .ok (.pointer (some ⟨b, o' + k * esz, none⟩)) w := by
  intro b o'
  unfold Instr.indexAt
  simp only [Sem.run_bind, asIntOf, Sem.run_pure, Result.andThen_ok, run_underlying ht, Instr.sureAddr]
  simp [r1, r2, xS t3, t4, vY, r3]
 cases u with
 | ptr id o' =>
  simp at h5; obtain ⟨rfl, rfl⟩ := h5
  obtain ⟨b, hb, ex⟩ := (h.zM hx h1 rfl).sL
  exact .value (yi (s := Instr.indexAt t (a.eval x) (a.eval i)) (by simp [execOp, ho]) (by rw [ex, ei]; exact hrun b o')) (.pure h rfl (.ptr hb))
 | ref u =>
  cases u with
  | agg cs =>
   simp only [Option.map_eq_some_iff] at h5
   obtain ⟨r, hr, e'⟩ := h5
   injection e' with e1 e2; subst e1; subst e2
   obtain ⟨b, o', hrow, ex⟩ := (h.zM hx h1 rfl).qV
   refine .value (yi (s := Instr.indexAt t (a.eval x) (a.eval i)) (by simp [execOp, ho]) (by rw [ex, ei]; exact hrun b o')) (.pure h rfl (.ref ?_))
   have hrow' : Row w S b o' cs := hrow
   have hpl : cs.all LVal.plain = true := by
    rw [List.all_eq_true]; intro y hy
    obtain ⟨j, hj, hjy⟩ := List.getElem_of_mem hy
    exact (hrow'.cells j y (by rw [List.getElem?_eq_getElem hj, hjy])).2.choose_spec.2.2
   obtain ⟨cs', k1, _⟩ := hrow'.cells.kG
   obtain ⟨_, _, _, _, _, hcells⟩ := qW he k1 hpl hr
   rw [hcells]
   exact hrow'.sub _ _
  | _ => simp at h5
 | _ => simp at h5
omit h in
theorem flat_elem {n : Nat} {xs : List LVal} (hu : ∀ x ∈ xs, x.cells.length = n) {i : Nat} {v : LVal} (hi : xs[i]? = some v) : ((xs.flatMap LVal.cells).drop (i * n)).take n = v.cells := by
 induction xs generalizing i with
 | nil => simp at hi
 | cons x xs ih =>
  have h0 := hu x (List.mem_cons_self ..)
  rw [List.flatMap_cons]
  cases i with
  | zero =>
   simp at hi; subst hi
   rw [Nat.zero_mul, List.drop_zero, List.take_append_of_le_length (by omega), List.take_of_length_le (by omega)]
  | succ i =>
   rw [List.drop_append]
   rw [List.drop_of_length_le (l := x.cells) (by rw [h0, Nat.add_mul]; omega)]
   have e1 : (i + 1) * n - x.cells.length = i * n := by rw [h0, Nat.add_mul]; omega
   rw [e1, List.nil_append]
   exact ih (fun y hy => hu y (List.mem_cons_of_mem _ hy)) (by simpa using hi)
theorem lJ {t e : TypeId} {x i : Operand} {x' i' : Opd} {esz : Nat} (ho : o.op = .indexAddr t x i) (ht : P.underlying t = some (.slice e)) (he : (P.info? e).map (·.size) = some esz)
 (hx : zp vm lm x x' = true) (hi : zp vm lm i i' = true) {v : LVal} (hs : sem C im impl σ (.zh esz x' i') = some (v, σ')) : yn P o a w (xk P vm lm ρ S G w a σ' v) := by
 simp only [sem, Option.bind_eq_some_iff] at hs
 obtain ⟨iv, h2, i0, h3, r, h1, h5⟩ := hs
 obtain ⟨kk, rfl⟩ := qw h3
 have ei := (h.zM hi h2 rfl).xP
 simp only [Option.map_eq_some_iff] at he
 obtain ⟨inf, t3, t4⟩ := he
 have hrun : ∀ (b o' len cap k : Nat), 0 ≤ i0 → i0 < (len : Int) → i0.toNat = k → (Instr.indexAt t (.slice (some ⟨b, o', none⟩) len cap) (.int kk i0)).run P w = .ok (.pointer (some ⟨b, o' + k * esz, none⟩)) w := by
  intro b o' len cap k r1 r2 r3
  unfold Instr.indexAt
  simp only [Sem.run_bind, asIntOf, Sem.run_pure, Result.andThen_ok, run_underlying ht]
  simp [r1, r2, xS t3, t4, vY, r3]
 obtain ⟨S', G', k1, hV, k3, k4⟩ := h.take hx (u := r.1) (σ' := r.2) h1
 cases hr1 : r.1 with
 | vs b ow n xs =>
  rw [hr1] at h5 hV k3
  dsimp only at h5
  split at h5
  ·rename_i hn
   subst hn
   simp only [Option.bind_eq_some_iff, Option.map_eq_some_iff] at h5
   obtain ⟨k, h4, r', hr, e'⟩ := h5
   injection e' with e1 e2; subst e1; subst e2
   obtain ⟨r1, r2, r3, r4⟩ := uA h4
   generalize hc : a.eval x = cx at hV
   cases hV with
   | oF => simp at hr
   | vz => simp at hr
   | vs q1 q2 q3 q4 q5 =>
    refine .value (yi (s := Instr.indexAt t (a.eval x) (a.eval i)) (by simp [execOp, ho]) (by rw [hc, ei]; exact hrun _ _ _ _ _ r1 r2 r3)) (.simple k1 rfl (.ref ?_) k4)
    have := q5.sub (k * n) n
    rw [flat_elem q4 hr] at this
    exact this
  ·cases h5
 | ms id off len e agg =>
  rw [hr1] at h5 hV k3
  dsimp only at h5
  split at h5
  ·rename_i hn
   subst hn
   simp only [Option.map_eq_some_iff] at h5
   obtain ⟨k, h4, e'⟩ := h5
   injection e' with e1 e2; subst e1; subst e2
   obtain ⟨r1, r2, r3, r4⟩ := uA h4
   obtain ⟨b, cap, hb, _, _, ex⟩ := hV.pK
   exact .value (yi (s := Instr.indexAt t (a.eval x) (a.eval i)) (by simp [execOp, ho]) (by rw [ex, ei]; exact hrun _ _ _ _ _ r1 r2 r3)) (.simple k1 rfl (.ptr hb) k4)
  ·cases h5
 | _ => rw [hr1] at h5; simp at h5
theorem ok_idxArr {t e : TypeId} {x i : Operand} {x' i' : Opd} {len esz : Nat} {agg : Bool} (ho : o.op = .index t x i) (ht : P.underlying t = some (.array len e)) (he : ry P e agg esz = true)
 (hx : zp vm lm x x' = true) (hi : zp vm lm i i' = true) {v : LVal} (hs : sem C im impl σ (.tI len esz agg x' i') = some (v, σ')) : yn P o a w (xk P vm lm ρ S G w a σ' v) := by
 simp only [sem, Option.bind_eq_some_iff] at hs
 obtain ⟨u, h1, iv, h2, i0, h3, k, h4, h5⟩ := hs
 obtain ⟨kk, rfl⟩ := qw h3
 obtain ⟨r1, r2, r3, r4⟩ := uA h4
 have ei := (h.zM hi h2 rfl).xP
 obtain ⟨d, inf, t1, t2, t3, t4, t5⟩ := uQ he
 cases u with
 | agg cs =>
  simp only [Option.map_eq_some_iff] at h5
  obtain ⟨r, hr, e'⟩ := h5
  injection e' with e1 e2; subst e1; subst e2
  obtain ⟨xs, q1, q2, ex⟩ := (h.zM hx h1 rfl).pg
  obtain ⟨cv, k1, k2, k3, _⟩ := qW he q1 q2 hr
  refine .value (yi (s := Instr.index t (a.eval x) (a.eval i)) (by simp [execOp, ho]) ?_) (.pure h k3 k2)
  rw [ex, ei]
  unfold Instr.index
  simp only [Sem.run_bind, asIntOf, Sem.run_pure, Result.andThen_ok, run_underlying ht]
  rw [if_pos ⟨r1, r2⟩]
  simp only [Sem.run_bind, xS t3, Result.andThen_ok, t4, r3]
  exact k1
 | _ => simp at h5
theorem ok_idxStr {t : TypeId} {x i : Operand} {x' i' : Opd} (ho : o.op = .index t x i) (ht : P.underlying t = some .string) (hx : zp vm lm x x' = true) (hi : zp vm lm i i' = true) {v : LVal}
 (hs : sem C im impl σ (.qJ x' i') = some (v, σ')) : yn P o a w (xk P vm lm ρ S G w a σ' v) := by
 simp only [sem, Option.bind_eq_some_iff] at hs
 obtain ⟨u, h1, iv, h2, i0, h3, h5⟩ := hs
 obtain ⟨kk, rfl⟩ := qw h3
 have ei := (h.zM hi h2 rfl).xP
 cases u with
 | str l =>
  simp only [Option.bind_eq_some_iff, Option.map_eq_some_iff] at h5
  obtain ⟨k, h4, b, hb, e'⟩ := h5
  injection e' with e1 e2; subst e1; subst e2
  obtain ⟨r1, r2, r3, r4⟩ := uA h4
  have ex := (h.zM hx h1 rfl).vK
  refine .value (yi (s := Instr.index t (a.eval x) (a.eval i)) (cv := .int .u8 (b.toNat : Int)) (w' := w) (by simp [execOp, ho]) ?_) (.pure h rfl (.int _ _))
  rw [ex, ei]
  unfold Instr.index
  simp only [Sem.run_bind, asIntOf, Sem.run_pure, Result.andThen_ok, run_underlying ht]
  rw [if_pos r1, r3]
  have : (⟨⟨l⟩⟩ : ByteArray)[k]? = some b := by
   obtain ⟨hlt, hb'⟩ := List.getElem?_eq_some_iff.1 hb
   have hsz : k < (⟨⟨l⟩⟩ : ByteArray).size := hlt
   rw [getElem?_pos (⟨⟨l⟩⟩ : ByteArray) k hsz]
   exact congrArg some hb'
  rw [this]
  rfl
 | _ => simp at h5
omit h in
theorem yD {op : BinOp} {t : TypeId} {x y : Operand} {cx cy : Value} (h1 : cx = .nilIface → cy = .nilIface → False) (h2 : ∀ xs ys, cx = .agg xs → cy = .agg ys → False) :
 (eqGuard op t x y cx cy).run P w = .ok () w := by
 have key : ∀ (bb : Bool), (if (!bb) = true then (Pure.pure () : Sem Unit) else match (generalizing := false) cx, cy with
  | .nilIface, .nilIface => if (x matches .const _) || (y matches .const _) then Pure.pure () else do if ← Op.eqGuardIn Op.maxDepth t cx cy then unsupported (.noEntry "binop/eql: two nil values of an interface type with methods, neither of them the literal nil")
  | .agg _, .agg _ => do
   if !(← program).eqGuardType (← program).depth t then return
   if ← Op.eqGuardIn Op.maxDepth t cx cy then unsupported (.noEntry "binop/eql: two nil values of an interface type with methods, in a part of a struct or an array")
  | _, _ => Pure.pure ()).run P w = .ok () w := by
  intro bb
  cases bb with
  | false => rfl
  | true =>
   simp only [Bool.not_true, Bool.false_eq_true, if_false]
   rfl
 exact key _
omit h in
theorem qT {op : BinOp} {t : TypeId} {x : Operand} {cy : Value} : (eqGuard op t x (.const cy) .nilIface .nilIface).run P w = .ok () w := by
 have key : ∀ (bb : Bool), (if (!bb) = true then (Pure.pure () : Sem Unit) else
  if (x matches .const _) || true then Pure.pure () else do if ← Op.eqGuardIn Op.maxDepth t .nilIface .nilIface then unsupported (.noEntry "binop/eql: two nil values of an interface type with methods, neither of them the literal nil")).run P w = .ok () w := by
  intro bb
  cases bb with
  | false => rfl
  | true => simp
 exact key _
omit h in
theorem ri {t e : TypeId} (ht : P.underlying t = some (.pointer e)) (d : Nat) (b : Option Addr) : (Op.equalIn (d + 1) t (.pointer b) (.pointer none)).run P w = .ok b.isNone w := by
 cases b <;> simp [Op.equalIn, run_underlying ht]
omit h in
theorem uX {t e : TypeId} (ht : P.underlying t = some (.slice e)) (d : Nat) (b : Option Addr) (l c : Nat) : (Op.equalIn (d + 1) t (.slice b l c) (.slice none 0 0)).run P w = .ok b.isNone w := by
 cases b <;> simp [Op.equalIn, run_underlying ht]
omit h in
theorem ou {t k e : TypeId} (ht : P.underlying t = some (.map k e)) (d : Nat) (b : Option Nat) : (Op.equalIn (d + 1) t (.map b) (.map none)).run P w = .ok b.isNone w := by
 cases b <;> simp [Op.equalIn, run_underlying ht]
omit h in
theorem lD {t : TypeId} {p r : Array TypeId} {vv : Bool} (ht : P.underlying t = some (.func p r vv)) (d : Nat) (f : Fn) (a b : Array Value) : (Op.equalIn (d + 1) t (.func f a b) .nilFunc).run P w = .ok false w := by
 simp [Op.equalIn, run_underlying ht]
omit h in
theorem oC {t : TypeId} {p r : Array TypeId} {vv : Bool} (ht : P.underlying t = some (.func p r vv)) (d : Nat) : (Op.equalIn (d + 1) t .nilFunc .nilFunc).run P w = .ok true w := by
 simp [Op.equalIn, run_underlying ht]
omit h in
theorem mr {t : TypeId} {ms : Array (String × TypeId)} (ht : P.underlying t = some (.interface ms)) (d : Nat) (t' : TypeId) (x : Value) : (Op.equalIn (d + 1) t (.iface t' x) .nilIface).run P w = .ok false w := by
 simp [Op.equalIn, run_underlying ht]
omit h in
theorem pE {t : TypeId} {ms : Array (String × TypeId)} (ht : P.underlying t = some (.interface ms)) (d : Nat) : (Op.equalIn (d + 1) t .nilIface .nilIface).run P w = .ok true w := by
 simp [Op.equalIn, run_underlying ht]
theorem rf {neq : Bool} {t t' : TypeId} {x y : Operand} {x' : Opd} {kind : Nat} {d : TypeDesc} (ho : o.op = .binOp (if neq then .neq else .eql) t x y t') (ht : P.underlying t = some d)
 (hk : (kind = 0 ∧ ∃ e, d = .pointer e) ∨ (kind = 1 ∧ ∃ e, d = .slice e) ∨ (kind = 2 ∧ ∃ k e, d = .map k e) ∨ (kind = 3 ∧ ∃ p r v, d = .func p r v) ∨ (kind = 4 ∧ ∃ ms, d = .interface ms))
 {c : Value} (hy : y = .const c) (hc : c = (if kind = 0 then .pointer none else if kind = 1 then .slice none 0 0 else if kind = 2 then .map none else if kind = 3 then .nilFunc else .nilIface))
 (hx : zp vm lm x x' = true) {v : LVal} (hs : sem C im impl σ (.isNil kind neq x') = some (v, σ')) : yn P o a w (xk P vm lm ρ S G w a σ' v) := by
 simp only [sem, Option.bind_eq_some_iff, Option.map_eq_some_iff] at hs
 obtain ⟨u, h1, b, h2, e'⟩ := hs
 injection e' with e1 e2; subst e1; subst e2
 have key : ∀ cx, a.eval x = cx → (eqGuard (if neq then .neq else .eql) t x y cx c).run P w = .ok () w → (Op.equalIn (9999 + 1) t cx c).run P w = .ok b w →
  (∀ t, binOp .eql t cx c = (do Pure.pure (.bool (← Op.equalIn (9999 + 1) t cx c)))) → (∀ t, binOp .neq t cx c = (do Pure.pure (.bool !(← Op.equalIn (9999 + 1) t cx c)))) →
  yn P o a w (xk P vm lm ρ S G w a σ (.bool (b != neq))) := by
  intro cx ecx hg he q1 q2
  refine .value (cv := .bool (b != neq)) (yi (s := do eqGuard (if neq then .neq else .eql) t x y (a.eval x) (a.eval y); binOp (if neq then .neq else .eql) t (a.eval x) (a.eval y)) (by simp [execOp, ho]) ?_) (.pure h rfl (.bool _))
  have ey : a.eval y = c := by rw [hy]; rfl
  rw [ecx, ey, Sem.run_bind, hg]
  cases neq with
  | false => simp only [Bool.false_eq_true, if_false, Result.andThen_ok, q1, Sem.run_bind, he, Sem.run_pure]; simp
  | true => simp only [if_true, Result.andThen_ok, q2, Sem.run_bind, he, Sem.run_pure]; simp
 rcases hk with ⟨rfl, e, rfl⟩ | ⟨rfl, e, rfl⟩ | ⟨rfl, k, e, rfl⟩ | ⟨rfl, p, r, vv, rfl⟩ | ⟨rfl, ms, rfl⟩
 ·simp at hc; subst hc
  cases u <;> simp [xX] at h2
  ·subst h2
   obtain ⟨bb, hb, ex⟩ := (h.zM hx h1 rfl).sL
   exact key _ ex (yD (by simp) (by simp)) (ri ht _ _) (fun t => rfl) (fun t => rfl)
  ·subst h2
   obtain ⟨bb, off, hb, ex⟩ := (h.zM hx h1 rfl).qV
   exact key _ ex (yD (by simp) (by simp)) (ri ht _ _) (fun t => rfl) (fun t => rfl)
  ·subst h2
   have ex := (h.zM hx h1 rfl).nilptr_inv
   exact key _ ex (yD (by simp) (by simp)) (ri ht _ _) (fun t => rfl) (fun t => rfl)
 ·simp at hc; subst hc
  cases u <;> simp [xX] at h2
  ·subst h2
   rcases h.rZ hx h1 with ⟨rfl, rfl, ex⟩ | ⟨rfl, bl, off, cap, ex, _⟩ | ⟨rfl, rfl, ad, ex⟩
   ·exact key _ ex (yD (by simp) (by simp)) (uX ht _ _ _ _) (fun t => rfl) (fun t => rfl)
   ·exact key _ ex (yD (by simp) (by simp)) (uX ht _ _ _ _) (fun t => rfl) (fun t => rfl)
   ·exact key _ ex (yD (by simp) (by simp)) (uX ht _ _ _ _) (fun t => rfl) (fun t => rfl)
  ·subst h2
   obtain ⟨bl, cap, hb, _, _, ex⟩ := (h.zM hx h1 rfl).pK
   exact key _ ex (yD (by simp) (by simp)) (uX ht _ _ _ _) (fun t => rfl) (fun t => rfl)
 ·simp at hc; subst hc
  cases u <;> simp [xX] at h2
  ·subst h2
   obtain ⟨bb, hb, ex⟩ := (h.zM hx h1 rfl).oL
   exact key _ ex (yD (by simp) (by simp)) (ou ht _ _) (fun t => rfl) (fun t => rfl)
  ·subst h2
   have ex := (h.zM hx h1 rfl).qH
   exact key _ ex (yD (by simp) (by simp)) (ou ht _ _) (fun t => rfl) (fun t => rfl)
 ·simp at hc; subst hc
  cases u <;> simp [xX] at h2
  ·subst h2
   obtain ⟨cs, hb, ex⟩ := (h.zM hx h1 rfl).func_inv
   exact key _ ex (yD (by simp) (by simp)) (lD ht _ _ _ _) (fun t => rfl) (fun t => rfl)
  ·subst h2
   have ex := (h.zM hx h1 rfl).nilfunc_inv
   exact key _ ex (yD (by simp) (by simp)) (oC ht _) (fun t => rfl) (fun t => rfl)
 ·simp at hc; subst hc
  cases u <;> simp [xX] at h2
  ·subst h2
   obtain ⟨xv, _, _, ex⟩ := (h.zM hx h1 rfl).pO
   exact key _ ex (yD (by simp) (by simp)) (mr ht _ _ _) (fun t => rfl) (fun t => rfl)
  ·subst h2
   have ex := (h.zM hx h1 rfl).qZ
   subst hy
   exact key _ ex qT (pE ht _) (fun t => rfl) (fun t => rfl)
omit h in
theorem uD {b : Builtin} {args : Array Operand} {at_ : Array TypeId} (ho : o.op = .call ⟨.builtin b, args, at_⟩) : ∃ cs, execOp a.eval o = builtin b at_ o.type cs (args.map a.eval) := by
 refine ⟨args.map (fun | .const _ => true | _ => false), ?_⟩
 simp only [execOp, ho, resolve, invoke]
 rfl
omit h in
theorem kT {t ty : TypeId} {at_ : Array TypeId} (hat : at_[0]? = some t) (ht : P.underlying t = some .string) (s : ByteArray) : (Builtin.len_ at_ ty #[.string s]).run P w = .ok (.int .i64 s.size) w := by
 unfold Builtin.len_; rw [hat]; simp [run_underlying ht, goInt]
omit h in
theorem run_len_slice {t ty e : TypeId} {at_ : Array TypeId} (hat : at_[0]? = some t) (ht : P.underlying t = some (.slice e)) (b : Option Addr) (n c : Nat) : (Builtin.len_ at_ ty #[.slice b n c]).run P w = .ok (.int .i64 n) w := by
 unfold Builtin.len_; rw [hat]; simp [run_underlying ht, goInt]
omit h in
theorem nr {t ty k e : TypeId} {at_ : Array TypeId} (hat : at_[0]? = some t) (ht : P.underlying t = some (.map k e)) : (Builtin.len_ at_ ty #[.map none]).run P w = .ok (.int .i64 0) w := by
 unfold Builtin.len_; rw [hat]; simp [run_underlying ht, goInt]
omit h in
theorem run_len_map {t ty k e : TypeId} {at_ : Array TypeId} (hat : at_[0]? = some t) (ht : P.underlying t = some (.map k e)) {r : Nat} {es : Array MapEntry} {cl : Nat} (hr : w.heap[r]? = some (.map es cl)) :
 (Builtin.len_ at_ ty #[.map (some r)]).run P w = .ok (.int .i64 es.size) w := by
 unfold Builtin.len_; rw [hat]; simp [run_underlying ht, goInt, run_getObj_map w r es cl hr]
theorem ok_len {k : Nat} {t : TypeId} {x : Operand} {x' : Opd} {d : TypeDesc} {at_ : Array TypeId} (ho : o.op = .call ⟨.builtin .len, #[x], at_⟩) (hat : at_[0]? = some t) (ht : P.underlying t = some d)
 (hd : r8 k d = true) (hx : zp vm lm x x' = true) {v : LVal} (hs : sem C im impl σ (.len k x') = some (v, σ')) :
 yn P o a w (xk P vm lm ρ S G w a σ' v) := by
 simp only [sem, Option.bind_eq_some_iff, Option.map_eq_some_iff] at hs
 obtain ⟨u, h1, n, h2, e'⟩ := hs
 injection e' with e1 e2; subst e1; subst e2
 obtain ⟨cs, hex⟩ := uD (a := a) ho
 have key : (Builtin.len_ at_ o.type #[a.eval x]).run P w = .ok (.int .i64 n) w → yn P o a w (xk P vm lm ρ S G w a σ (.int .i64 n)) := by
  intro hr
  exact .value (yi (s := Builtin.len_ at_ o.type #[a.eval x]) (by rw [hex]; simp [builtin]) hr) (.pure h rfl (.int _ _))
 refine key ?_
 match k, hd with
 | 0, hd =>
  cases d <;> simp [r8] at hd
  cases u <;> simp [uj] at h2
  subst h2
  rw [(h.zM hx h1 rfl).vK]; exact kT hat ht _
 | 1, hd =>
  cases d <;> simp [r8] at hd
  cases u <;> simp [uj] at h2
  ·subst h2
   rcases h.rZ hx h1 with ⟨rfl, rfl, ex⟩ | ⟨rfl, bl, off, cap, ex, _⟩ | ⟨rfl, rfl, ad, ex⟩
   ·rw [ex]; exact run_len_slice hat ht ..
   ·rw [ex]; exact run_len_slice hat ht ..
   ·rw [ex]; exact run_len_slice hat ht ..
  ·subst h2
   obtain ⟨bl, cap, hb, _, _, ex⟩ := (h.zM hx h1 rfl).pK
   rw [ex]; exact run_len_slice hat ht ..
 | 2, hd =>
  cases d <;> simp [r8] at hd
  cases u <;> simp [uj] at h2
  ·rename_i id
   split at h2
   ·rename_i es hes
    simp at h2; subst h2
    obtain ⟨bb, hb, ex⟩ := (h.zM hx h1 rfl).oL
    obtain ⟨b', ces, cl, hb', hh, _, hsz, _⟩ := h.st _ _ hes
    rw [hb] at hb'; injection hb' with hb'; subst hb'
    rw [ex]
    rw [← hsz]; exact run_len_map hat ht hh
   ·cases h2
  ·subst h2
   rw [(h.zM hx h1 rfl).qH]; exact nr hat ht
 | k + 3, hd => simp [r8] at hd
end
end Go.L
