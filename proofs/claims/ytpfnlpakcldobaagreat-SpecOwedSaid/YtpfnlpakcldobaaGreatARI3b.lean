/- Texts of the proof: RI3b. -/
import Derived.Test.YtpfnlpakcldobaaGreatARI2
set_option linter.unusedVariables false
set_option linter.unusedSimpArgs false
set_option linter.unusedSectionVars false
namespace Go.Proofs.YtpfnlpakcldobaaGreat
open Go Go.L
set_option maxHeartbeats 40000000 in
theorem happen1_no {N K : Nat} {st : List zt} (hs : xA N K st) (w : zw) (hdv : zK w.dv w.ds) (hcv : zN w.cv w.n) (hK : st[K]? = some w.obj) (s e : Nat) (hs10 : s < 10) (he : e < 17) (hls : w.l1.st = s) (hr : i16 w.l1.rest) (id : Int) (data : List UInt8)
 (h : se s e w.l1.rest = false) : zq D.W 52 [.ptr K 0, .int .i64 1, .int .i64 e, .int .i64 id, .str data] st = some (.bool false, some (st.set K ({ w with dv := w.dv.stay, cv := w.cv.stay } : zw).obj)) := by
 refine Ret.eq ?_
 have k := pB w.c s e hs10 he w.l1.rest hr h
 have hlt := hs.lt
 have hlt' : K < N + 1 := by omega
 have F0 := sF hs
 have al := xm hs (zw.within { w with dv := w.dv.stay, cv := w.cv.stay } hdv.stay hcv.stay N)
 rw [zC hK]
 unfold zg.cells at k
 unfold zw.obj zw.cells zg.cells zA.cells zl.cells at *
 simp only [List.cons_append, List.nil_append, hls] at *
 have F := an F0 (an k (eq_true al))
 refine Ret.of wk ?_
 exact ⟨rfl, congrArg some (zz hs _ _ _).symm⟩
set_option maxHeartbeats 40000000 in
theorem happen1_ok {N K : Nat} {st : List zt} (hs : xA N K st) (w : zw) (hdv : zK w.dv w.ds) (hcv : zN w.cv w.n) (hK : st[K]? = some w.obj) (hmc : i16 w.c.mc) (hmt : i16 w.c.mt) (hdl : w.ds.length ≤ 90000) (hcn : w.n ≤ 90000) (s e : Nat) (hs10 : s < 10) (he : e < 17) (hls : w.l1.st = s) (hr : i16 w.l1.rest) (id : Int) (data : List UInt8)
 (h : se s e w.l1.rest = true) : ∃ dv' cv', zK dv' (w.ds ++ (look s e).2.1.flatMap (yI 32801 id data)) ∧ zN cv' (w.n + 1) ∧ zq D.W 52 [.ptr K 0, .int .i64 1, .int .i64 e, .int .i64 id, .str data] st = some (.bool true, some (st.set K (zw.obj ⟨w.c, w.l0, ⟨((look s e).1 : Nat), uv w.c.mc w.c.mt (look s e).2.1 w.l1.rest, w.l1.zT, w.l1.xW, w.l1.zm, w.l1.id, w.l1.opts⟩, w.l2, gF 1 (look s e).2.1 w.g, dv', w.ds ++ (look s e).2.1.flatMap (yI 32801 id data), cv', w.n + 1⟩))) := by
 suffices h : Ret D.W 52 [.ptr K 0, .int .i64 1, .int .i64 e, .int .i64 id, .str data] st (fun v o => ∃ dv' cv', zK dv' (w.ds ++ (look s e).2.1.flatMap (yI 32801 id data)) ∧ zN cv' (w.n + 1) ∧ v = .bool true ∧ o = some (st.set K (zw.obj ⟨w.c, w.l0, ⟨((look s e).1 : Nat), uv w.c.mc w.c.mt (look s e).2.1 w.l1.rest, w.l1.zT, w.l1.xW, w.l1.zm, w.l1.id, w.l1.opts⟩, w.l2, gF 1 (look s e).2.1 w.g, dv', w.ds ++ (look s e).2.1.flatMap (yI 32801 id data), cv', w.n + 1⟩))) by
  obtain ⟨v, o, k, dv', cv', a1, a2, rfl, rfl⟩ := h
  exact ⟨dv', cv', a1, a2, k⟩
 have k := pA w.c hmc hmt s e hs10 he w.l1.rest hr h
 obtain ⟨hsm, hnx⟩ := sP s hs10 e he
 have hlt := hs.lt
 have hlt' : K < N + 1 := by omega
 have h29 := rY
 have sF0 := sF hs
 have al : ∀ (l0 l1 l2 : zA) (g : zl) (dv : LVal) (ds : List yu) (cv : LVal) (n : Nat), zK dv ds → zN cv n → ∀ x ∈ stW st K (zw.obj ⟨w.c, l0, l1, l2, g, dv, ds, cv, n⟩) [], zt.within N x = true := fun l0 l1 l2 g dv ds cv n a b => xm hs (zw.within _ a b N)
 have al1 : ∀ (B : zt) (l0 l1 l2 : zA) (g : zl) (dv : LVal) (ds : List yu) (cv : LVal) (n : Nat), zt.within (N + 1) B = true → zK dv ds → zN cv n → ∀ x ∈ stW st K (zw.obj ⟨w.c, l0, l1, l2, g, dv, ds, cv, n⟩) [B], zt.within (N + 1) x = true := fun B l0 l1 l2 g dv ds cv n hB a b => qR hs (ext := [B]) (zw.within _ a b N) (by simpa using hB)
 rw [zC hK]
 simp only [sb] at k
 generalize (look s e).1 = nx at *
 generalize (look s e).2.1 = yy at *
 generalize hR0 : uv w.c.mc w.c.mt yy w.l1.rest = r0 at *
 have hflat : ∀ a, (yI 32801 id data a).length ≤ 1 := fun a => by unfold yI; split <;> (try split) <;> (try split) <;> (try split) <;> (try split) <;> (try split) <;> (try split) <;> simp
 have hdE : (w.ds ++ yy.flatMap (yI 32801 id data)).length ≤ 100000 := by
  have : (yy.flatMap (yI 32801 id data)).length ≤ yy.length := by
   rw [List.length_flatMap]
   have : ∀ l : List Nat, (l.map fun a => (yI 32801 id data a).length).sum ≤ l.length := by
    intro l
    induction l with
    | nil => simp
    | cons a l ih => simp only [List.map_cons, List.sum_cons, List.length_cons]; have := hflat a; omega
   exact this yy
  simp only [List.length_append]; omega
 have e8 : (w.n + 1) ≤ 140737488355328 := by omega
 have e9 : (w.n + 1) * 24 ≤ 140737488355328 := by omega
 have e10 := vp yy
 have e11 := ur yy
 have e12 := wA
 obtain ⟨cv1, hcv1, happ⟩ : ∃ cv1, zN cv1 (w.n + 1) ∧ ((w.cv = .vs true .sh 0 [] ∧ cv1 = .vs false (.own 65 false) 3 [.agg [.int .i64 32801, .int .i64 s, .int .i64 e]]) ∨ ∃ x xs, w.cv = .vs false (.own 65 x) 3 xs ∧ xs.length = w.n ∧ cv1 = .vs false (.own 65 false) 3 (xs ++ [.agg [.int .i64 32801, .int .i64 s, .int .i64 e]])) := by
  rcases hcv with ⟨hv, h0⟩ | ⟨x, xs, hv, hx1, hx2⟩
  ·exact ⟨_, .inr ⟨false, _, rfl, by simp [h0], rfl⟩, .inl ⟨hv, rfl⟩⟩
  ·refine ⟨_, .inr ⟨false, _, rfl, by simp [hx1], ?_⟩, .inr ⟨x, xs, hv, hx1, rfl⟩⟩
   have pa : ∀ (a b : List LVal), LVal.pfs a = true → LVal.pfs b = true → LVal.pfs (a ++ b) = true := by
    intro a b ha hb
    induction a with
    | nil => exact hb
    | cons y a ih => simp only [List.cons_append, LVal.pfs, Bool.and_eq_true] at ha ⊢; exact ⟨ha.1, ih ha.2⟩
   exact pa _ _ hx2 rfl
 have hdE' := hdE
 have fin0 := al w.l0 ⟨(nx : Nat), r0, w.l1.zT, w.l1.xW, w.l1.zm, w.l1.id, w.l1.opts⟩ w.l2 w.g w.dv.stay w.ds cv1 (w.n + 1) hdv.stay hcv1
 have fin1 := al1 (.cells 26 [.int .i64 nx, .int .i64 r0]) w.l0 ⟨(nx : Nat), r0, w.l1.zT, w.l1.xW, w.l1.zm, w.l1.id, w.l1.opts⟩ w.l2 w.g w.dv.stay w.ds cv1 (w.n + 1) rfl hdv.stay hcv1
 have mid0 := fun dv cv => al w.l0 ⟨(nx : Nat), r0, w.l1.zT, w.l1.xW, w.l1.zm, w.l1.id, w.l1.opts⟩ w.l2 (gF 1 yy w.g) dv (w.ds ++ yy.flatMap (yI 32801 id data)) cv (w.n + 1)
 have mid1 := fun dv cv => al1 (.cells 26 [.int .i64 nx, .int .i64 r0]) w.l0 ⟨(nx : Nat), r0, w.l1.zT, w.l1.xW, w.l1.zm, w.l1.id, w.l1.opts⟩ w.l2 (gF 1 yy w.g) dv (w.ds ++ yy.flatMap (yI 32801 id data)) cv (w.n + 1) rfl
 clear al al1
 unfold zg.cells at k
 refine yU fn52 rfl (fun h => by cases h) ?_
 simp only [Go.L.zc, List.map_cons, List.map_nil, Option.bind_some, Option.bind_none, Option.getD_some, Option.getD_none, List.getElem?_cons_zero, List.getElem?_cons_succ, zY.zH, if_true, Bool.false_eq_true, if_false, ite_self]
 unfold D.c52
 unfold D.r52_0
 unfold D.r52_1
 unfold zw.obj zw.cells zg.cells zA.cells zl.cells at *
 simp only [List.cons_append, List.nil_append, hls] at *
 by_cases ha : yy = []
 ·subst ha
  simp only [if_true, List.flatMap_nil, List.append_nil, gF] at *
  unfold D.b52_2
  rcases happ with ⟨hv, rfl⟩ | ⟨x, xs, hv, hx1, rfl⟩
  ·rw [hv] at *
   (have F := an sF0 (an hlt (an hlt' (an k (an h29 (an e8 (an e9 (an e12 (eq_true fin1)))))))); refine mi ?_)
   (have F := an sF0 (an hlt (an hlt' (eq_true fin0))); refine fnw ?_)
   exact ⟨w.dv.stay, _, hdv.stay, hcv1, rfl, congrArg some (zz hs _ _ _).symm⟩
  ·rw [hv] at *
   rw [← hx1] at e8 e9
   (have F := an sF0 (an hlt (an hlt' (an k (an h29 (an e8 (an e9 (an e12 (eq_true fin1)))))))); refine mi ?_)
   (have F := an sF0 (an hlt (an hlt' (eq_true fin0))); refine fnw ?_)
   exact ⟨w.dv.stay, _, hdv.stay, hcv1, rfl, congrArg some (zz hs _ _ _).symm⟩
 ·rw [if_neg ha] at k
  rcases happ with ⟨hv, rfl⟩ | ⟨x, xs, hv, hx1, rfl⟩
  ·rw [hv] at *
   (have F := an sF0 (an hlt (an hlt' (an k (an h29 (an e8 (an e9 (an e10 (an e11 e12)))))))); refine gow ?_)
   refine qI hs w.c w.l0 ⟨(nx : Nat), r0, w.l1.zT, w.l1.xW, w.l1.zm, w.l1.id, w.l1.opts⟩ w.l2 (w.n + 1) 1 id 32801 data (.cells 26 [.int .i64 nx, .int .i64 r0]) rfl rfl yy hsm _ hdE' (gF 1 yy w.g) _ ?_ yy.length 0 w.g w.dv.stay w.ds _ _ _ _ _ _ _ _ _ (by omega) rfl rfl rfl rfl rfl rfl rfl rfl hdv.stay hcv1 (by rw [List.drop_zero]) (by rw [List.drop_zero])
   intro dv cv v2 v5 v6 v7 v8 v9 v11 v12 v16 hd hc
   have m0 := mid0 dv cv hd hc
   have m1 := mid1 dv cv hd hc
   unfold zw.obj zw.cells zg.cells zA.cells zl.cells
   simp only [List.cons_append, List.nil_append]
   (have F := an sF0 (an hlt (an hlt' (an e12 (eq_true m1)))); refine gow ?_)
   (have F := an sF0 (an hlt (an hlt' (eq_true m0))); refine fnw ?_)
   exact ⟨dv, cv, hd, hc, rfl, congrArg some (zz hs _ _ _).symm⟩
  ·rw [hv] at *
   rw [← hx1] at e8 e9
   (have F := an sF0 (an hlt (an hlt' (an k (an h29 (an e8 (an e9 (an e10 (an e11 e12)))))))); refine gow ?_)
   refine qI hs w.c w.l0 ⟨(nx : Nat), r0, w.l1.zT, w.l1.xW, w.l1.zm, w.l1.id, w.l1.opts⟩ w.l2 (w.n + 1) 1 id 32801 data (.cells 26 [.int .i64 nx, .int .i64 r0]) rfl rfl yy hsm _ hdE' (gF 1 yy w.g) _ ?_ yy.length 0 w.g w.dv.stay w.ds _ _ _ _ _ _ _ _ _ (by omega) rfl rfl rfl rfl rfl rfl rfl rfl hdv.stay hcv1 (by rw [List.drop_zero]) (by rw [List.drop_zero])
   intro dv cv v2 v5 v6 v7 v8 v9 v11 v12 v16 hd hc
   have m0 := mid0 dv cv hd hc
   have m1 := mid1 dv cv hd hc
   unfold zw.obj zw.cells zg.cells zA.cells zl.cells
   simp only [List.cons_append, List.nil_append]
   (have F := an sF0 (an hlt (an hlt' (an e12 (eq_true m1)))); refine gow ?_)
   (have F := an sF0 (an hlt (an hlt' (eq_true m0))); refine fnw ?_)
   exact ⟨dv, cv, hd, hc, rfl, congrArg some (zz hs _ _ _).symm⟩
end Go.Proofs.YtpfnlpakcldobaaGreat
