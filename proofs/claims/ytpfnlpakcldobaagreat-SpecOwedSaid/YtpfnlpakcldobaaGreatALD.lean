/- Texts of the proof: L18 L19 L20 L21 L22 L23. -/
import Derived.Test.YtpfnlpakcldobaaGreatALA
set_option linter.unusedVariables false
set_option linter.unusedSimpArgs false
set_option linter.unusedSectionVars false
namespace Go.L
variable {C : xV} {im : TypeId → String → Option FuncId} {impl : TypeId → TypeId → Bool}
def Opd.same : Opd → Opd → Bool
 | .loc i, .loc j => i == j
 | .var i, .var j => i == j
 | _, _ => false
theorem x7 {α : Type} {l : List α} {i : Nat} {v : α} (h : l[i]? = some v) : l.set i v = l := by
 apply List.ext_getElem?
 intro j
 rw [List.getElem?_set]
 split
 ·rename_i e; subst e
  obtain ⟨h1, h2⟩ := List.getElem?_eq_some_iff.1 h
  simp [h1, h2]
 ·rfl
theorem calm1_weak {b : Bool} {v : LVal} (h : v.xg b = true) : v.xg false = true := by
 cases b with
 | false => exact h
 | true => cases v with
  | vs n o k xs => cases o <;> simp_all [LVal.xg]
  | _ => first | rfl | simp [LVal.xg] at h
theorem tA {b : Bool} {v : LVal} (h : v.calm b = true) : v.calm false = true := by
 have key : (∀ l, v ≠ .tup l) → v.calm false = true := fun hn => by
  have e : ∀ b, v.calm b = v.xg b := fun b => by cases v <;> first | rfl | exact absurd rfl (hn _)
  rw [e] at h ⊢
  exact calm1_weak h
 cases v with
 | tup l => exact h
 | _ => exact key (by simp)
theorem wu {s s' : RS} {x : Opd} {u : LVal} (h : s.take x = some (u, s')) (hc : (s.zu x).any (LVal.calm false) = true) :
 s' = s ∧ ∀ s2 : RS, s2.zu x = s.zu x → s2.take x = some (u, s2) := by
 cases x with
 | const v => simp [RS.take] at h; obtain ⟨rfl, rfl⟩ := h; exact ⟨rfl, fun s2 _ => rfl⟩
 | loc i =>
  simp only [RS.take, Option.bind_eq_some_iff, Option.map_eq_some_iff] at h
  obtain ⟨v, hv, u', hu, e⟩ := h
  simp only [RS.zu, hv, Option.any_some] at hc
  have key : ∀ (s2 : RS), s2.rs[i]? = some v → (if v.zr then { s2 with rs := s2.rs.set i v.stay } else s2) = s2 := by
   intro s2 h2
   split
   ·rename_i ho
    have : v.stay = v := by
     cases v with
     | vs b o n xs => cases o <;> simp_all [LVal.zr, LVal.calm, LVal.xg, LVal.stay]
     | _ => simp [LVal.zr] at ho
    rw [this, x7 h2]
   ·rfl
  rw [key s hv] at e
  injection e with e1 e2
  refine ⟨e2.symm, fun s2 h2 => ?_⟩
  have h2' : s2.rs[i]? = some v := by simpa [RS.zu, hv] using h2
  simp only [RS.take, h2', Option.bind_some, hu, Option.map_some, key s2 h2', e1]
 | var i =>
  simp only [RS.take, Option.bind_eq_some_iff, Option.map_eq_some_iff] at h
  obtain ⟨v, hv, u', hu, e⟩ := h
  simp only [RS.zu, hv, Option.any_some] at hc
  have key : ∀ (s2 : RS), s2.vars[i]? = some v → (if v.zr then { s2 with vars := s2.vars.set i v.stay } else s2) = s2 := by
   intro s2 h2
   split
   ·rename_i ho
    have : v.stay = v := by
     cases v with
     | vs b o n xs => cases o <;> simp_all [LVal.zr, LVal.calm, LVal.xg, LVal.stay]
     | _ => simp [LVal.zr] at ho
    rw [this, x7 h2]
   ·rfl
  rw [key s hv] at e
  injection e with e1 e2
  refine ⟨e2.symm, fun s2 h2 => ?_⟩
  have h2' : s2.vars[i]? = some v := by simpa [RS.zu, hv] using h2
  simp only [RS.take, h2', Option.bind_some, hu, Option.map_some, key s2 h2', e1]
def rU (s : RS) (xs : List Opd) : Prop := ∀ x ∈ xs, (s.zu x).any (LVal.calm false) = true
def Alike (s2 s : RS) (xs : List Opd) : Prop := ∀ x ∈ xs, s2.zu x = s.zu x
theorem oX : ∀ {xs : List Opd} {s s' : RS} {us : List LVal}, s.takes xs = some (us, s') → rU s xs → s' = s ∧ ∀ s2 : RS, Alike s2 s xs → s2.takes xs = some (us, s2)
 | [], s, s', us, h, _ => by simp [RS.takes] at h; obtain ⟨rfl, rfl⟩ := h; exact ⟨rfl, fun _ _ => rfl⟩
 | x :: xs, s, s', us, h, hc => by
  simp only [RS.takes, Option.bind_eq_some_iff, Option.map_eq_some_iff] at h
  obtain ⟨⟨u, s1⟩, h1, ⟨us', s2'⟩, h2, e⟩ := h
  injection e with e1 e2
  dsimp only at h2 e1 e2
  obtain ⟨rfl, k1⟩ := wu h1 (hc x (List.mem_cons_self ..))
  obtain ⟨rfl, k2⟩ := oX h2 (fun y hy => hc y (List.mem_cons_of_mem _ hy))
  refine ⟨e2.symm, fun s3 h3 => ?_⟩
  simp only [RS.takes, k1 s3 (h3 x (List.mem_cons_self ..)), Option.bind_some, k2 s3 (fun y hy => h3 y (List.mem_cons_of_mem _ hy)), Option.map_some, e1]
theorem rp : ∀ {xs : List (Nat × Nat × Opd)} {s s' : RS} {us : List (Nat × Nat × LVal)}, s.zR xs = some (us, s') → rU s (xs.map (·.2.2)) → s' = s ∧ ∀ s2 : RS, Alike s2 s (xs.map (·.2.2)) → s2.zR xs = some (us, s2)
 | [], s, s', us, h, _ => by simp [RS.zR] at h; obtain ⟨rfl, rfl⟩ := h; exact ⟨rfl, fun _ _ => rfl⟩
 | (off, n, x) :: xs, s, s', us, h, hc => by
  simp only [RS.zR, Option.bind_eq_some_iff, Option.map_eq_some_iff] at h
  obtain ⟨⟨u, s1⟩, h1, ⟨us', s2'⟩, h2, e⟩ := h
  injection e with e1 e2
  dsimp only at h2 e1 e2
  obtain ⟨rfl, k1⟩ := wu h1 (hc x (by simp))
  obtain ⟨rfl, k2⟩ := rp h2 (fun y hy => hc y (List.mem_cons_of_mem _ hy))
  refine ⟨e2.symm, fun s3 h3 => ?_⟩
  simp only [RS.zR, k1 s3 (h3 x (by simp)), Option.bind_some, k2 s3 (fun y hy => h3 y (List.mem_cons_of_mem _ hy)), Option.map_some, e1]
theorem rn : ∀ {xs : List (Nat × Opd)} {s s' : RS} {us : List (Nat × LVal)}, s.zS xs = some (us, s') → rU s (xs.map (·.2)) → s' = s ∧ ∀ s2 : RS, Alike s2 s (xs.map (·.2)) → s2.zS xs = some (us, s2)
 | [], s, s', us, h, _ => by simp [RS.zS] at h; obtain ⟨rfl, rfl⟩ := h; exact ⟨rfl, fun _ _ => rfl⟩
 | (i, x) :: xs, s, s', us, h, hc => by
  simp only [RS.zS, Option.bind_eq_some_iff, Option.map_eq_some_iff] at h
  obtain ⟨⟨u, s1⟩, h1, ⟨us', s2'⟩, h2, e⟩ := h
  injection e with e1 e2
  dsimp only at h2 e1 e2
  obtain ⟨rfl, k1⟩ := wu h1 (hc x (by simp))
  obtain ⟨rfl, k2⟩ := rn h2 (fun y hy => hc y (List.mem_cons_of_mem _ hy))
  refine ⟨e2.symm, fun s3 h3 => ?_⟩
  simp only [RS.zS, k1 s3 (h3 x (by simp)), Option.bind_some, k2 s3 (fun y hy => h3 y (List.mem_cons_of_mem _ hy)), Option.map_some, e1]
theorem oq : ∀ {xs : List Opd} {s s2 : RS}, Alike s2 s xs → s2.yt xs = s.yt xs
 | [], _, _, _ => rfl
 | x :: xs, s, s2, h => by simp only [RS.yt, h x (List.mem_cons_self ..), oq (fun y hy => h y (List.mem_cons_of_mem _ hy))]
theorem peekO_alike : ∀ {x : Option Opd} {s s2 : RS}, Alike s2 s (uk x) → s2.xe x = s.xe x
 | none, _, _, _ => rfl
 | some x, s, s2, h => by simp only [RS.xe, h x (by simp [uk])]
def QOK (xs : List Opd) (s : RS) (f : RS → Option (LVal × RS)) : Prop := ∀ v s', f s = some (v, s') → s' = s ∧ ∀ s2 : RS, Alike s2 s xs → f s2 = some (v, s2)
theorem QOK.none {xs s} : QOK xs s (fun _ => Option.none) := fun _ _ h => by cases h
theorem QOK.some {xs s} (v : LVal) : QOK xs s (fun s => Option.some (v, s)) := fun _ _ h => by
 injection h with h; injection h with h1 h2; subst h1; subst h2; exact ⟨rfl, fun _ _ => rfl⟩
theorem QOK.map {xs s} {α : Type} (o : Option α) (g : α → LVal) : QOK xs s (fun s => o.map fun r => (g r, s)) := by
 cases o with
 | none => exact QOK.none
 | some r => exact QOK.some _
theorem QOK.s9 {xs s} {α : Type} {o : Option α} {g : α → RS → Option (LVal × RS)} (h : ∀ a, QOK xs s (g a)) : QOK xs s (fun s => o.bind fun a => g a s) := by
 cases o with
 | none => exact QOK.none
 | some r => exact h r
theorem QOK.zu {xs s} {x : Opd} {g : LVal → RS → Option (LVal × RS)} (hx : x ∈ xs) (h : ∀ u, QOK xs s (g u)) : QOK xs s (fun s => (s.zu x).bind fun u => g u s) := by
 intro v s' hv
 simp only [Option.bind_eq_some_iff] at hv
 obtain ⟨u, hu, h2⟩ := hv
 obtain ⟨rfl, k⟩ := h u v s' h2
 exact ⟨rfl, fun s2 h2 => by simp only [h2 x hx, hu, Option.bind_some]; exact k s2 h2⟩
theorem QOK.xe {xs s} {x : Option Opd} {g : Option LVal → RS → Option (LVal × RS)} (hx : ∀ y ∈ uk x, y ∈ xs) (h : ∀ u, QOK xs s (g u)) : QOK xs s (fun s => (s.xe x).bind fun u => g u s) := by
 intro v s' hv
 simp only [Option.bind_eq_some_iff] at hv
 obtain ⟨u, hu, h2⟩ := hv
 obtain ⟨rfl, k⟩ := h u v s' h2
 exact ⟨rfl, fun s2 h2 => by simp only [peekO_alike (fun y hy => h2 y (hx y hy)), hu, Option.bind_some]; exact k s2 h2⟩
theorem QOK.yt {xs s} {x : List Opd} {g : List LVal → RS → Option (LVal × RS)} (hx : ∀ y ∈ x, y ∈ xs) (h : ∀ u, QOK xs s (g u)) : QOK xs s (fun s => (s.yt x).bind fun u => g u s) := by
 intro v s' hv
 simp only [Option.bind_eq_some_iff] at hv
 obtain ⟨u, hu, h2⟩ := hv
 obtain ⟨rfl, k⟩ := h u v s' h2
 exact ⟨rfl, fun s2 h2 => by simp only [oq (fun y hy => h2 y (hx y hy)), hu, Option.bind_some]; exact k s2 h2⟩
theorem QOK.take {xs s} {x : Opd} {g : LVal × RS → Option (LVal × RS)} (hx : x ∈ xs) (hc : (s.zu x).any (LVal.calm false) = true) (h : ∀ u, QOK xs s (fun s => g (u, s))) : QOK xs s (fun s => (s.take x).bind g) := by
 intro v s' hv
 simp only [Option.bind_eq_some_iff] at hv
 obtain ⟨⟨u, s1⟩, hu, h2⟩ := hv
 obtain ⟨rfl, k1⟩ := wu hu hc
 obtain ⟨rfl, k⟩ := h u v s' h2
 exact ⟨rfl, fun s2 h2 => by simp only [k1 s2 (h2 x hx), Option.bind_some]; exact k s2 h2⟩
theorem QOK.takes {xs s} {x : List Opd} {g : List LVal × RS → Option (LVal × RS)} (hx : ∀ y ∈ x, y ∈ xs) (hc : rU s x) (h : ∀ u, QOK xs s (fun s => g (u, s))) : QOK xs s (fun s => (s.takes x).bind g) := by
 intro v s' hv
 simp only [Option.bind_eq_some_iff] at hv
 obtain ⟨⟨u, s1⟩, hu, h2⟩ := hv
 obtain ⟨rfl, k1⟩ := oX hu hc
 obtain ⟨rfl, k⟩ := h u v s' h2
 exact ⟨rfl, fun s2 h2 => by simp only [k1 s2 (fun y hy => h2 y (hx y hy)), Option.bind_some]; exact k s2 h2⟩
theorem QOK.zR {xs s} {x : List (Nat × Nat × Opd)} {g : List (Nat × Nat × LVal) × RS → Option (LVal × RS)} (hx : ∀ y ∈ x.map (·.2.2), y ∈ xs) (hc : rU s (x.map (·.2.2))) (h : ∀ u, QOK xs s (fun s => g (u, s))) : QOK xs s (fun s => (s.zR x).bind g) := by
 intro v s' hv
 simp only [Option.bind_eq_some_iff] at hv
 obtain ⟨⟨u, s1⟩, hu, h2⟩ := hv
 obtain ⟨rfl, k1⟩ := rp hu hc
 obtain ⟨rfl, k⟩ := h u v s' h2
 exact ⟨rfl, fun s2 h2 => by simp only [k1 s2 (fun y hy => h2 y (hx y hy)), Option.bind_some]; exact k s2 h2⟩
theorem QOK.zS {xs s} {x : List (Nat × Opd)} {g : List (Nat × LVal) × RS → Option (LVal × RS)} (hx : ∀ y ∈ x.map (·.2), y ∈ xs) (hc : rU s (x.map (·.2))) (h : ∀ u, QOK xs s (fun s => g (u, s))) : QOK xs s (fun s => (s.zS x).bind g) := by
 intro v s' hv
 simp only [Option.bind_eq_some_iff] at hv
 obtain ⟨⟨u, s1⟩, hu, h2⟩ := hv
 obtain ⟨rfl, k1⟩ := rn hu hc
 obtain ⟨rfl, k⟩ := h u v s' h2
 exact ⟨rfl, fun s2 h2 => by simp only [k1 s2 (fun y hy => h2 y (hx y hy)), Option.bind_some]; exact k s2 h2⟩
theorem quiet_sem {s : RS} {op : LOp} (hq : op.quiet = true) (hl : op.looks = false) (hp : op.yt = false) (hc : rU s op.zQ) : QOK op.zQ s (fun s => sem C im impl s op) := by
 cases op with
 | mv x p =>
  cases x with
  | loc i => simp [LOp.quiet] at hq
  | var k =>
   simp only [LOp.yt] at hp; subst hp
   intro v s' h
   obtain ⟨rfl, k1⟩ := wu (x := .var k) h (hc _ (by simp [LOp.zQ]))
   exact ⟨rfl, fun s2 h2 => k1 s2 (h2 _ (by simp [LOp.zQ]))⟩
  | const c =>
   intro v s' h
   have h' : RS.take s (.const c) = some (v, s') := by cases p <;> exact h
   obtain ⟨rfl, k1⟩ := wu (x := .const c) h' (hc _ (by simp [LOp.zQ]))
   exact ⟨rfl, fun s2 h2 => by have := k1 s2 rfl; cases p <;> exact this⟩
 | pick c x y =>
  refine QOK.zu (by simp [LOp.zQ]) fun u => ?_
  cases u with
  | bool t =>
   cases t with
   | true =>
    intro v s' h
    obtain ⟨rfl, k1⟩ := wu (x := x) h (hc _ (by simp [LOp.zQ]))
    exact ⟨rfl, fun s2 h2 => k1 s2 (h2 _ (by simp [LOp.zQ]))⟩
   | false =>
    intro v s' h
    obtain ⟨rfl, k1⟩ := wu (x := y) h (hc _ (by simp [LOp.zQ]))
    exact ⟨rfl, fun s2 h2 => k1 s2 (h2 _ (by simp [LOp.zQ]))⟩
  | _ => exact QOK.none
 | build z ps =>
  refine QOK.zR (fun y hy => hy) hc fun u => ?_
  by_cases hb : u.all (fun p => p.2.2.cells.all LVal.plain) = true
  ·simp only [hb, if_true]; exact QOK.map _ _
  ·simp only [hb]; exact QOK.none
 | zI z e len ps =>
  refine QOK.zS (fun y hy => hy) hc fun u => ?_
  by_cases hb : z.cells.length = e ∧ u.all (fun p => yO z p.2) = true
  ·simp only [hb, and_self, if_true]; exact QOK.map _ _
  ·simp only [hb, if_false]; exact QOK.none
 | nilCheck x => exact QOK.zu (by simp [LOp.zQ]) fun u => by cases u <;> first | exact QOK.some _ | exact QOK.none
 | bin op x y => exact QOK.zu (by simp [LOp.zQ]) fun u => QOK.zu (by simp [LOp.zQ]) fun v => QOK.map _ _
 | un op x => exact QOK.zu (by simp [LOp.zQ]) fun u => QOK.map _ _
 | wU neq ks x y =>
  exact QOK.zu (by simp [LOp.zQ]) fun u => QOK.zu (by simp [LOp.zQ]) fun v => by
   cases u <;> cases v <;> try exact QOK.none
   dsimp only
   split
   ·exact QOK.map _ _
   ·exact QOK.none
 | isNil k neq x => exact QOK.zu (by simp [LOp.zQ]) fun u => QOK.map _ _
 | uV neq x y => exact QOK.zu (by simp [LOp.zQ]) fun u => QOK.zu (by simp [LOp.zQ]) fun v => by cases u <;> cases v <;> first | exact QOK.some _ | exact QOK.none
 | xd k x => exact QOK.zu (by simp [LOp.zQ]) fun u => by cases u <;> first | exact QOK.some _ | exact QOK.none
 | cvId x => exact QOK.zu (by simp [LOp.zQ]) fun u => by cases u <;> first | exact QOK.some _ | exact QOK.none
 | vW x =>
  exact QOK.zu (by simp [LOp.zQ]) fun u => by
   cases u with
   | vs b o n xs =>
    dsimp only
    split
    ·exact QOK.map _ _
    ·exact QOK.none
   | _ => exact QOK.none
 | vO x =>
  exact QOK.zu (by simp [LOp.zQ]) fun u => by
   cases u with
   | str l =>
    dsimp only
    split
    ·exact QOK.some _
    ·exact QOK.none
   | _ => exact QOK.none
 | vu t x =>
  exact QOK.take (by simp [LOp.zQ]) (hc _ (by simp [LOp.zQ])) fun u => by
   by_cases hb : (u.plain || u.isAgg) = true
   ·simp only [hb, if_true]; exact QOK.some _
   ·simp only [hb]; exact QOK.none
 | tF f caps =>
  exact QOK.takes (fun y hy => hy) hc fun u => by
   by_cases hb : u.all LVal.plain = true
   ·simp only [hb, if_true]; exact QOK.some _
   ·simp only [hb]; exact QOK.none
 | makeSlice z e esz bytes l c m =>
  simp only [LOp.quiet, Bool.not_eq_true'] at hq
  subst hq
  refine QOK.zu (by simp [LOp.zQ]) fun u => QOK.zu (by simp [LOp.zQ]) fun v => ?_
  cases u <;> cases v <;> try exact QOK.none
  dsimp only
  split
  ·simp only [Bool.false_eq_true, if_false]; exact QOK.some _
  ·exact QOK.none
 | tD x lo hi =>
  exact QOK.zu (by simp [LOp.zQ]) fun u => QOK.xe (fun y hy => by simp [LOp.zQ, hy]) fun lo => QOK.xe (fun y hy => by simp [LOp.zQ, hy]) fun hi => by
   cases u <;> first | exact QOK.s9 fun _ => QOK.map _ _ | exact QOK.none
 | xf e x lo0 hi0 mx0 =>
  exact QOK.xe (fun y hy => by simp [LOp.zQ, hy]) fun lo => QOK.xe (fun y hy => by simp [LOp.zQ, hy]) fun hi => QOK.xe (fun y hy => by simp [LOp.zQ, hy]) fun mx => QOK.zu (by simp [LOp.zQ]) fun u => by
   have general : QOK (LOp.xf e x lo0 hi0 mx0).zQ s (fun s => (s.take x).bind fun r => match r.1 with
    | .vs b o n xs => if n = e ∨ b = true then (bound mx xs.length xs.length).bind fun m => (bound hi xs.length m).bind fun h => (bound lo 0 h).map fun lo =>
     (.vs b (if mx.isSome then (if m = h then .full else .sh) else if o = .full ∧ h = xs.length then .full else .sh) n ((xs.take h).drop lo), r.2) else none
    | _ => none) := QOK.take (by simp [LOp.zQ]) (hc _ (by simp [LOp.zQ])) fun w => by
     cases w with
     | vs b o n xs =>
      dsimp only
      split
      ·exact QOK.s9 fun _ => QOK.s9 fun _ => QOK.map _ _
      ·exact QOK.none
     | _ => exact QOK.none
   cases u with
   | ms id off len e' agg =>
    dsimp only
    split
    ·exact QOK.s9 fun _ => QOK.map _ _
    ·exact QOK.none
   | _ => exact general
 | fieldAddr off n agg x =>
  exact QOK.zu (by simp [LOp.zQ]) fun u => by
   cases u with
   | ptr id o => exact QOK.some _
   | ref v => cases v <;> first | exact QOK.map _ _ | exact QOK.none
   | _ => exact QOK.none
 | field off n agg x => exact QOK.zu (by simp [LOp.zQ]) fun u => by cases u <;> first | exact QOK.map _ _ | exact QOK.none
 | zF len e agg x i =>
  exact QOK.zu (by simp [LOp.zQ]) fun u => QOK.zu (by simp [LOp.zQ]) fun v => QOK.s9 fun _ => QOK.s9 fun _ => by
   cases u with
   | ptr id o => exact QOK.some _
   | ref v => cases v <;> first | exact QOK.map _ _ | exact QOK.none
   | _ => exact QOK.none
 | zh e x i =>
  exact QOK.zu (by simp [LOp.zQ]) fun v => QOK.s9 fun _ => QOK.take (by simp [LOp.zQ]) (hc _ (by simp [LOp.zQ])) fun u => by
   cases u with
   | vs b o n xs =>
    dsimp only
    split
    ·exact QOK.s9 fun _ => QOK.map _ _
    ·exact QOK.none
   | ms id off len e' agg =>
    dsimp only
    split
    ·exact QOK.map _ _
    ·exact QOK.none
   | _ => exact QOK.none
 | tI len e agg x i => exact QOK.zu (by simp [LOp.zQ]) fun u => QOK.zu (by simp [LOp.zQ]) fun v => QOK.s9 fun _ => QOK.s9 fun _ => by cases u <;> first | exact QOK.map _ _ | exact QOK.none
 | qJ x i =>
  exact QOK.zu (by simp [LOp.zQ]) fun u => QOK.zu (by simp [LOp.zQ]) fun v => QOK.s9 fun _ => by
   cases u with
   | str l => exact QOK.s9 fun _ => QOK.map _ _
   | _ => exact QOK.none
 | tR t z x ok =>
  exact QOK.zu (by simp [LOp.zQ]) fun u => by
   cases u with
   | yX => dsimp only; split <;> first | exact QOK.some _ | exact QOK.none
   | iface t' v => dsimp only; split <;> first | exact QOK.some _ | (split <;> first | exact QOK.some _ | exact QOK.none)
   | _ => exact QOK.none
 | u9 t x =>
  exact QOK.zu (by simp [LOp.zQ]) fun u => by
   cases u with
   | iface t' v => dsimp only; split <;> first | exact QOK.some _ | exact QOK.none
   | _ => exact QOK.none
 | extract x i =>
  have hx := hc x (by simp [LOp.zQ])
  cases x with
  | const c => exact QOK.none
  | loc j =>
   intro v s' h
   have h0 := h
   simp only [sem, Option.bind_eq_some_iff] at h
   obtain ⟨t, ht, h⟩ := h
   cases t with
   | tup l =>
    simp only [Option.bind_eq_some_iff] at h
    obtain ⟨c, hci, h⟩ := h
    simp only [RS.zu, ht, Option.any_some, LVal.calm, List.all_eq_true] at hx
    have hcc := hx c (List.mem_of_getElem? hci)
    have hno : c.zr = false := by cases c with
     | vs n o k xs => cases o <;> simp_all [LVal.xg, LVal.zr]
     | _ => rfl
    have hnt : ∀ l', c ≠ .tup l' := fun l' e => by subst e; simp [LVal.xg] at hcc
    have hfin : ∀ s2 : RS, s2.rs[j]? = some (.tup l) → sem C im impl s2 (.extract (.loc j) i) = some (c, s2) := by
     intro s2 h2
     simp only [sem, h2, Option.bind_some, hci]
     cases c with
     | tup l' => exact absurd rfl (hnt _)
     | _ => simp [hno]
    have h1 : s' = s ∧ v = c := by
     dsimp only at h0
     rw [hfin s ht] at h0
     injection h0 with h0; injection h0 with e1 e2
     exact ⟨e2.symm, e1.symm⟩
    obtain ⟨rfl, rfl⟩ := h1
    refine ⟨rfl, fun s2 h2 => ?_⟩
    have h2' : s2.rs[j]? = some (.tup l) := by have := h2 (.loc j) (by simp [LOp.zQ]); simpa [RS.zu, ht] using this
    exact hfin s2 h2'
   | _ => simp at h
  | var k =>
   intro v s' h
   have h0 := h
   simp only [sem, Option.bind_eq_some_iff] at h
   obtain ⟨t, ht, h⟩ := h
   cases t with
   | tup l =>
    simp only [Option.bind_eq_some_iff] at h
    obtain ⟨c, hci, h⟩ := h
    simp only [RS.zu, ht, Option.any_some, LVal.calm, List.all_eq_true] at hx
    have hcc := hx c (List.mem_of_getElem? hci)
    have hno : c.zr = false := by cases c with
     | vs n o k xs => cases o <;> simp_all [LVal.xg, LVal.zr]
     | _ => rfl
    have hnt : ∀ l', c ≠ .tup l' := fun l' e => by subst e; simp [LVal.xg] at hcc
    have hfin : ∀ s2 : RS, s2.vars[k]? = some (.tup l) → sem C im impl s2 (.extract (.var k) i) = some (c, s2) := by
     intro s2 h2
     simp only [sem, h2, Option.bind_some, hci]
     cases c with
     | tup l' => exact absurd rfl (hnt _)
     | _ => simp [hno]
    have h1 : s' = s ∧ v = c := by
     dsimp only at h0
     rw [hfin s ht] at h0
     injection h0 with h0; injection h0 with e1 e2
     exact ⟨e2.symm, e1.symm⟩
    obtain ⟨rfl, rfl⟩ := h1
    refine ⟨rfl, fun s2 h2 => ?_⟩
    have h2' : s2.vars[k]? = some (.tup l) := by have := h2 (.var k) (by simp [LOp.zQ]); simpa [RS.zu, ht] using this
    exact hfin s2 h2'
   | _ => simp at h
 | yR f args =>
  exact QOK.takes (fun y hy => hy) hc fun u => by
   intro v s' h2
   dsimp only at h2
   split at h2
   case isFalse => cases h2
   rename_i hpf
   simp only [Option.bind_eq_some_iff] at h2
   obtain ⟨⟨v1, st⟩, hC, h3⟩ := h2
   cases st with
   | some _ => simp at h3
   | none =>
    simp at h3
    obtain ⟨rfl, rfl⟩ := h3
    exact ⟨rfl, fun s2 _ => by simp only [hpf, if_true, hC, Option.bind_some]⟩
 | len k x =>
  have hk : k ≠ 2 := by intro e; subst e; simp [LOp.looks] at hl
  refine QOK.zu (by simp [LOp.zQ]) fun u => ?_
  have hst : ∀ st st' : List zt, uj k st u = uj k st' u := by
   intro st st'
   match k with
   | 0 => cases u <;> rfl
   | 1 => cases u <;> rfl
   | 2 => exact absurd rfl hk
   | n + 3 => cases u <;> rfl
  intro v s' h
  simp only [Option.map_eq_some_iff] at h
  obtain ⟨n, hn, e⟩ := h
  injection e with e1 e2
  subst e1; subst e2
  exact ⟨rfl, fun s2 _ => by simp only [hst s2.st s.st, hn, Option.map_some]⟩
 | vg mx x r => exact QOK.zu (by simp [LOp.zQ]) fun u => QOK.yt (fun y hy => by simp [LOp.zQ, hy]) fun l => by cases u <;> first | exact QOK.map _ _ | exact QOK.none
 | kS n x =>
  exact QOK.take (by simp [LOp.zQ]) (hc _ (by simp [LOp.zQ])) fun u => by
   cases u with
   | vs b o m xs =>
    cases b with
    | false =>
     dsimp only
     split
     ·exact QOK.some _
     ·exact QOK.none
    | true => exact QOK.none
   | _ => exact QOK.none
 | load agg n a p => simp [LOp.looks] at hl
 | lookup kd z x i ok => simp [LOp.looks] at hl
 | _ => simp [LOp.quiet] at hq
end Go.L
namespace Go.L
variable {C : xV} {im : TypeId → String → Option FuncId} {impl : TypeId → TypeId → Bool}
def zj.pl (o : zj) : Opd := match o.dst with
 | none => .loc o.ix
 | some k => .var k
def zj.wrs (o : zj) : List Opd := o.pl :: o.op.gives
def zj.rds (o : zj) : List Opd := o.op.zQ ++ ((match o.guard with | none => [] | some g => [g.1]) ++ o.tn.map (·.1))
def RS.zZ (p : Opd) (v : LVal) (s : RS) : RS := match p with
 | .loc i => { s with rs := s.rs.set i v }
 | .var k => { s with vars := s.vars.set k v }
 | .const _ => s
def apart (p : Opd) (l : List Opd) : Prop := ∀ x ∈ l, p.same x = false
theorem pD (x y : Opd) : x.same y = y.same x := by
 cases x <;> cases y <;> first
  | rfl
  | (show (_ == _) = (_ == _); rw [Bool.eq_iff_iff, beq_iff_eq, beq_iff_eq]; exact ⟨Eq.symm, Eq.symm⟩)
theorem xF {p x : Opd} {v : LVal} {s : RS} (h : p.same x = false) : (s.zZ p v).zu x = s.zu x := by
 cases p <;> cases x <;> simp [Opd.same] at h <;> simp [RS.zZ, RS.zu, List.getElem?_set_ne, h]
theorem qN {p : Opd} {v : LVal} {s : RS} {l : List Opd} (h : apart p l) : Alike (s.zZ p v) s l := fun x hx => xF (h x hx)
theorem sm {p q : Opd} {u v : LVal} {s : RS} (h : p.same q = false) : (s.zZ p u).zZ q v = (s.zZ q v).zZ p u := by
 cases p <;> cases q <;> simp [Opd.same] at h <;> simp only [RS.zZ]
 ·rw [List.set_comm _ _ h]
 ·rw [List.set_comm _ _ h]
theorem ui {p : Opd} {v : LVal} {s : RS} : (s.zZ p v).st = s.st := by cases p <;> rfl
theorem pJ {p : Opd} {v : LVal} {s : RS} (hv : v.yT = v) : (s.zZ p v).yJ = (s.yJ).zZ p v := by
 cases p <;> simp [RS.zZ, RS.yJ, List.map_set, hv]
theorem uw {p : Opd} {v : LVal} {s : RS} (st : List zt) : ({ s.zZ p v with st := st } : RS) = ({ s with st := st } : RS).zZ p v := by cases p <;> rfl
theorem LVal.me (v : LVal) : v.yT.yT = v.yT := by
 cases v with
 | vs b o n xs => cases o <;> rfl
 | _ => rfl
theorem lC {v : LVal} (h : v.settled = true) : v.stay = v := by
 cases v with
 | vs b o n xs => cases o <;> simp_all [LVal.settled, LVal.stay]
 | _ => rfl
theorem tw {c : List LVal} (h : c.all LVal.settled = true) : c.map LVal.stay = c := by
 rw [List.all_eq_true] at h
 conv => rhs; rw [← List.map_id c]
 exact List.map_congr_left fun x hx => lC (h x hx)
def xL (o : zj) (s s2 : RS) : Prop :=
 match o.op with
 | .load _ n a _ => ∀ (id off : Nat) (t : TypeId) (c : List LVal), s.zu a = some (.ptr id off) → s.st[id]? = some (.cells t c) → c.all LVal.settled = true → ((c.drop off).take n).all (fun v => v.plain || (!o.strict && v.zr)) = true →
  ∃ c2, s2.st[id]? = some (.cells t c2) ∧ c2.length = c.length ∧ c2.all LVal.settled = true ∧ (c2.drop off).take n = (c.drop off).take n
 | .lookup _ _ x _ _ | .len 2 x => ∀ (id : Nat) (es : List (LVal × LVal)), s.zu x = some (.map id) → s.st[id]? = some (.map es) → s2.st[id]? = some (.map es)
 | _ => True
def AlikeC (b : Bool) (s2 s : RS) (l : List Opd) : Prop := ∀ x ∈ l, ∀ c : LVal, c.calm b = true → s.zu x = some c → s2.zu x = some c
def ln (o : zj) (s2 s : RS) (l : List Opd) : Prop := Alike s2 s l ∨ (o.op.yt = false ∧ AlikeC o.strict s2 s l)
theorem nu {s : RS} {o : zj} (hq : o.op.quiet = true) {v : LVal} {s' : RS} (h : x8 C im impl s o = some (v, s')) :
 s' = s ∧ ∀ s2 : RS, ln o s2 s o.op.zQ → xL o s s2 → x8 C im impl s2 o = some (v, s2) := by
 suffices H : s' = s ∧ ∀ s2 : RS, Alike s2 s o.op.zQ → xL o s s2 → x8 C im impl s2 o = some (v, s2) by
  refine ⟨H.1, fun s2 h2 hA => H.2 s2 ?_ hA⟩
  rcases h2 with h2 | ⟨hp, h2⟩
  ·exact h2
  ·intro x hx
   have hc : yE s o.strict o.op = true := by
    simp only [x8, hq, Bool.true_or, if_true] at h
    split at h
    ·rename_i hc; simp only [Bool.and_eq_true] at hc; exact hc.1.1
    ·cases h
   have hc' : (o.op.zQ.all fun x => (s.zu x).any (LVal.calm o.strict)) = true := by
    cases hop : o.op with
    | mv y p =>
     rw [hop] at hp hc
     cases y with
     | var k => simp only [LOp.yt] at hp; subst hp; exact hc
     | _ => exact hc
    | append => rw [hop] at hq; simp [LOp.quiet] at hq
    | _ => rw [hop] at hc; exact hc
   have := List.all_eq_true.1 hc' x hx
   cases hpx : s.zu x with
   | none => simp [hpx] at this
   | some c => simp only [hpx, Option.any_some] at this; exact h2 x hx c this hpx
 obtain ⟨ix, dst, guard, op, strict, tn⟩ := o
 dsimp only at hq
 simp only [x8, hq, Bool.true_or, if_true] at h ⊢
 by_cases hcond : (yE s strict op && yx strict s op && yK s tn op) = true
 ·rw [if_pos hcond] at h
  simp only [Bool.and_eq_true] at hcond
  obtain ⟨⟨hc1, hc2⟩, hc3⟩ := hcond
  have haw : ∀ s2 : RS, yK s2 tn op = true := fun s2 => by cases op <;> first | rfl | simp [LOp.quiet] at hq
  by_cases hl : op.looks = true
  ·cases op with
   | load agg n a p =>
    have hca : (s.zu a).any (LVal.calm strict) = true := by simpa [yE, LOp.zQ] using hc1
    simp only [sem, Option.bind_eq_some_iff] at h
    obtain ⟨pv, hpv, h⟩ := h
    have main : s' = s ∧ ∀ s2 : RS, s2.zu a = s.zu a → xL ⟨ix, dst, guard, .load agg n a p, strict, tn⟩ s s2 → xU s2 agg n pv p = some (v, s2) ∧ yx strict s2 (.load agg n a p) = true := by
     cases pv with
     | ref u =>
      simp only [xU] at h
      split at h
      ·rename_i hu
       injection h with h; injection h with e1 e2; subst e1; subst e2
       exact ⟨rfl, fun s2 h2 _ => ⟨by simp [xU, hu], by simp [yx, h2, hpv]⟩⟩
      ·cases h
     | ptr id off =>
      simp only [yx, hpv] at hc2
      cases hst : s.st[id]? with
      | none => simp [hst] at hc2
      | some ob =>
       cases ob with
       | dead => simp [hst] at hc2
       | map es => simp [hst] at hc2
       | cells t c =>
        simp only [hst, Bool.and_eq_true] at hc2
        obtain ⟨hs1, hs2⟩ := hc2
        simp only [xU, hst] at h
        split at h
        ·rename_i hle
         have agr : ∀ s2 : RS, s2.zu a = s.zu a → xL ⟨ix, dst, guard, .load agg n a p, strict, tn⟩ s s2 → ∃ c2, s2.st[id]? = some (.cells t c2) ∧ c2.length = c.length ∧ c2.all LVal.settled = true ∧ (c2.drop off).take n = (c.drop off).take n :=
          fun s2 _ hA => hA id off t c hpv hst hs1 hs2
         have hlc : ∀ s2 : RS, s2.zu a = s.zu a → xL ⟨ix, dst, guard, .load agg n a p, strict, tn⟩ s s2 → yx strict s2 (.load agg n a p) = true := by
          intro s2 h2 hA
          obtain ⟨c2, k1, k2, k3, k4⟩ := agr s2 h2 hA
          simp only [yx, h2, hpv, k1, k3, k4, hs2, Bool.and_self]
         cases agg with
         | true =>
          simp only [if_true, tw hs1, x7 hst, ite_self] at h
          injection h with h; injection h with e1 e2; subst e1; subst e2
          refine ⟨rfl, fun s2 h2 hA => ⟨?_, hlc s2 h2 hA⟩⟩
          obtain ⟨c2, k1, k2, k3, k4⟩ := agr s2 h2 hA
          simp only [xU, k1, k2, hle, if_true, k4, tw k3, x7 k1, ite_self]
         | false =>
          simp only [Bool.false_eq_true, if_false] at h
          split at h
          ·rename_i hn
           subst hn
           simp only [Option.map_eq_some_iff] at h
           obtain ⟨x, hx, h⟩ := h
           have hone : ∀ s2 : RS, s2.zu a = s.zu a → xL ⟨ix, dst, guard, .load false 1 a p, strict, tn⟩ s s2 → ∃ c2, s2.st[id]? = some (.cells t c2) ∧ c2.length = c.length ∧ c2.all LVal.settled = true ∧ c2[off]? = some x := by
            intro s2 h2 hA
            obtain ⟨c2, k1, k2, k3, k4⟩ := agr s2 h2 hA
            refine ⟨c2, k1, k2, k3, ?_⟩
            have e1 : ((c2.drop off).take 1)[0]? = c2[off]? := by simp [List.getElem?_take, List.getElem?_drop]
            have e2 : ((c.drop off).take 1)[0]? = c[off]? := by simp [List.getElem?_take, List.getElem?_drop]
            rw [← e1, k4, e2]; exact hx
           by_cases ho : x.zr = true
           ·simp only [ho, if_true] at h
            cases p with
            | true =>
             simp only [if_true] at h
             injection h with e1 e2; subst e1; subst e2
             refine ⟨rfl, fun s2 h2 hA => ⟨?_, hlc s2 h2 hA⟩⟩
             obtain ⟨c2, k1, k2, k3, k4⟩ := hone s2 h2 hA
             simp only [xU, k1, k2, hle, if_true, Bool.false_eq_true, if_false, k4, Option.map_some, ho]
            | false =>
             simp only [Bool.false_eq_true, if_false, tw hs1, x7 hst] at h
             injection h with e1 e2; subst e1; subst e2
             refine ⟨rfl, fun s2 h2 hA => ⟨?_, hlc s2 h2 hA⟩⟩
             obtain ⟨c2, k1, k2, k3, k4⟩ := hone s2 h2 hA
             simp only [xU, k1, k2, hle, if_true, Bool.false_eq_true, if_false, k4, Option.map_some, ho, tw k3, x7 k1]
           ·simp only [ho] at h
            injection h with e1 e2; subst e1; subst e2
            refine ⟨rfl, fun s2 h2 hA => ⟨?_, hlc s2 h2 hA⟩⟩
            obtain ⟨c2, k1, k2, k3, k4⟩ := hone s2 h2 hA
            simp only [xU, k1, k2, hle, if_true, Bool.false_eq_true, if_false, k4, Option.map_some, ho]
          ·cases h
        ·cases h
     | _ => simp [xU] at h
    obtain ⟨rfl, k⟩ := main
    refine ⟨rfl, fun s2 h2 hA => ?_⟩
    have h2a := h2 a (by simp [LOp.zQ])
    obtain ⟨k1, k2⟩ := k s2 h2a hA
    have : (yE s2 strict (.load agg n a p) && yx strict s2 (.load agg n a p) && yK s2 tn (.load agg n a p)) = true := by
     simp [yE, LOp.zQ, h2a, hca, k2, haw]
    rw [if_pos this]
    simp only [sem, h2a, hpv, Option.bind_some]
    exact k1
   | lookup kd z x i ok =>
    simp only [yE] at hc1
    simp only [sem, Option.bind_eq_some_iff] at h
    obtain ⟨u, hu, k, hk, h⟩ := h
    split at h
    ·rename_i hkk
     simp only [Option.map_eq_some_iff] at h
     obtain ⟨r, hr, e⟩ := h
     injection e with e1 e2; subst e2
     refine ⟨rfl, fun s2 h2 hA => ?_⟩
     have hx2 := h2 x (by simp [LOp.zQ])
     have hi2 := h2 i (by simp [LOp.zQ])
     have : (yE s2 strict (.lookup kd z x i ok) && yx strict s2 (.lookup kd z x i ok) && yK s2 tn (.lookup kd z x i ok)) = true := by
      simp only [yE, LOp.zQ, List.all_cons, List.all_nil, Bool.and_true, Bool.and_eq_true] at hc1 ⊢
      exact ⟨⟨by rw [hx2, hi2]; exact hc1, rfl⟩, rfl⟩
     rw [if_pos this]
     simp only [sem, hx2, hi2, hu, hk, Option.bind_some, hkk, if_true]
     have hr2 : nb s2.st k u = some r := by
      cases u with
      | map id =>
       simp only [nb] at hr ⊢
       cases hst : s.st[id]? with
       | none => simp [hst] at hr
       | some ob =>
        cases ob with
        | map es => rw [hst] at hr; rw [hA id es hu hst]; exact hr
        | _ => simp [hst] at hr
      | _ => exact hr
     rw [hr2]
     simp only [Option.map_some, e1]
    ·cases h
   | len kk x =>
    have hkk : kk = 2 := by
     match kk with
     | 2 => rfl
     | 0 => simp [LOp.looks] at hl
     | 1 => simp [LOp.looks] at hl
     | n + 3 => simp [LOp.looks] at hl
    subst hkk
    simp only [yE] at hc1
    simp only [sem, Option.bind_eq_some_iff, Option.map_eq_some_iff] at h
    obtain ⟨u, hu, m, hn, e⟩ := h
    injection e with e1 e2; subst e1; subst e2
    refine ⟨rfl, fun s2 h2 hA => ?_⟩
    have hx2 := h2 x (by simp [LOp.zQ])
    have : (yE s2 strict (.len 2 x) && yx strict s2 (.len 2 x) && yK s2 tn (.len 2 x)) = true := by
     simp only [yE, LOp.zQ, List.all_cons, List.all_nil, Bool.and_true, Bool.and_eq_true] at hc1 ⊢
     exact ⟨⟨by rw [hx2]; exact hc1, rfl⟩, rfl⟩
    rw [if_pos this]
    simp only [sem, hx2, hu, Option.bind_some]
    have hn2 : uj 2 s2.st u = some m := by
     cases u with
     | map id =>
      simp only [uj] at hn ⊢
      cases hst : s.st[id]? with
      | none => simp [hst] at hn
      | some ob =>
       cases ob with
       | map es => rw [hst] at hn; rw [hA id es hu hst]; exact hn
       | _ => simp [hst] at hn
     | _ => exact hn
    rw [hn2]; rfl
   | _ => simp [LOp.looks] at hl
  ·have hl' : op.looks = false := by simpa using hl
   have hlc : ∀ s2 : RS, yx strict s2 op = true := fun s2 => by cases op <;> first | rfl | simp [LOp.looks] at hl'
   by_cases hp : op.yt = true
   ·cases op with
    | mv x p =>
     cases x with
     | var k =>
      simp only [LOp.yt] at hp; subst hp
      simp only [sem, Option.bind_eq_some_iff] at h
      obtain ⟨u, hu, h⟩ := h
      have key : s' = s ∧ ∀ s2 : RS, s2.vars[k]? = some u → sem C im impl s2 (.mv (.var k) true) = some (v, s2) := by
       refine ⟨?_, fun s2 h2 => ?_⟩
       ·cases u with
        | vs b o n xs => cases o <;> simp at h <;> exact h.2.symm
        | tup l => simp at h
        | _ => simp at h; exact h.2.symm
       ·simp only [sem, h2, Option.bind_some]
        cases u with
        | vs b o n xs => cases o <;> simp at h ⊢ <;> exact h.1
        | tup l => simp at h
        | _ => simp at h ⊢; exact h.1
      obtain ⟨rfl, k1⟩ := key
      refine ⟨rfl, fun s2 h2 _ => ?_⟩
      have h2' : s2.vars[k]? = some u := by have := h2 (.var k) (by simp [LOp.zQ]); simpa [RS.zu, hu] using this
      rw [if_pos (by simp [yE, hlc, haw])]
      exact k1 s2 h2'
     | _ => simp [LOp.yt] at hp
    | load => simp [LOp.looks] at hl'
    | _ => simp [LOp.yt] at hp
   ·have hp' : op.yt = false := by simpa using hp
    have hcond : ∀ s2 : RS, yE s2 strict op = op.zQ.all fun x => (s2.zu x).any (LVal.calm strict) := by
     intro s2
     cases op with
     | mv x p =>
      cases x with
      | var k => simp only [LOp.yt] at hp'; subst hp'; rfl
      | _ => rfl
     | append => simp [LOp.quiet] at hq
     | _ => rfl
    rw [hcond s] at hc1
    have hcalm : rU s op.zQ := fun x hx => by
     have := List.all_eq_true.1 hc1 x hx
     cases hpx : s.zu x with
     | none => simp [hpx] at this
     | some u => simp only [hpx, Option.any_some] at this ⊢; exact tA this
    obtain ⟨rfl, k⟩ := quiet_sem (C := C) (im := im) (impl := impl) hq hl' hp' hcalm v s' h
    refine ⟨rfl, fun s2 h2 _ => ?_⟩
    have : (op.zQ.all fun x => (s2.zu x).any (LVal.calm strict)) = true := by
     rw [List.all_eq_true] at hc1 ⊢
     intro x hx
     rw [h2 x hx]; exact hc1 x hx
    rw [hcond s2, this, hlc, haw]
    exact k s2 h2
 ·rw [if_neg hcond] at h; cases h
theorem tz {s s1 : RS} {o : zj} (hq : o.op.quiet = true) (h : ya C im impl s o = some s1) :
 ∃ v, s1 = s.zZ o.pl v ∧ (o.op.yt = false → v.yT = v) ∧ yg s o.dst = true ∧
  ∀ s2 : RS, ln o s2 s o.rds → xL o s s2 → yg s2 o.dst = true → ya C im impl s2 o = some (s2.zZ o.pl v) := by
 unfold ya at h ⊢
 simp only [hq, Bool.true_and] at h ⊢
 cases hd : yg s o.dst with
 | false => simp [hd] at h
 | true =>
  simp only [hd, Bool.not_true, Bool.false_eq_true, if_false] at h
  have hput : ∀ (s2 : RS) (v : LVal), yg s2 o.dst = true → s2.put o v = s2.zZ o.pl (match o.dst with | none => v | some _ => v.yT) := by
   intro s2 v h2
   unfold RS.put zj.pl
   cases hdst : o.dst with
   | none => rfl
   | some k =>
    simp only [RS.xp]
    rw [hdst] at h2
    simp only [yg] at h2
    have : (s2.vars[k]?).any LVal.zr = false := by
     cases hk : s2.vars[k]? with
     | none => rfl
     | some u =>
      rw [hk] at h2
      simp only [Option.all_some] at h2
      cases u with
      | vs b o n xs => cases o <;> first | rfl | simp [LVal.free] at h2
      | _ => rfl
    rw [this]; rfl
  have hunpk : ∀ v : LVal, v.yT = v → (match o.dst with | none => v | some _ => v.yT).yT = (match o.dst with | none => v | some _ => v.yT) := by
   intro v hv
   cases o.dst with
   | none => exact hv
   | some k => exact LVal.me v
  have hfix : ∀ v : LVal, o.op.yt = false → (o.fix v).yT = o.fix v := fun v hp => by simp [zj.fix, hp, LVal.me]
  have hop : ∀ x ∈ o.op.zQ, x ∈ o.rds := fun x hx => List.mem_append_left _ hx
  have hsub : ∀ s2 : RS, ln o s2 s o.rds → ln o s2 s o.op.zQ := fun s2 h => h.imp (fun h x hx => h x (hop x hx)) (fun h => ⟨h.1, fun x hx => h.2 x (hop x hx)⟩)
  have hgd : ∀ s2 : RS, ln o s2 s o.rds → ∀ g c, g ∈ o.rds → (∀ b, c.calm b = true) → s.zu g = some c → s2.zu g = some c := fun s2 h g c hg hc hpk => by
   rcases h with h | ⟨_, h⟩
   ·rw [h g hg]; exact hpk
   ·exact h g hg c (hc _) hpk
  cases hg : o.guard with
  | none =>
   simp only [hg, Option.map_eq_some_iff] at h
   obtain ⟨⟨v, s'⟩, hv, e⟩ := h
   obtain ⟨rfl, k⟩ := nu hq hv
   subst e
   refine ⟨_, hput _ _ hd, fun hp => hunpk _ (hfix v hp), rfl, fun s2 h2 hA hd2 => ?_⟩
   simp only [hd2, Bool.not_true, Bool.false_eq_true, if_false, k s2 (hsub s2 h2) hA, Option.map_some]
   rw [hput _ _ hd2]
  | some gw =>
   obtain ⟨g, want⟩ := gw
   simp only [hg, Option.bind_eq_some_iff] at h
   obtain ⟨gv, hgv, h⟩ := h
   have hgr : g ∈ o.rds := by simp [zj.rds, hg]
   cases gv with
   | bool b =>
    dsimp only at h
    split at h
    ·rename_i hb
     simp only [Option.map_eq_some_iff] at h
     obtain ⟨⟨v, s'⟩, hv, e⟩ := h
     obtain ⟨rfl, k⟩ := nu hq hv
     subst e
     refine ⟨_, hput _ _ hd, fun hp => hunpk _ (hfix v hp), rfl, fun s2 h2 hA hd2 => ?_⟩
     simp only [hd2, Bool.not_true, Bool.false_eq_true, if_false, hgd s2 h2 g _ hgr (fun b => rfl) hgv, Option.bind_some, hb, if_true, k s2 (hsub s2 h2) hA, Option.map_some]
     rw [hput _ _ hd2]
    ·rename_i hb
     injection h with h; subst h
     refine ⟨_, hput _ _ hd, fun hp => hunpk _ rfl, rfl, fun s2 h2 hA hd2 => ?_⟩
     simp only [hd2, Bool.not_true, Bool.false_eq_true, if_false, hgd s2 h2 g _ hgr (fun b => rfl) hgv, Option.bind_some, hb]
     rw [hput _ _ hd2]
   | tup l =>
    cases l with
    | nil =>
     injection h with h; subst h
     refine ⟨_, hput _ _ hd, fun hp => hunpk _ rfl, rfl, fun s2 h2 hA hd2 => ?_⟩
     simp only [hd2, Bool.not_true, Bool.false_eq_true, if_false, hgd s2 h2 g _ hgr (fun b => rfl) hgv, Option.bind_some]
     rw [hput _ _ hd2]
    | cons => simp at h
   | _ => simp at h
end Go.L
namespace Go.L
variable {C : xV} {im : TypeId → String → Option FuncId} {impl : TypeId → TypeId → Bool}
theorem take_F {s s' : RS} {x p : Opd} {u v : LVal} (hp : p.same x = false) (h : s.take x = some (u, s')) : (s.zZ p v).take x = some (u, s'.zZ p v) := by
 cases x with
 | const c => simp [RS.take] at h ⊢; obtain ⟨rfl, rfl⟩ := h; exact ⟨rfl, rfl⟩
 | loc i =>
  simp only [RS.take, Option.bind_eq_some_iff, Option.map_eq_some_iff] at h ⊢
  obtain ⟨y, hy, z, hz, e⟩ := h
  injection e with e1 e2; subst e1; subst e2
  have hy' : (s.zZ p v).rs[i]? = some y := by have := xF (s := s) (v := v) hp; simpa [RS.zu, hy] using this
  refine ⟨y, hy', z, hz, ?_⟩
  congr 1
  split
  ·cases p with
   | loc j => simp [Opd.same] at hp; simp [RS.zZ, List.set_comm _ _ hp]
   | _ => rfl
  ·rfl
 | var i =>
  simp only [RS.take, Option.bind_eq_some_iff, Option.map_eq_some_iff] at h ⊢
  obtain ⟨y, hy, z, hz, e⟩ := h
  injection e with e1 e2; subst e1; subst e2
  have hy' : (s.zZ p v).vars[i]? = some y := by have := xF (s := s) (v := v) hp; simpa [RS.zu, hy] using this
  refine ⟨y, hy', z, hz, ?_⟩
  congr 1
  split
  ·cases p with
   | var j => simp [Opd.same] at hp; simp [RS.zZ, List.set_comm _ _ hp]
   | _ => rfl
  ·rfl
theorem lX {s s' : RS} {x p : Opd} {u v : LVal} (hp : p.same x = false) (h : s.yW x = some (u, s')) : (s.zZ p v).yW x = some (u, s'.zZ p v) := by
 cases x with
 | const c => exact take_F hp h
 | var i => exact take_F hp h
 | loc i =>
  simp only [RS.yW, Option.bind_eq_some_iff] at h ⊢
  obtain ⟨y, hy, h⟩ := h
  have hy' : (s.zZ p v).rs[i]? = some y := by have := xF (s := s) (v := v) hp; simpa [RS.zu, hy] using this
  refine ⟨y, hy', ?_⟩
  have hset : ∀ z : LVal, ({ s.zZ p v with rs := (s.zZ p v).rs.set i z } : RS) = ({ s with rs := s.rs.set i z } : RS).zZ p v := by
   intro z
   cases p with
   | loc j => simp [Opd.same] at hp; simp [RS.zZ, List.set_comm _ _ hp]
   | _ => rfl
  cases y with
  | vs b o n xs =>
   cases o <;> simp at h ⊢ <;> obtain ⟨rfl, rfl⟩ := h <;> simp [hset]
  | tup l => simp at h ⊢; obtain ⟨rfl, rfl⟩ := h; simp [hset]
  | _ => simp at h ⊢; obtain ⟨rfl, rfl⟩ := h; simp
theorem put_F {s : RS} {o : zj} {p : Opd} {u v : LVal} (hv : v.yT = v) (hp : p.same o.pl = false) : (s.zZ p v).put o u = (s.put o u).zZ p v := by
 unfold RS.put
 unfold zj.pl at hp
 cases hd : o.dst with
 | none =>
  rw [hd] at hp
  cases p with
  | loc j => simp [Opd.same] at hp; simp [RS.zZ, List.set_comm _ _ hp]
  | _ => rfl
 | some k =>
  rw [hd] at hp
  have hk : (s.zZ p v).vars[k]? = s.vars[k]? := by have := xF (s := s) (v := v) hp; simpa [RS.zu] using this
  simp only [RS.xp, hk, pJ hv]
  cases p with
  | var j => simp [Opd.same] at hp; split <;> simp [RS.zZ, RS.yJ, List.set_comm _ _ hp]
  | _ => split <;> rfl
theorem storeL_F {s s' : RS} {n : Nat} {a u v : LVal} {p : Opd} (hv : v.yT = v) (h : xq s n a u = some s') : xq (s.zZ p v) n a u = some (s'.zZ p v) := by
 cases a with
 | ptr id off =>
  simp only [xq, ui] at h ⊢
  cases hst : s.st[id]? with
  | none => simp [hst] at h
  | some ob =>
   cases ob with
   | cells t c =>
    simp only [hst] at h ⊢
    split at h
    ·rename_i hc
     rw [if_pos hc]
     injection h with h; subst h
     congr 1
     split
     ·rw [pJ hv]; exact uw _
     ·exact uw _
    ·cases h
   | _ => simp [hst] at h
 | _ => simp [xq] at h
theorem acquire_F {s s' : RS} {x : Opd} {j : Nat} {u v : LVal} (hv : v.yT = v) (hp : (Opd.loc j).same x = false) (h : s.acquire x = some (u, s')) : (s.zZ (.loc j) v).acquire x = some (u, s'.zZ (.loc j) v) := by
 cases x with
 | const c => simp [RS.acquire] at h ⊢; obtain ⟨rfl, rfl⟩ := h; exact ⟨rfl, rfl⟩
 | var k => simp [RS.acquire] at h
 | loc i =>
  have hij : j ≠ i := by simpa [Opd.same] using hp
  simp only [RS.acquire, Option.bind_eq_some_iff] at h ⊢
  obtain ⟨y, hy, h⟩ := h
  have hy' : (s.zZ (.loc j) v).rs[i]? = some y := by simp only [RS.zZ, List.getElem?_set_ne hij]; exact hy
  refine ⟨y, hy', ?_⟩
  have hnp : (s.zZ (.loc j) v).yJ = (s.yJ).zZ (.loc j) v := pJ hv
  cases y with
  | vs b o n xs =>
   cases o with
   | own e x =>
    simp at h ⊢; obtain ⟨rfl, rfl⟩ := h
    exact ⟨rfl, by simp [RS.zZ, List.set_comm _ _ hij]⟩
   | pk l =>
    cases l with
    | var k =>
     dsimp only at h ⊢
     simp only [Option.bind_eq_some_iff] at h ⊢
     obtain ⟨z, hz, h⟩ := h
     refine ⟨z, hz, ?_⟩
     split at h
     ·rename_i ho
      injection h with h; injection h with e1 e2; subst e1; subst e2
      rw [if_pos ho, hnp]; rfl
     ·cases h
    | cell id off =>
     dsimp only at h ⊢
     rw [ui]
     cases hst : s.st[id]? with
     | none => simp [hst] at h
     | some ob =>
      cases ob with
      | cells t c =>
       simp only [hst, Option.bind_eq_some_iff] at h ⊢
       obtain ⟨z, hz, h⟩ := h
       refine ⟨z, hz, ?_⟩
       split at h
       ·rename_i ho
        injection h with h; injection h with e1 e2; subst e1; subst e2
        rw [if_pos ho, hnp]; rfl
       ·cases h
      | _ => simp [hst] at h
   | _ => simp at h ⊢; obtain ⟨rfl, rfl⟩ := h; exact ⟨rfl, rfl⟩
  | _ => simp at h ⊢; obtain ⟨rfl, rfl⟩ := h; exact ⟨rfl, rfl⟩
def LOp.isApp : LOp → Bool
 | .append .. => true
 | _ => false
theorem uH {op : LOp} (h : op.yy = true) : op.quiet = false := by
 cases op with
 | mv x p => cases x <;> first | rfl | simp [LOp.yy] at h
 | _ => first | rfl | simp [LOp.yy] at h
theorem sem_F {s s' : RS} {op : LOp} {p : Opd} {u v : LVal} (ha : op.yy = true) (hv : v.yT = v) (hp : ∀ x ∈ op.zQ, p.same x = false) (happ : op.isApp = true → ∃ j, p = .loc j)
 (h : sem C im impl s op = some (u, s')) : sem C im impl (s.zZ p v) op = some (u, s'.zZ p v) := by
 cases op with
 | mv x pk =>
  cases x with
  | loc i =>
   have h' : s.yW (.loc i) = some (u, s') := by cases pk <;> exact h
   have := lX (v := v) (hp (.loc i) (by simp [LOp.zQ])) h'
   cases pk <;> exact this
  | _ => simp [LOp.yy] at ha
 | asg x => exact lX (hp x (by simp [LOp.zQ])) h
 | alloc t cells =>
  simp only [sem, Option.some.injEq, Prod.mk.injEq] at h ⊢
  obtain ⟨rfl, rfl⟩ := h
  rw [ui]
  refine ⟨rfl, ?_⟩
  unfold RS.alloc
  rw [ui]; exact uw _
 | box t x =>
  simp only [sem, Option.bind_eq_some_iff] at h ⊢
  obtain ⟨r, h1, h2⟩ := h
  refine ⟨(r.1, r.2.zZ p v), lX (hp x (by simp [LOp.zQ])) h1, ?_⟩
  split at h2
  ·rename_i hc
   rw [if_pos hc]
   injection h2 with h2; injection h2 with e1 e2; subst e1; subst e2
   simp only [ui, RS.alloc]
   rw [uw]
  ·cases h2
 | mkMap =>
  simp only [sem, Option.some.injEq, Prod.mk.injEq] at h ⊢
  obtain ⟨rfl, rfl⟩ := h
  rw [ui]
  refine ⟨rfl, ?_⟩
  unfold RS.alloc
  rw [ui]; exact uw _
 | store n a x =>
  simp only [sem, Option.bind_eq_some_iff, Option.map_eq_some_iff] at h ⊢
  obtain ⟨r, h1, pv, h2, s2, h3, e⟩ := h
  injection e with e1 e2; subst e1; subst e2
  refine ⟨(r.1, r.2.zZ p v), lX (hp x (by simp [LOp.zQ])) h1, pv, by rw [xF (hp a (by simp [LOp.zQ]))]; exact h2, _, storeL_F hv h3, rfl⟩
 | mapUpdate kd m k x =>
  simp only [sem, Option.bind_eq_some_iff] at h ⊢
  obtain ⟨mv, h1, kv, h2, r, h3, h4⟩ := h
  refine ⟨mv, by rw [xF (hp m (by simp [LOp.zQ]))]; exact h1, kv, by rw [xF (hp k (by simp [LOp.zQ]))]; exact h2, (r.1, r.2.zZ p v), take_F (hp x (by simp [LOp.zQ])) h3, ?_⟩
  cases mv with
  | map id =>
   dsimp only at h4 ⊢
   rw [ui]
   cases hst : s.st[id]? with
   | none => simp [hst] at h4
   | some ob =>
    cases ob with
    | map es =>
     simp only [hst] at h4 ⊢
     split at h4
     ·rename_i hc
      rw [if_pos hc]
      simp only [Option.map_eq_some_iff] at h4 ⊢
      obtain ⟨es', h5, e⟩ := h4
      injection e with e1 e2; subst e1; subst e2
      refine ⟨es', h5, ?_⟩
      rw [ui, uw]
     ·cases h4
    | _ => simp [hst] at h4
  | _ => simp at h4
 | append e esz bytes x y =>
  obtain ⟨j, rfl⟩ := happ rfl
  simp only [sem, Option.bind_eq_some_iff] at h ⊢
  obtain ⟨yv, h1, ys, h2, h3⟩ := h
  refine ⟨yv, by rw [xF (hp y (by simp [LOp.zQ]))]; exact h1, ys, h2, ?_⟩
  unfold xu at h3 ⊢
  simp only [Option.bind_eq_some_iff] at h3 ⊢
  obtain ⟨r, h4, h5⟩ := h3
  refine ⟨(r.1, r.2.zZ (.loc j) v), acquire_F hv (hp x (by simp [LOp.zQ])) h4, ?_⟩
  cases hr : r.1 with
  | vs b o n xs =>
   simp only [hr] at h5 ⊢
   split at h5
   ·rename_i hc
    rw [if_pos hc]
    injection h5 with h5; injection h5 with e1 e2; subst e1; subst e2; rfl
   ·rename_i hc
    rw [if_neg hc]
    split at h5
    ·rename_i hc2
     rw [if_pos hc2]
     cases o with
     | full => dsimp only at h5 ⊢; split at h5 <;> first | (rename_i hc3; rw [if_pos hc3]; injection h5 with h5; injection h5 with e1 e2; subst e1; subst e2; rfl) | cases h5
     | own e' ex => dsimp only at h5 ⊢; split at h5 <;> first | (rename_i hc3; rw [if_pos hc3]; injection h5 with h5; injection h5 with e1 e2; subst e1; subst e2; rfl) | cases h5
     | sh => dsimp only at h5 ⊢; split at h5 <;> first | (rename_i hc3; rw [if_pos hc3]; injection h5 with h5; injection h5 with e1 e2; subst e1; subst e2; rfl) | cases h5
     | pk l => simp at h5
    ·cases h5
  | _ => simp [hr] at h5
 | _ => simp [LOp.yy] at ha
theorem kb {s s2 : RS} {b : Bool} {op : LOp} (h : Alike s2 s op.zQ) : yE s2 b op = yE s b op := by
 have key : (op.zQ.all fun x => (s2.zu x).any (LVal.calm b)) = (op.zQ.all fun x => (s.zu x).any (LVal.calm b)) := by
  rw [Bool.eq_iff_iff, List.all_eq_true, List.all_eq_true]
  exact ⟨fun k x hx => by rw [← h x hx]; exact k x hx, fun k x hx => by rw [h x hx]; exact k x hx⟩
 unfold yE
 split
 ·rfl
 ·rw [h _ (by simp [LOp.zQ])]
 ·exact key
theorem kC {s s2 : RS} {l : List (Opd × Nat)} {op : LOp} (h : Alike s2 s op.zQ) (ha : Alike s2 s (l.map (·.1))) : yK s2 l op = yK s l op := by
 cases op with
 | store n a x =>
  simp only [yK]
  rw [h a (by simp [LOp.zQ])]
  cases s.zu a with
  | none => rfl
  | some av =>
   cases av with
   | ptr id off =>
    dsimp only
    rw [Bool.eq_iff_iff, List.all_eq_true, List.all_eq_true]
    have e : ∀ p ∈ l, s2.zu p.1 = s.zu p.1 := fun p hp => ha p.1 (List.mem_map.2 ⟨p, hp, rfl⟩)
    exact ⟨fun k p hp => by have := k p hp; rw [e p hp] at this; exact this, fun k p hp => by have := k p hp; rw [← e p hp] at this; exact this⟩
   | _ => rfl
 | _ => rfl
theorem ml {s : RS} {b : Bool} {op : LOp} (h : op.yy = true) : yx b s op = true := by
 cases op <;> first | rfl | simp [LOp.yy] at h
def zj.rds0 (o : zj) : List Opd := o.op.zQ ++ (match o.guard with | none => [] | some g => [g.1])
theorem nz {s s1 : RS} {e : zj} {p : Opd} {v : LVal} (ha : e.op.yy = true) (hv : v.yT = v) (hp : apart p (e.rds0 ++ e.wrs)) (haw : yK s e.tn e.op = true → yK (s.zZ p v) e.tn e.op = true) (happ : e.op.isApp = true → ∃ j, p = .loc j)
 (h : ya C im impl s e = some s1) : ya C im impl (s.zZ p v) e = some (s1.zZ p v) := by
 have hq := uH ha
 have hpo : ∀ x ∈ e.op.zQ, p.same x = false := fun x hx => hp x (List.mem_append_left _ (List.mem_append_left _ hx))
 have hpl : p.same e.pl = false := hp _ (List.mem_append_right _ (List.mem_cons_self ..))
 have hal : Alike (s.zZ p v) s e.op.zQ := qN hpo
 have hsem : ∀ {u s'}, x8 C im impl s e = some (u, s') → x8 C im impl (s.zZ p v) e = some (u, s'.zZ p v) := by
  intro u s' h
  simp only [x8, ha, Bool.or_true, if_true] at h ⊢
  rw [kb hal]
  rw [ml ha] at h ⊢
  split at h
  ·rename_i hc
   simp only [Bool.and_true, Bool.and_eq_true] at hc
   rw [if_pos (by simp [hc.1, haw hc.2])]
   exact sem_F ha hv hpo happ h
  ·cases h
 unfold ya at h ⊢
 simp only [hq, Bool.false_and, Bool.false_eq_true, if_false] at h ⊢
 cases hg : e.guard with
 | none =>
  simp only [hg, Option.map_eq_some_iff] at h ⊢
  obtain ⟨⟨u, s'⟩, h1, rfl⟩ := h
  exact ⟨_, hsem h1, put_F hv hpl⟩
 | some gw =>
  obtain ⟨g, want⟩ := gw
  have hgp : (s.zZ p v).zu g = s.zu g := xF (hp g (List.mem_append_left _ (List.mem_append_right _ (by simp [hg]))))
  simp only [hg, hgp, Option.bind_eq_some_iff] at h ⊢
  obtain ⟨gv, hgv, h⟩ := h
  refine ⟨gv, hgv, ?_⟩
  cases gv with
  | bool b =>
   dsimp only at h ⊢
   split at h
   ·rename_i hb
    rw [if_pos hb]
    simp only [Option.map_eq_some_iff] at h ⊢
    obtain ⟨⟨u, s'⟩, h1, rfl⟩ := h
    exact ⟨_, hsem h1, put_F hv hpl⟩
   ·rename_i hb
    rw [if_neg hb]
    injection h with h; subst h
    rw [put_F hv hpl]
  | tup l =>
   cases l with
   | nil => injection h with h; subst h; dsimp only; rw [put_F hv hpl]
   | cons => simp at h
  | _ => simp at h
theorem sC {s s1 : RS} {e : zj} {p : Opd} {v : LVal} (ha : e.op.yy = true) (hv : v.yT = v) (hp : apart p (e.rds ++ e.wrs)) (happ : e.op.isApp = true → ∃ j, p = .loc j)
 (h : ya C im impl s e = some s1) : ya C im impl (s.zZ p v) e = some (s1.zZ p v) := by
 have hpo : ∀ x ∈ e.op.zQ, p.same x = false := fun x hx => hp x (List.mem_append_left _ (List.mem_append_left _ hx))
 have haw : Alike (s.zZ p v) s (e.tn.map (·.1)) := qN fun x hx => hp x (List.mem_append_left _ (List.mem_append_right _ (List.mem_append_right _ hx)))
 refine nz ha hv (fun x hx => ?_) (fun h => by rw [kC (qN hpo) haw]; exact h) happ h
 rcases List.mem_append.1 hx with hx | hx
 ·rcases List.mem_append.1 hx with hx | hx
  ·exact hpo x hx
  ·exact hp x (List.mem_append_left _ (List.mem_append_right _ (List.mem_append_left _ hx)))
 ·exact hp x (List.mem_append_right _ hx)
theorem kB {s : RS} {l : List (Opd × Nat)} {op : LOp} {p : Opd} (hp : ∀ x ∈ op.zQ, p.same x = false) (h : yK s l op = true) : yK (s.zZ p .undef) l op = true := by
 cases op with
 | store n a x =>
  simp only [yK] at h ⊢
  rw [xF (hp a (by simp [LOp.zQ]))]
  cases ha : s.zu a with
  | none => rw [ha] at h; exact h
  | some av =>
   rw [ha] at h
   cases av with
   | ptr id off =>
    dsimp only at h ⊢
    rw [List.all_eq_true] at h ⊢
    intro q hq
    have h1 := h q hq
    by_cases hs : p.same q.1 = true
    ·have : (s.zZ p .undef).zu q.1 = some .undef ∨ (s.zZ p .undef).zu q.1 = none := by
      cases p with
      | const c => simp [Opd.same] at hs
      | loc i =>
       cases hq1 : q.1 with
       | loc j =>
        rw [hq1] at hs
        have : i = j := by simpa [Opd.same] using hs
        subst this
        by_cases hlt : i < s.rs.length
        ·left; simp [RS.zZ, RS.zu, List.getElem?_set, hlt]
        ·right; simp [RS.zZ, RS.zu]; omega
       | _ => rw [hq1] at hs; simp [Opd.same] at hs
      | var i =>
       cases hq1 : q.1 with
       | var j =>
        rw [hq1] at hs
        have : i = j := by simpa [Opd.same] using hs
        subst this
        by_cases hlt : i < s.vars.length
        ·left; simp [RS.zZ, RS.zu, List.getElem?_set, hlt]
        ·right; simp [RS.zZ, RS.zu]; omega
       | _ => rw [hq1] at hs; simp [Opd.same] at hs
     rcases this with e | e <;> rw [e]
    ·rw [xF (by simpa using hs)]
     exact h1
   | _ => exact h
 | _ => rfl
end Go.L
namespace Go.L
variable {C : xV} {im : TypeId → String → Option FuncId} {impl : TypeId → TypeId → Bool}
def Eff (W : List Opd) (b : Bool) (s s1 : RS) : Prop := ∀ x : Opd, (∀ y ∈ W, y.same x = false) → ∀ c : LVal, c.calm b = true → (s.zu x = some c ↔ s1.zu x = some c)
theorem Eff.refl (W b s) : Eff W b s s := fun _ _ _ _ => Iff.rfl
theorem Eff.trans {W b s s1 s2} (h : Eff W b s s1) (k : Eff W b s1 s2) : Eff W b s s2 := fun x hx c hc => (h x hx c hc).trans (k x hx c hc)
theorem Eff.mono {W W' b s s1} (h : Eff W b s s1) (hw : ∀ y ∈ W, y ∈ W') : Eff W' b s s1 := fun x hx => h x (fun y hy => hx y (hw y hy))
theorem Eff.zZ {W b} {s : RS} {p : Opd} {v : LVal} (hp : p ∈ W) : Eff W b s (s.zZ p v) := fun x hx c hc => by rw [xF (hx p hp)]
theorem calm_unpk {b : Bool} {v : LVal} (h : v.calm b = true) : v.yT = v := by
 cases v with
 | vs n o k xs => cases o <;> simp_all [LVal.calm, LVal.xg, LVal.yT]
 | _ => rfl
theorem tB {b : Bool} : ¬ LVal.undef.calm b = true := by simp [LVal.calm, LVal.xg]
theorem Eff.yJ {W b} {s : RS} : Eff W b s s.yJ := fun x hx c hc => by
 cases x with
 | loc i =>
  simp only [RS.zu, RS.yJ, List.getElem?_map, Option.map_eq_some_iff]
  constructor
  ·intro h; exact ⟨c, h, calm_unpk hc⟩
  ·rintro ⟨y, hy, e⟩
   rcases (by cases y with
    | vs n o k xs => cases o <;> first | exact .inl rfl | exact .inr rfl
    | _ => exact .inl rfl : y.yT = y ∨ y.yT = .undef) with h | h
   ·rw [h] at e; rw [hy, e]
   ·rw [h] at e; subst e; exact absurd hc tB
 | _ => rfl
theorem Eff.st {W b} {s : RS} (st : List zt) : Eff W b s { s with st := st } := fun x hx c hc => by cases x <;> rfl
theorem Eff.put {b} {s : RS} {o : zj} {u : LVal} : Eff [o.pl] b s (s.put o u) := by
 unfold RS.put zj.pl
 cases hd : o.dst with
 | none => exact Eff.zZ (p := .loc o.ix) (List.mem_cons_self ..)
 | some k =>
  dsimp only
  unfold RS.xp
  split
  ·exact Eff.yJ.trans (Eff.zZ (p := .var k) (s := s.yJ) (List.mem_cons_self ..))
  ·exact Eff.zZ (p := .var k) (List.mem_cons_self ..)
theorem Eff.yW {b} {s s' : RS} {x : Opd} {u : LVal} (h : s.yW x = some (u, s')) (hc : (s.zu x).any (LVal.calm false) = true) : Eff [x] b s s' ∧ s'.st = s.st := by
 cases x with
 | const c => obtain ⟨rfl, _⟩ := wu (x := .const c) h hc; exact ⟨Eff.refl _ _ _, rfl⟩
 | var k => obtain ⟨rfl, _⟩ := wu (x := .var k) h hc; exact ⟨Eff.refl _ _ _, rfl⟩
 | loc i =>
  simp only [RS.yW, Option.bind_eq_some_iff] at h
  obtain ⟨y, hy, h⟩ := h
  cases y with
  | vs n o k xs =>
   cases o <;> simp at h <;> obtain ⟨rfl, rfl⟩ := h <;> first | exact ⟨Eff.refl _ _ _, rfl⟩ | exact ⟨Eff.zZ (p := .loc i) (v := .undef) (List.mem_cons_self ..), rfl⟩
  | tup l => simp at h; obtain ⟨rfl, rfl⟩ := h; exact ⟨Eff.zZ (p := .loc i) (v := .undef) (List.mem_cons_self ..), rfl⟩
  | _ => simp at h; obtain ⟨rfl, rfl⟩ := h; exact ⟨Eff.refl _ _ _, rfl⟩
theorem Eff.setOwn {b : Bool} {s : RS} {p : Opd} {y : LVal} (hy : s.zu p = some y) (hn : ¬ y.calm b = true) : Eff [] b s (s.zZ p .undef) := fun x hx c hc => by
 by_cases h : p.same x = true
 ·cases p <;> cases x <;> simp [Opd.same] at h
  ·subst h
   rename_i i
   simp only [RS.zu] at hy
   have hlt := (List.getElem?_eq_some_iff.1 hy).1
   simp only [RS.zu, RS.zZ, List.getElem?_set, hlt, if_true, hy]
   constructor
   ·intro e; injection e with e; subst e; exact absurd hc hn
   ·intro e; simp at e; subst e; exact absurd hc tB
  ·subst h
   rename_i i
   simp only [RS.zu] at hy
   have hlt := (List.getElem?_eq_some_iff.1 hy).1
   simp only [RS.zu, RS.zZ, List.getElem?_set, hlt, if_true, hy]
   constructor
   ·intro e; injection e with e; subst e; exact absurd hc hn
   ·intro e; simp at e; subst e; exact absurd hc tB
 ·rw [xF (by simpa using h)]
theorem qX {y : LVal} (h : y.zr = true) : ¬ y.calm true = true := by
 cases y with
 | vs n o k xs => cases o <;> simp_all [LVal.zr, LVal.calm, LVal.xg]
 | _ => simp [LVal.zr] at h
def StAcq (st st' : List zt) : Prop := ∀ (id : Nat) (ob : zt), st[id]? = some ob → st'[id]? = some ob ∨ ∃ t c off u, ob = .cells t c ∧ c[off]? = some u ∧ u.zr = true ∧ st'[id]? = some (.cells t ((c.map LVal.stay).set off u.down))
theorem acquire_eff {s s' : RS} {x : Opd} {u : LVal} (h : s.acquire x = some (u, s')) : Eff [] true s s' ∧ StAcq s.st s'.st := by
 cases x with
 | const c => simp [RS.acquire] at h; obtain ⟨rfl, rfl⟩ := h; exact ⟨Eff.refl _ _ _, fun _ _ h => .inl h⟩
 | var k => simp [RS.acquire] at h
 | loc i =>
  simp only [RS.acquire, Option.bind_eq_some_iff] at h
  obtain ⟨y, hy, h⟩ := h
  cases y with
  | vs n o k xs =>
   cases o with
   | own e x =>
    simp at h; obtain ⟨rfl, rfl⟩ := h
    exact ⟨Eff.setOwn (p := .loc i) hy (qX rfl), fun _ _ h => .inl h⟩
   | pk l =>
    cases l with
    | var j =>
     simp only [Option.bind_eq_some_iff] at h
     obtain ⟨z, hz, h⟩ := h
     split at h
     ·rename_i ho
      injection h with h; injection h with e1 e2; subst e1; subst e2
      refine ⟨Eff.yJ.trans (Eff.setOwn (s := s.yJ) (p := .var j) (y := z) hz (qX ho)), fun _ _ h => .inl h⟩
     ·cases h
    | cell id off =>
     cases hst : s.st[id]? with
     | none => simp [hst] at h
     | some ob =>
      cases ob with
      | cells t c =>
       simp only [hst, Option.bind_eq_some_iff] at h
       obtain ⟨z, hz, h⟩ := h
       split at h
       ·rename_i ho
        injection h with h; injection h with e1 e2; subst e1; subst e2
        refine ⟨Eff.yJ.trans (Eff.st (s := s.yJ) _), fun id' ob' h' => ?_⟩
        by_cases he : id = id'
        ·subst he
         rw [hst] at h'; injection h' with h'; subst h'
         exact .inr ⟨t, c, off, z, rfl, hz, ho, by simp [List.getElem?_set_self', hst]⟩
        ·exact .inl (by rw [List.getElem?_set_ne he]; exact h')
       ·cases h
      | _ => simp [hst] at h
   | _ => simp at h; obtain ⟨rfl, rfl⟩ := h; exact ⟨Eff.refl _ _ _, fun _ _ h => .inl h⟩
  | _ => simp at h; obtain ⟨rfl, rfl⟩ := h; exact ⟨Eff.refl _ _ _, fun _ _ h => .inl h⟩
theorem appendL_eff {s s' : RS} {e : TypeId} {esz bytes m : Nat} {x : Opd} {ys : List LVal} {u : LVal} (h : xu s e esz bytes x m ys = some (u, s')) : Eff [] true s s' ∧ StAcq s.st s'.st := by
 unfold xu at h
 simp only [Option.bind_eq_some_iff] at h
 obtain ⟨r, h4, h5⟩ := h
 have hA := acquire_eff (u := r.1) (s' := r.2) h4
 have : s' = r.2 := by
  cases hr : r.1 with
  | vs b o n xs =>
   simp only [hr] at h5
   split at h5
   ·injection h5 with h5; injection h5 with e1 e2; exact e2.symm
   ·split at h5
    ·cases o with
     | full => dsimp only at h5; split at h5 <;> first | (injection h5 with h5; injection h5 with e1 e2; exact e2.symm) | cases h5
     | own e' ex => dsimp only at h5; split at h5 <;> first | (injection h5 with h5; injection h5 with e1 e2; exact e2.symm) | cases h5
     | sh => dsimp only at h5; split at h5 <;> first | (injection h5 with h5; injection h5 with e1 e2; exact e2.symm) | cases h5
     | pk l => simp at h5
    ·cases h5
  | _ => simp [hr] at h5
 subst this
 exact hA
def StEff (e : zj) (s : RS) (st' : List zt) : Prop :=
 match e.op with
 | .alloc .. | .box .. | .mkMap => ∃ o, st' = s.st ++ [o] ∨ st' = s.st
 | .mv .. | .asg _ => st' = s.st
 | .append .. => StAcq s.st st'
 | .store n a _ => st' = s.st ∨ ∃ id off t c us, s.zu a = some (.ptr id off) ∧ s.st[id]? = some (.cells t c) ∧ off + n ≤ c.length ∧ us.length = n ∧ us.all LVal.settled = true ∧ yK s e.tn e.op = true ∧
  st' = s.st.set id (.cells t (c.take off ++ us ++ c.drop (off + n)))
 | _ => True
theorem sem_eff {s s' : RS} {e : zj} {u : LVal} (ha : e.op.yy = true) (hc : yE s e.strict e.op = true) (hw : yK s e.tn e.op = true) (h : sem C im impl s e.op = some (u, s')) :
 Eff e.op.gives e.op.isApp s s' ∧ StEff e s s'.st := by
 obtain ⟨ix, dst, guard, op, strict, tn⟩ := e
 dsimp only at ha hc hw h ⊢
 have hcalm : op.isApp = false → ∀ x ∈ op.zQ, (s.zu x).any (LVal.calm false) = true := by
  intro happ x hx
  have : (op.zQ.all fun x => (s.zu x).any (LVal.calm strict)) = true := by
   cases op with
   | mv y p => cases y <;> first | exact hc | simp [LOp.yy] at ha
   | append => simp [LOp.isApp] at happ
   | _ => exact hc
  have := List.all_eq_true.1 this x hx
  cases hpx : s.zu x with
  | none => simp [hpx] at this
  | some u => simp only [hpx, Option.any_some] at this ⊢; exact tA this
 cases op with
 | mv x pk =>
  cases x with
  | loc i =>
   have h' : s.yW (.loc i) = some (u, s') := by cases pk <;> exact h
   exact Eff.yW h' (hcalm rfl _ (by simp [LOp.zQ]))
  | _ => simp [LOp.yy] at ha
 | asg x => exact Eff.yW h (hcalm rfl _ (by simp [LOp.zQ]))
 | alloc t cells =>
  simp only [sem, Option.some.injEq, Prod.mk.injEq] at h
  obtain ⟨rfl, rfl⟩ := h
  exact ⟨Eff.st _, _, .inl rfl⟩
 | box t x =>
  simp only [sem, Option.bind_eq_some_iff] at h
  obtain ⟨r, h1, h2⟩ := h
  obtain ⟨k1, k2⟩ := Eff.yW (b := false) (u := r.1) (s' := r.2) h1 (hcalm rfl x (by simp [LOp.zQ]))
  split at h2
  ·injection h2 with h2; injection h2 with e1 e2; subst e1; subst e2
   exact ⟨k1.trans (Eff.st _), _, .inl (by simp only [RS.alloc]; rw [k2])⟩
  ·cases h2
 | mkMap =>
  simp only [sem, Option.some.injEq, Prod.mk.injEq] at h
  obtain ⟨rfl, rfl⟩ := h
  exact ⟨Eff.st _, _, .inl rfl⟩
 | store n a x =>
  simp only [sem, Option.bind_eq_some_iff, Option.map_eq_some_iff] at h
  obtain ⟨r, h1, pv, h2, s2, h3, e⟩ := h
  injection e with e1 e2; subst e1; subst e2
  obtain ⟨k1, k2⟩ := Eff.yW (b := false) (u := r.1) (s' := r.2) h1 (hcalm rfl x (by simp [LOp.zQ]))
  cases pv with
  | ptr id off =>
   simp only [xq] at h3
   cases hst : r.2.st[id]? with
   | none => simp [hst] at h3
   | some ob =>
    cases ob with
    | cells t c =>
     simp only [hst] at h3
     split at h3
     ·rename_i hcond
      obtain ⟨q1, q2, q3⟩ := hcond
      injection h3 with h3; subst h3
      have hval : r.1.cells.all LVal.settled = true := by
       rw [Bool.or_eq_true] at q3
       rcases q3 with q3 | q3
       ·rw [List.all_eq_true] at q3 ⊢
        intro y hy
        have := q3 y hy
        cases y with
        | vs b o n xs => cases o <;> simp_all [LVal.plain, LVal.settled]
        | _ => rfl
       ·rw [Bool.and_eq_true] at q3
        have hx := hcalm rfl x (by simp [LOp.zQ])
        have hcal : r.1.settled = true := by
         cases x with
         | const c =>
          simp [RS.yW, RS.take] at h1
          rw [← h1] at q3 ⊢
          simp only [RS.zu, Option.any_some] at hx
          cases c with
          | vs b o n xs => cases o <;> simp_all [LVal.calm, LVal.xg, LVal.settled]
          | _ => rfl
         | var k =>
          simp only [RS.yW, RS.take, Option.bind_eq_some_iff, Option.map_eq_some_iff] at h1
          obtain ⟨y, hy, z, hz, e⟩ := h1
          rw [← e] at q3 ⊢
          cases y with
          | vs b o n xs => cases o <;> simp [LVal.copy, LVal.down] at hz <;> subst hz <;> rfl
          | tup l => simp [LVal.copy] at hz
          | _ => simp [LVal.copy, LVal.down] at hz; subst hz; rfl
         | loc i =>
          simp only [RS.yW, Option.bind_eq_some_iff] at h1
          obtain ⟨y, hy, e⟩ := h1
          simp only [RS.zu, hy, Option.any_some] at hx
          cases y with
          | vs b o n xs => cases o <;> simp at e <;> rw [← e] <;> first | rfl | (simp_all [LVal.calm, LVal.xg, LVal.settled])
          | _ => simp at e; rw [← e]; rfl
        have hcs : r.1.cells = [r.1] := by
         cases hr : r.1 <;> first | rfl | (rw [hr] at q3; simp [LVal.isAgg] at q3)
        rw [hcs]; simp [hcal]
      refine ⟨k1.trans ?_, .inr ⟨id, off, t, c, r.1.cells, h2, by rw [← k2]; exact hst, q1, q2, hval, hw, by rw [k2]⟩⟩
      split
      ·exact Eff.yJ.trans (Eff.st _)
      ·exact Eff.st _
     ·cases h3
    | _ => simp [hst] at h3
  | _ => simp [xq] at h3
 | mapUpdate kd m k x =>
  simp only [sem, Option.bind_eq_some_iff] at h
  obtain ⟨mv, h1, kv, h2, r, h3, h4⟩ := h
  obtain ⟨e, _⟩ := wu (u := r.1) (s' := r.2) h3 (hcalm rfl x (by simp [LOp.zQ]))
  cases mv with
  | map id =>
   dsimp only at h4
   cases hst : s.st[id]? with
   | none => simp [hst] at h4
   | some ob =>
    cases ob with
    | map es =>
     simp only [hst] at h4
     split at h4
     ·simp only [Option.map_eq_some_iff] at h4
      obtain ⟨es', h5, e'⟩ := h4
      injection e' with e1 e2; subst e1; subst e2
      rw [e]
      exact ⟨Eff.st _, trivial⟩
     ·cases h4
    | _ => simp [hst] at h4
  | _ => simp at h4
 | append e esz bytes x y =>
  simp only [sem, Option.bind_eq_some_iff] at h
  obtain ⟨yv, h1, ys, h2, h3⟩ := h
  exact appendL_eff h3
 | _ => simp [LOp.yy] at ha
theorem qa {s s1 : RS} {e : zj} (ha : e.op.yy = true) (h : ya C im impl s e = some s1) : Eff e.wrs e.op.isApp s s1 ∧ (s1.st = s.st ∨ StEff e s s1.st) := by
 have hq := uH ha
 have hput : ∀ {s' : RS} {u : LVal}, (s'.put e u).st = s'.st := by
  intro s' u
  unfold RS.put RS.xp
  cases e.dst with
  | none => rfl
  | some k => dsimp only; split <;> rfl
 have hmono : ∀ {s s' : RS} {b : Bool}, Eff [e.pl] b s s' → Eff e.wrs b s s' := fun h => h.mono (fun y hy => by simp at hy; subst hy; exact List.mem_cons_self ..)
 have hsem : ∀ {u s'}, x8 C im impl s e = some (u, s') → Eff e.wrs e.op.isApp s (s'.put e (e.fix u)) ∧ ((s'.put e (e.fix u)).st = s.st ∨ StEff e s (s'.put e (e.fix u)).st) := by
  intro u s' h
  simp only [x8, ha, Bool.or_true, if_true] at h
  split at h
  ·rename_i hc
   simp only [Bool.and_eq_true] at hc
   obtain ⟨k1, k2⟩ := sem_eff ha hc.1.1 hc.2 h
   exact ⟨(k1.mono (fun y hy => List.mem_cons_of_mem _ hy)).trans (hmono Eff.put), .inr (by rw [hput]; exact k2)⟩
  ·cases h
 unfold ya at h
 simp only [hq, Bool.false_and, Bool.false_eq_true, if_false] at h
 cases hg : e.guard with
 | none =>
  simp only [hg, Option.map_eq_some_iff] at h
  obtain ⟨⟨u, s'⟩, h1, rfl⟩ := h
  exact hsem h1
 | some gw =>
  obtain ⟨g, want⟩ := gw
  simp only [hg, Option.bind_eq_some_iff] at h
  obtain ⟨gv, hgv, h⟩ := h
  cases gv with
  | bool b =>
   dsimp only at h
   split at h
   ·simp only [Option.map_eq_some_iff] at h
    obtain ⟨⟨u, s'⟩, h1, rfl⟩ := h
    exact hsem h1
   ·injection h with h; subst h
    exact ⟨hmono Eff.put, .inl hput⟩
  | tup l =>
   cases l with
   | nil => injection h with h; subst h; exact ⟨hmono Eff.put, .inl hput⟩
   | cons => simp at h
  | _ => simp at h
end Go.L
namespace Go.L
variable {C : xV} {im : TypeId → String → Option FuncId} {impl : TypeId → TypeId → Bool}
def wJ (s s1 : RS) : Prop := ∀ j : Nat, s.rs[j]? = some .undef → s1.rs[j]? = some .undef
theorem wJ.refl (s) : wJ s s := fun _ h => h
theorem wJ.trans {s s1 s2} (h : wJ s s1) (k : wJ s1 s2) : wJ s s2 := fun j hj => k j (h j hj)
theorem wJ.yJ {s : RS} : wJ s s.yJ := fun j hj => by simp [RS.yJ, hj, LVal.yT]
theorem wJ.s8 {s s1 : RS} (h : s1.rs = s.rs) : wJ s s1 := fun j hj => by rw [h]; exact hj
theorem wJ.setU {s : RS} {i : Nat} : wJ s { s with rs := s.rs.set i .undef } := fun j hj => by
 have hlt := (List.getElem?_eq_some_iff.1 hj).1
 simp only [List.getElem?_set]
 split
 ·simp_all
 ·exact hj
theorem wJ.setNU {s : RS} {i : Nat} {v u : LVal} (hi : s.rs[i]? = some v) (hv : v ≠ .undef) : wJ s { s with rs := s.rs.set i u } := fun j hj => by
 have : i ≠ j := fun e => by subst e; rw [hi] at hj; injection hj with hj; exact hv hj
 simp only [List.getElem?_set_ne this]; exact hj
theorem uU {s s' : RS} {x : Opd} {u : LVal} (h : s.take x = some (u, s')) : wJ s s' := by
 cases x with
 | const c => simp [RS.take] at h; obtain ⟨_, rfl⟩ := h; exact .refl _
 | loc i =>
  simp only [RS.take, Option.bind_eq_some_iff, Option.map_eq_some_iff] at h
  obtain ⟨y, hy, z, hz, e⟩ := h
  injection e with e1 e2; subst e2
  split
  ·rename_i ho; exact .setNU hy (fun e => by subst e; simp [LVal.zr] at ho)
  ·exact .refl _
 | var i =>
  simp only [RS.take, Option.bind_eq_some_iff, Option.map_eq_some_iff] at h
  obtain ⟨y, hy, z, hz, e⟩ := h
  injection e with e1 e2; subst e2
  split
  ·exact .s8 rfl
  ·exact .refl _
theorem tZ : ∀ {xs : List Opd} {s s' : RS} {us : List LVal}, s.takes xs = some (us, s') → wJ s s'
 | [], s, s', us, h => by simp [RS.takes] at h; obtain ⟨_, rfl⟩ := h; exact .refl _
 | x :: xs, s, s', us, h => by
  simp only [RS.takes, Option.bind_eq_some_iff, Option.map_eq_some_iff] at h
  obtain ⟨⟨u, s1⟩, h1, ⟨us', s2⟩, h2, e⟩ := h
  injection e with e1 e2; subst e2
  exact (uU h1).trans (tZ h2)
theorem sQ {s s' : RS} {x : Opd} {u : LVal} (h : s.yW x = some (u, s')) : wJ s s' := by
 cases x with
 | const c => exact uU (x := .const c) h
 | var k => exact uU (x := .var k) h
 | loc i =>
  simp only [RS.yW, Option.bind_eq_some_iff] at h
  obtain ⟨y, hy, h⟩ := h
  cases y with
  | vs b o n xs => cases o <;> simp at h <;> obtain ⟨_, rfl⟩ := h <;> first | exact .refl _ | exact .setU
  | tup l => simp at h; obtain ⟨_, rfl⟩ := h; exact .setU
  | _ => simp at h; obtain ⟨_, rfl⟩ := h; exact .refl _
theorem mj {s s' : RS} {x : Opd} {u : LVal} (h : s.acquire x = some (u, s')) : wJ s s' := by
 cases x with
 | const c => simp [RS.acquire] at h; obtain ⟨_, rfl⟩ := h; exact .refl _
 | var k => simp [RS.acquire] at h
 | loc i =>
  simp only [RS.acquire, Option.bind_eq_some_iff] at h
  obtain ⟨y, hy, h⟩ := h
  cases y with
  | vs n o k xs =>
   cases o with
   | own e x => simp at h; obtain ⟨_, rfl⟩ := h; exact .setU
   | pk l =>
    cases l with
    | var j =>
     simp only [Option.bind_eq_some_iff] at h
     obtain ⟨z, hz, h⟩ := h
     split at h
     ·injection h with h; injection h with e1 e2; subst e2
      exact wJ.yJ.trans (.s8 rfl)
     ·cases h
    | cell id off =>
     cases hst : s.st[id]? with
     | none => simp [hst] at h
     | some ob =>
      cases ob with
      | cells t c =>
       simp only [hst, Option.bind_eq_some_iff] at h
       obtain ⟨z, hz, h⟩ := h
       split at h
       ·injection h with h; injection h with e1 e2; subst e2
        exact wJ.yJ.trans (.s8 rfl)
       ·cases h
      | _ => simp [hst] at h
   | _ => simp at h; obtain ⟨_, rfl⟩ := h; exact .refl _
  | _ => simp at h; obtain ⟨_, rfl⟩ := h; exact .refl _
theorem lT {s s' : RS} {e : TypeId} {esz bytes m : Nat} {x : Opd} {ys : List LVal} {u : LVal} (h : xu s e esz bytes x m ys = some (u, s')) : wJ s s' := by
 unfold xu at h
 simp only [Option.bind_eq_some_iff] at h
 obtain ⟨r, h4, h5⟩ := h
 have hA := mj (u := r.1) (s' := r.2) h4
 have : s' = r.2 := by
  cases hr : r.1 with
  | vs b o n xs =>
   simp only [hr] at h5
   split at h5
   ·injection h5 with h5; injection h5 with e1 e2; exact e2.symm
   ·split at h5
    ·cases o with
     | full => dsimp only at h5; split at h5 <;> first | (injection h5 with h5; injection h5 with e1 e2; exact e2.symm) | cases h5
     | own e' ex => dsimp only at h5; split at h5 <;> first | (injection h5 with h5; injection h5 with e1 e2; exact e2.symm) | cases h5
     | sh => dsimp only at h5; split at h5 <;> first | (injection h5 with h5; injection h5 with e1 e2; exact e2.symm) | cases h5
     | pk l => simp at h5
    ·cases h5
  | _ => simp [hr] at h5
 subst this
 exact hA
theorem lS {s s' : RS} {n : Nat} {a u : LVal} (h : xq s n a u = some s') : wJ s s' := by
 unfold xq at h
 cases a with
 | ptr id off =>
  dsimp only at h
  cases hst : s.st[id]? with
  | none => simp [hst] at h
  | some ob =>
   cases ob with
   | cells t c =>
    simp only [hst] at h
    split at h
    ·injection h with h; subst h
     split
     ·exact wJ.yJ.trans (.s8 rfl)
     ·exact .s8 rfl
    ·cases h
   | _ => simp [hst] at h
 | _ => simp at h
theorem ss {s s' : RS} {u : LVal} {r : Option (LVal × Option (List zt))} (h : ye s r = some (u, s')) : wJ s s' := by
 match r, h with
 | some (v, none), h => simp [ye] at h; obtain ⟨_, rfl⟩ := h; exact .refl _
 | some (v, some st), h => simp [ye] at h; obtain ⟨_, rfl⟩ := h; exact wJ.yJ.trans (.s8 rfl)
def KeepV (s s1 : RS) : Prop := s1.vars = s.vars
theorem acts_keepU {s s' : RS} {op : LOp} {u : LVal} (ha : op.yy = true) (h : sem C im impl s op = some (u, s')) : wJ s s' := by
 cases op with
 | mv x pk =>
  cases x with
  | loc i => have h' : s.yW (.loc i) = some (u, s') := by cases pk <;> exact h
             exact sQ h'
  | _ => simp [LOp.yy] at ha
 | asg x => exact sQ h
 | alloc t cells => simp only [sem, Option.some.injEq, Prod.mk.injEq] at h; obtain ⟨_, rfl⟩ := h; exact .s8 rfl
 | mkMap => simp only [sem, Option.some.injEq, Prod.mk.injEq] at h; obtain ⟨_, rfl⟩ := h; exact .s8 rfl
 | box t x =>
  simp only [sem, Option.bind_eq_some_iff] at h
  obtain ⟨r, h1, h2⟩ := h
  split at h2
  ·injection h2 with h2; injection h2 with e1 e2; subst e2
   exact (sQ (u := r.1) (s' := r.2) h1).trans (.s8 rfl)
  ·cases h2
 | store n a x =>
  simp only [sem, Option.bind_eq_some_iff, Option.map_eq_some_iff] at h
  obtain ⟨r, h1, pv, h2, s2, h3, e⟩ := h
  injection e with e1 e2; subst e2
  exact (sQ (u := r.1) (s' := r.2) h1).trans (lS h3)
 | mapUpdate kd m k x =>
  simp only [sem, Option.bind_eq_some_iff] at h
  obtain ⟨mv, h1, kv, h2, r, h3, h4⟩ := h
  have hT := uU (u := r.1) (s' := r.2) h3
  cases mv with
  | map id =>
   dsimp only at h4
   cases hst : s.st[id]? with
   | none => simp [hst] at h4
   | some ob =>
    cases ob with
    | map es =>
     simp only [hst] at h4
     split at h4
     ·simp only [Option.map_eq_some_iff] at h4
      obtain ⟨es', h5, e'⟩ := h4
      injection e' with e1 e2; subst e2
      exact hT.trans (.s8 rfl)
     ·cases h4
    | _ => simp [hst] at h4
  | _ => simp at h4
 | append e esz bytes x y =>
  simp only [sem, Option.bind_eq_some_iff] at h
  obtain ⟨yv, h1, ys, h2, h3⟩ := h
  exact lT h3
 | _ => simp [LOp.yy] at ha
theorem tc {s : RS} {o : zj} {u : LVal} {j : Nat} (hj : o.ix ≠ j) (h : s.rs[j]? = some .undef) : (s.put o u).rs[j]? = some .undef := by
 unfold RS.put RS.xp
 cases o.dst with
 | none => dsimp only; rw [List.getElem?_set_ne hj]; exact h
 | some k =>
  dsimp only
  split
  ·exact wJ.yJ j h
  ·exact h
theorem rm {s s1 : RS} {o : zj} (hqa : o.op.quiet = true ∨ o.op.yy = true) (h : ya C im impl s o = some s1) {j : Nat} (hj : o.ix ≠ j) (hu : s.rs[j]? = some .undef) : s1.rs[j]? = some .undef := by
 rcases hqa with hq | ha
 ·obtain ⟨v, rfl, _⟩ := tz hq h
  unfold zj.pl
  cases o.dst with
  | none => simp only [RS.zZ, List.getElem?_set_ne hj]; exact hu
  | some k => exact hu
 ·have hq := uH ha
  have hsem : ∀ {u s'}, x8 C im impl s o = some (u, s') → (s'.put o (o.fix u)).rs[j]? = some .undef := by
   intro u s' h
   simp only [x8, ha, Bool.or_true, if_true] at h
   split at h
   ·exact tc hj (acts_keepU ha h j hu)
   ·cases h
  unfold ya at h
  simp only [hq, Bool.false_and, Bool.false_eq_true, if_false] at h
  cases hg : o.guard with
  | none =>
   simp only [hg, Option.map_eq_some_iff] at h
   obtain ⟨⟨u, s'⟩, h1, rfl⟩ := h
   exact hsem h1
  | some gw =>
   obtain ⟨g, want⟩ := gw
   simp only [hg, Option.bind_eq_some_iff] at h
   obtain ⟨gv, hgv, h⟩ := h
   cases gv with
   | bool b =>
    dsimp only at h
    split at h
    ·simp only [Option.map_eq_some_iff] at h
     obtain ⟨⟨u, s'⟩, h1, rfl⟩ := h
     exact hsem h1
    ·injection h with h; subst h; exact tc hj hu
   | tup l =>
    cases l with
    | nil => injection h with h; subst h; exact tc hj hu
    | cons => simp at h
   | _ => simp at h
theorem sem_vars {s s' : RS} {e : zj} {u : LVal} (ha : e.op.yy = true) (happ : e.op.isApp = false) (hc : yE s e.strict e.op = true) (h : sem C im impl s e.op = some (u, s')) : s'.vars = s.vars := by
 obtain ⟨ix, dst, guard, op, strict, tn⟩ := e
 dsimp only at ha hc h happ ⊢
 have hcalm : ∀ x ∈ op.zQ, (s.zu x).any (LVal.calm false) = true := by
  intro x hx
  have : (op.zQ.all fun x => (s.zu x).any (LVal.calm strict)) = true := by
   cases op with
   | mv y p => cases y <;> first | exact hc | simp [LOp.yy] at ha
   | append => simp [LOp.isApp] at happ
   | _ => exact hc
  have := List.all_eq_true.1 this x hx
  cases hpx : s.zu x with
  | none => simp [hpx] at this
  | some u => simp only [hpx, Option.any_some] at this ⊢; exact tA this
 have hgive : ∀ {x : Opd} {u : LVal} {s' : RS}, s.yW x = some (u, s') → (s.zu x).any (LVal.calm false) = true → s'.vars = s.vars := by
  intro x u s' h hx
  cases x with
  | const c => obtain ⟨rfl, _⟩ := wu (x := .const c) h hx; rfl
  | var k => obtain ⟨rfl, _⟩ := wu (x := .var k) h hx; rfl
  | loc i =>
   simp only [RS.yW, Option.bind_eq_some_iff] at h
   obtain ⟨y, hy, h⟩ := h
   cases y with
   | vs b o n xs => cases o <;> simp at h <;> obtain ⟨_, rfl⟩ := h <;> rfl
   | _ => simp at h; obtain ⟨_, rfl⟩ := h; rfl
 cases op with
 | mv x pk =>
  cases x with
  | loc i => have h' : s.yW (.loc i) = some (u, s') := by cases pk <;> exact h
             exact hgive h' (hcalm _ (by simp [LOp.zQ]))
  | _ => simp [LOp.yy] at ha
 | asg x => exact hgive h (hcalm _ (by simp [LOp.zQ]))
 | alloc t cells => simp only [sem, Option.some.injEq, Prod.mk.injEq] at h; obtain ⟨_, rfl⟩ := h; rfl
 | mkMap => simp only [sem, Option.some.injEq, Prod.mk.injEq] at h; obtain ⟨_, rfl⟩ := h; rfl
 | box t x =>
  simp only [sem, Option.bind_eq_some_iff] at h
  obtain ⟨r, h1, h2⟩ := h
  split at h2
  ·injection h2 with h2; injection h2 with e1 e2; subst e2
   exact hgive (u := r.1) (s' := r.2) h1 (hcalm _ (by simp [LOp.zQ]))
  ·cases h2
 | store n a x =>
  simp only [sem, Option.bind_eq_some_iff, Option.map_eq_some_iff] at h
  obtain ⟨r, h1, pv, h2, s2, h3, e⟩ := h
  injection e with e1 e2; subst e2
  have hg := hgive (u := r.1) (s' := r.2) h1 (hcalm _ (by simp [LOp.zQ]))
  unfold xq at h3
  cases pv with
  | ptr id off =>
   dsimp only at h3
   cases hst : r.2.st[id]? with
   | none => simp [hst] at h3
   | some ob =>
    cases ob with
    | cells t c =>
     simp only [hst] at h3
     split at h3
     ·injection h3 with h3; subst h3
      split <;> exact hg
     ·cases h3
    | _ => simp [hst] at h3
  | _ => simp at h3
 | mapUpdate kd m k x =>
  simp only [sem, Option.bind_eq_some_iff] at h
  obtain ⟨mv, h1, kv, h2, r, h3, h4⟩ := h
  obtain ⟨hT, _⟩ := wu (u := r.1) (s' := r.2) h3 (hcalm x (by simp [LOp.zQ]))
  cases mv with
  | map id =>
   dsimp only at h4
   cases hst : s.st[id]? with
   | none => simp [hst] at h4
   | some ob =>
    cases ob with
    | map es =>
     simp only [hst] at h4
     split at h4
     ·simp only [Option.map_eq_some_iff] at h4
      obtain ⟨es', h5, e'⟩ := h4
      injection e' with e1 e2; subst e2
      rw [hT]
     ·cases h4
    | _ => simp [hst] at h4
  | _ => simp at h4
 | append => simp [LOp.isApp] at happ
 | _ => simp [LOp.yy] at ha
theorem oY {s s1 : RS} {e : zj} (ha : e.op.yy = true) (happ : e.op.isApp = false) (h : ya C im impl s e = some s1) {k : Nat} (hk : (Opd.var k).same e.pl = false) : s1.vars[k]? = s.vars[k]? := by
 have hq := uH ha
 have hput : ∀ {s' : RS} {u : LVal}, (s'.put e u).vars[k]? = s'.vars[k]? := by
  intro s' u
  unfold RS.put RS.xp
  unfold zj.pl at hk
  cases hd : e.dst with
  | none => rfl
  | some m =>
   rw [hd] at hk
   have : m ≠ k := fun e => by subst e; simp [Opd.same] at hk
   dsimp only
   split <;> simp [RS.yJ, List.getElem?_set_ne this]
 have hsem : ∀ {u s'}, x8 C im impl s e = some (u, s') → (s'.put e (e.fix u)).vars[k]? = s.vars[k]? := by
  intro u s' h
  simp only [x8, ha, Bool.or_true, if_true] at h
  split at h
  ·rename_i hc
   simp only [Bool.and_eq_true] at hc
   rw [hput, sem_vars ha happ hc.1.1 h]
  ·cases h
 unfold ya at h
 simp only [hq, Bool.false_and, Bool.false_eq_true, if_false] at h
 cases hg : e.guard with
 | none =>
  simp only [hg, Option.map_eq_some_iff] at h
  obtain ⟨⟨u, s'⟩, h1, rfl⟩ := h
  exact hsem h1
 | some gw =>
  obtain ⟨g, want⟩ := gw
  simp only [hg, Option.bind_eq_some_iff] at h
  obtain ⟨gv, hgv, h⟩ := h
  cases gv with
  | bool b =>
   dsimp only at h
   split at h
   ·simp only [Option.map_eq_some_iff] at h
    obtain ⟨⟨u, s'⟩, h1, rfl⟩ := h
    exact hsem h1
   ·injection h with h; subst h; exact hput
  | tup l =>
   cases l with
   | nil => injection h with h; subst h; exact hput
   | cons => simp at h
  | _ => simp at h
end Go.L
namespace Go.L
variable {C : xV} {im : TypeId → String → Option FuncId} {impl : TypeId → TypeId → Bool}
def meets (l m : List Opd) : Bool := l.any fun x => m.any x.same
theorem wR {l m : List Opd} (h : meets l m = false) : ∀ x ∈ l, ∀ y ∈ m, x.same y = false := by
 intro x hx y hy
 unfold meets at h
 rw [List.any_eq_false] at h
 have h1 := h x hx
 simp only [Bool.not_eq_true, List.any_eq_false] at h1
 simpa using h1 y hy
def lO (q e : zj) : Bool :=
 match e.op with
 | .alloc .. | .box .. | .mkMap | .mv .. | .asg _ | .append .. => true
 | .store .. => match q.op with
  | .load _ n a _ => e.tn.any fun p => p.1.same a && p.2 == n
  | _ => true
 | _ => false
def oM (q e : zj) : Bool := !meets [q.pl] (e.rds ++ e.wrs) && !meets e.wrs q.rds && (!e.op.isApp || (q.strict && q.dst.isNone))
def indepQS (q e : zj) : Bool := q.dst.isNone && !e.op.isApp && !meets [q.pl] (e.rds0 ++ e.wrs) && !meets e.wrs q.rds
def oN (q e : zj) : Bool := match q.op with
 | .mv (.loc t) _ => q.dst.isNone && q.guard.isNone && e.op.yy && !e.op.isApp && !meets [q.pl, .loc t] (e.rds ++ e.wrs) && q.ix != t
 | _ => false
def indep (oi oj : zj) : Bool :=
 if oi.op.quiet && oj.op.quiet then !meets [oi.pl] (oj.pl :: oj.rds) && !meets [oj.pl] oi.rds
 else if oi.op.quiet && !oi.op.yt && oj.op.yy then (oM oi oj || indepQS oi oj) && (!oi.op.looks || lO oi oj)
 else if oi.op.yy && oj.op.quiet && !oj.op.yt then oM oj oi && !oj.op.looks
 else oN oi oj
theorem same_peek {p q : Opd} {s : RS} (h : p.same q = true) : s.zu p = s.zu q := by
 cases p with
 | loc i => cases q with
  | loc j => have : i = j := by simpa [Opd.same] using h
             rw [this]
  | _ => simp [Opd.same] at h
 | var i => cases q with
  | var j => have : i = j := by simpa [Opd.same] using h
             rw [this]
  | _ => simp [Opd.same] at h
 | const c => simp [Opd.same] at h
theorem vd {o : zj} {s s2 : RS} (h : s2.st = s.st) : xL o s s2 := by
 unfold xL
 split
 ·intro id off t c h1 h2 h3 h4; exact ⟨c, by rw [h]; exact h2, rfl, h3, rfl⟩
 ·intro id es h1 h2; rw [h]; exact h2
 ·intro id es h1 h2; rw [h]; exact h2
 ·trivial
theorem qi {o : zj} {s s2 : RS} (h : o.op.looks = false) : xL o s s2 := by
 unfold xL
 split
 ·rename_i e; rw [e] at h; simp [LOp.looks] at h
 ·rename_i e; rw [e] at h; simp [LOp.looks] at h
 ·rename_i e; rw [e] at h; simp [LOp.looks] at h
 ·trivial
theorem jz {c c2 : List LVal} {off n : Nat} (hl : c2.length = c.length) (h : ∀ i, off ≤ i → i < off + n → c2[i]? = c[i]?) : (c2.drop off).take n = (c.drop off).take n := by
 apply List.ext_getElem?
 intro j
 simp only [List.getElem?_take, List.getElem?_drop]
 split
 ·exact h (off + j) (by omega) (by omega)
 ·rfl
theorem splice_at {c us : List LVal} {off n : Nat} (hle : off + n ≤ c.length) (hu : us.length = n) (o : Nat) : (c.take off ++ us ++ c.drop (off + n))[o]? = if off ≤ o ∧ o < off + n then us[o - off]? else c[o]? := by
 rw [List.append_assoc, List.getElem?_append]
 simp only [List.length_take]
 split
 ·rw [if_neg (by omega), List.getElem?_take, if_pos (by omega)]
 ·rw [List.getElem?_append]
  split
  ·rw [if_pos (by omega)]; congr 1; omega
  ·rw [if_neg (by omega), List.getElem?_drop]; congr 1; omega
theorem na {q e : zj} {s s1 : RS} (hok : lO q e = true) (hstr : e.op.isApp = true → q.strict = true) (hE : s1.st = s.st ∨ StEff e s s1.st) : xL q s s1 := by
 rcases hE with hE | hE
 ·exact vd hE
 ·
  have grow : (∃ o, s1.st = s.st ++ [o] ∨ s1.st = s.st) → xL q s s1 := by
   rintro ⟨o, h | h⟩
   ·have hk : ∀ (id : Nat) (ob : zt), s.st[id]? = some ob → s1.st[id]? = some ob := fun id ob hid => by
     rw [h, List.getElem?_append_left (List.getElem?_eq_some_iff.1 hid).1]; exact hid
    unfold xL
    split
    ·intro id off t c h1 h2 h3 h4; exact ⟨c, hk _ _ h2, rfl, h3, rfl⟩
    ·intro id es h1 h2; exact hk _ _ h2
    ·intro id es h1 h2; exact hk _ _ h2
    ·trivial
   ·exact vd h
  unfold StEff at hE
  unfold lO at hok
  cases hop : e.op with
  | alloc t c => rw [hop] at hE; exact grow hE
  | box t x => rw [hop] at hE; exact grow hE
  | mkMap => rw [hop] at hE; exact grow hE
  | mv x p => rw [hop] at hE; exact vd hE
  | asg x => rw [hop] at hE; exact vd hE
  | append el esz bytes x y =>
   rw [hop] at hE hstr
   have hst := hstr rfl
   have hE' : StAcq s.st s1.st := hE
   have maps : ∀ (id : Nat) (es : List (LVal × LVal)), s.st[id]? = some (.map es) → s1.st[id]? = some (.map es) := by
    intro id es hid
    rcases hE' id _ hid with h | ⟨t, c, off, u, h, _⟩
    ·exact h
    ·cases h
   unfold xL
   split
   ·intro id off t c h1 h2 h3 h4
    rcases hE' id _ h2 with h | ⟨t', c', off', u, h, hu, ho, h5⟩
    ·exact ⟨c, h, rfl, h3, rfl⟩
    ·injection h with e1 e2; subst e1; subst e2
     rw [tw h3] at h5
     refine ⟨_, h5, by simp, ?_, jz (by simp) fun i hi1 hi2 => ?_⟩
     ·rw [List.all_eq_true] at h3 ⊢
      intro y hy
      rcases List.mem_or_eq_of_mem_set hy with hy | rfl
      ·exact h3 y hy
      ·cases u with
       | vs b o n xs => cases o <;> rfl
       | _ => rfl
     ·have hne : off' ≠ i := by
       intro e; subst e
       rename_i _ n a p hq
       have hmem : u ∈ (c.drop off).take n := by
        apply List.mem_of_getElem? (i := off' - off)
        rw [List.getElem?_take, if_pos (by omega), List.getElem?_drop]
        rw [show off + (off' - off) = off' by omega]; exact hu
       have := List.all_eq_true.1 h4 u hmem
       rw [hst] at this
       cases u with
       | vs b o n xs => cases o <;> simp_all [LVal.plain, LVal.zr]
       | _ => simp [LVal.zr] at ho
      rw [List.getElem?_set_ne hne]
   ·intro id es h1 h2; exact maps _ _ h2
   ·intro id es h1 h2; exact maps _ _ h2
   ·trivial
  | store n0 a0 v0 =>
   rw [hop] at hE hok
   dsimp only at hE hok
   rcases hE with hE | ⟨id', off', t', c', us, g1, g2, g3, g4, g5, g6, g7⟩
   ·exact vd hE
   ·have maps : ∀ (id : Nat) (es : List (LVal × LVal)), s.st[id]? = some (.map es) → s1.st[id]? = some (.map es) := by
     intro id es hid
     have : id' ≠ id := fun e => by subst e; rw [g2] at hid; cases hid
     rw [g7, List.getElem?_set_ne this]; exact hid
    unfold xL
    split
    ·rename_i agg n a p hq
     rw [hq] at hok
     intro id off t c h1 h2 h3 h4
     dsimp only at hok
     rw [List.any_eq_true] at hok
     obtain ⟨⟨a', m⟩, hm1, hm2⟩ := hok
     simp only [Bool.and_eq_true, beq_iff_eq] at hm2
     obtain ⟨hsame, rfl⟩ := hm2
     have hpk : s.zu a' = some (.ptr id off) := by
      rw [same_peek hsame]; exact h1
     by_cases hid : id' = id
     ·subst hid
      rw [g2] at h2; injection h2 with h2; injection h2 with e1 e2; subst e1; subst e2
      have hlt := (List.getElem?_eq_some_iff.1 g2).1
      have hlen : (c'.take off' ++ us ++ c'.drop (off' + n0)).length = c'.length := by simp; omega
      refine ⟨c'.take off' ++ us ++ c'.drop (off' + n0), by rw [g7]; simp [List.getElem?_set, hlt], hlen, ?_, jz hlen fun i hi1 hi2 => ?_⟩
      ·rw [List.all_eq_true] at h3 g5 ⊢
       intro y hy
       rcases List.mem_append.1 hy with hy | hy
       ·rcases List.mem_append.1 hy with hy | hy
        ·exact h3 y (List.mem_of_mem_take hy)
        ·exact g5 y hy
       ·exact h3 y (List.mem_of_mem_drop hy)
      ·rw [splice_at g3 g4]
       simp only [yK, g1] at g6
       have := List.all_eq_true.1 g6 _ hm1
       simp only [hpk, bne_self_eq_false, Bool.false_or, Bool.or_eq_true, decide_eq_true_eq] at this
       rw [if_neg (by omega)]
     ·exact ⟨c, by rw [g7, List.getElem?_set_ne hid]; exact h2, rfl, h3, rfl⟩
    ·intro id es h1 h2; exact maps _ _ h2
    ·intro id es h1 h2; exact maps _ _ h2
    ·trivial
  | _ => rw [hop] at hok; simp at hok
theorem po {s : RS} {p : Opd} {v : LVal} {o : zj} (h : p.same o.pl = false) : yg (s.zZ p v) o.dst = yg s o.dst := by
 unfold zj.pl at h
 cases hd : o.dst with
 | none => rfl
 | some k =>
  rw [hd] at h
  have := xF (s := s) (v := v) h
  simp only [RS.zu] at this
  simp only [yg, this]
theorem wE {s : RS} {p : Opd} {u v : LVal} : (s.zZ p u).zZ p v = s.zZ p v := by
 cases p <;> simp [RS.zZ]
theorem setP_back {s : RS} {o : zj} (hu : o.dst = none → s.rs[o.ix]? = some .undef) (hd : yg s o.dst = true) : ∃ v0 : LVal, v0.yT = v0 ∧ s.zZ o.pl v0 = s := by
 unfold zj.pl
 cases hdst : o.dst with
 | none => exact ⟨.undef, rfl, by simp only [RS.zZ]; rw [x7 (hu hdst)]⟩
 | some k =>
  rw [hdst] at hd
  cases hk : s.vars[k]? with
  | none => exact ⟨.undef, rfl, by simp only [RS.zZ]; rw [List.set_eq_of_length_le (by simpa using hk)]⟩
  | some u =>
   simp only [yg, hk, Option.all_some] at hd
   refine ⟨u, ?_, by simp only [RS.zZ]; rw [x7 hk]⟩
   cases u with
   | vs b o n xs => cases o <;> first | rfl | simp [LVal.free] at hd
   | _ => rfl
theorem kL {s : RS} {ix t : Nat} {pk strict : Bool} {tn : List (Opd × Nat)} : ya C im impl s ⟨ix, none, none, .mv (.loc t) pk, strict, tn⟩ =
 if (s.zu (.loc t)).any (LVal.calm strict) then (s.yW (.loc t)).map (fun r => r.2.zZ (.loc ix) r.1.stay.yT) else none := by
 cases pk <;> simp only [ya, LOp.quiet, Bool.false_and, Bool.false_eq_true, if_false, x8, LOp.yy, Bool.or_true, if_true, yE, LOp.zQ, List.all_cons, List.all_nil, Bool.and_true, yx, yK, sem] <;> split <;> rfl
theorem unpk_unpk (v : LVal) : v.yT.yT = v.yT := by
 cases v with
 | vs b o n xs => cases o <;> rfl
 | _ => rfl
theorem commute_ma {oi oj : zj} (hind : oN oi oj = true) {s s1 s2 : RS} (hu : oi.dst = none → s.rs[oi.ix]? = some .undef) (h1 : ya C im impl s oi = some s1) (h2 : ya C im impl s1 oj = some s2) :
 ∃ s1', ya C im impl s oj = some s1' ∧ ya C im impl s1' oi = some s2 := by
 obtain ⟨ix, dst, guard, op, strict, tn⟩ := oi
 simp only [oN] at hind
 split at hind
 ·rename_i x t pk
  dsimp only at hu
  simp only [Bool.and_eq_true, Bool.not_eq_true', Option.isNone_iff_eq_none, bne_iff_ne, ne_eq] at hind
  obtain ⟨⟨⟨⟨⟨rfl, rfl⟩, ha⟩, hna⟩, hm⟩, hne⟩ := hind
  have hux := hu rfl
  have am := wR hm
  have a1 : apart (.loc ix) (oj.rds ++ oj.wrs) := am (.loc ix) (List.mem_cons_self ..)
  have a2 : apart (.loc t) (oj.rds ++ oj.wrs) := am (.loc t) (List.mem_cons_of_mem _ (List.mem_cons_self ..))
  have hapx : oj.op.isApp = true → ∃ j, (Opd.loc ix) = .loc j := fun _ => ⟨_, rfl⟩
  have hapt : oj.op.isApp = true → ∃ j, (Opd.loc t) = .loc j := fun _ => ⟨_, rfl⟩
  rw [kL] at h1
  split at h1
  ·rename_i hcalm
   simp only [Option.map_eq_some_iff] at h1
   obtain ⟨⟨u, s'⟩, hg, rfl⟩ := h1
   have hsx : s.zZ (.loc ix) .undef = s := by simp only [RS.zZ]; rw [x7 hux]
   cases hy : s.rs[t]? with
   | none => simp [RS.yW, hy] at hg
   | some y =>
    obtain ⟨z, hz, hzy, hzz, hyy, rfl, rfl⟩ : ∃ z : LVal, (∀ q : RS, q.rs[t]? = some y → q.yW (.loc t) = some (y, q.zZ (.loc t) z)) ∧ (z = y ∨ z = .undef) ∧ z.yT = z ∧ y.yT = y ∧ u = y ∧ s' = s.zZ (.loc t) z := by
     cases y with
     | vs b o n xs =>
      cases o with
      | pk l => simp [RS.yW, hy] at hg
      | own e x =>
       simp only [RS.yW, hy, Option.bind_some, Option.some.injEq, Prod.mk.injEq] at hg
       exact ⟨.undef, fun q hq => by simp only [RS.yW, hq, Option.bind_some]; rfl, .inr rfl, rfl, rfl, hg.1.symm, hg.2.symm⟩
      | sh =>
       simp only [RS.yW, hy, Option.bind_some, Option.some.injEq, Prod.mk.injEq] at hg
       exact ⟨_, fun q hq => by simp only [RS.yW, hq, Option.bind_some, RS.zZ]; rw [x7 hq], .inl rfl, rfl, rfl, hg.1.symm, by rw [← hg.2]; simp only [RS.zZ]; rw [x7 hy]⟩
      | full =>
       simp only [RS.yW, hy, Option.bind_some, Option.some.injEq, Prod.mk.injEq] at hg
       exact ⟨_, fun q hq => by simp only [RS.yW, hq, Option.bind_some, RS.zZ]; rw [x7 hq], .inl rfl, rfl, rfl, hg.1.symm, by rw [← hg.2]; simp only [RS.zZ]; rw [x7 hy]⟩
     | tup l =>
      simp only [RS.yW, hy, Option.bind_some, Option.some.injEq, Prod.mk.injEq] at hg
      exact ⟨.undef, fun q hq => by simp only [RS.yW, hq, Option.bind_some]; rfl, .inr rfl, rfl, rfl, hg.1.symm, hg.2.symm⟩
     | _ =>
      simp only [RS.yW, hy, Option.bind_some, Option.some.injEq, Prod.mk.injEq] at hg
      exact ⟨_, fun q hq => by simp only [RS.yW, hq, Option.bind_some, RS.zZ]; rw [x7 hq], .inl rfl, rfl, rfl, hg.1.symm, by rw [← hg.2]; simp only [RS.zZ]; rw [x7 hy]⟩
    have hxt : (Opd.loc ix).same (.loc t) = false := by simp [Opd.same, hne]
    have hsy : s.zZ (.loc t) u = s := by simp only [RS.zZ]; rw [x7 hy]
    have hF := sC (p := .loc t) (v := u) ha hyy a2 hapt (sC (p := .loc ix) (v := .undef) ha rfl a1 hapx h2)
    have hbk : (((s.zZ (.loc t) z).zZ (.loc ix) u.stay.yT).zZ (.loc ix) .undef).zZ (.loc t) u = s := by
     rw [wE, ← sm hxt, wE, hsx, hsy]
    dsimp only at hF h2
    rw [hbk] at hF
    have hA := sC (p := .loc ix) (v := u.stay.yT) ha (unpk_unpk _) a1 hapx h2
    rw [wE, h2] at hA
    injection hA with hA
    have hB := sC (p := .loc t) (v := z) ha hzz a2 hapt h2
    rw [← sm hxt, wE, sm hxt, h2] at hB
    injection hB with hB
    refine ⟨_, hF, ?_⟩
    have hc : u.calm false = true := by
     rw [RS.zu, hy, Option.any_some] at hcalm
     exact tA hcalm
    have hpk : ((s2.zZ (.loc ix) .undef).zZ (.loc t) u).zu (.loc t) = some u := by
     refine ((qa ha hF).1 (.loc t) (fun y hy => ?_) u (by rw [hna]; exact hc)).1 hy
     rw [pD]
     exact a2 y (List.mem_append_right _ hy)
    rw [kL, hpk, Option.any_some]
    rw [RS.zu, hy, Option.any_some] at hcalm
    rw [if_pos hcalm, hz _ hpk, Option.map_some, wE, ← sm hxt, wE, ← hA, ← hB]
  ·cases h1
 ·cases hind
theorem commute {oi oj : zj} (hind : indep oi oj = true) {s s1 s2 : RS} (hu : oi.dst = none → s.rs[oi.ix]? = some .undef) (h1 : ya C im impl s oi = some s1) (h2 : ya C im impl s1 oj = some s2) :
 ∃ s1', ya C im impl s oj = some s1' ∧ ya C im impl s1' oi = some s2 := by
 unfold indep at hind
 split at hind
 ·rename_i hqq
  simp only [Bool.and_eq_true] at hqq
  simp only [Bool.and_eq_true, Bool.not_eq_true'] at hind
  obtain ⟨hi1, hi2⟩ := hind
  have a1 := wR hi1 oi.pl (List.mem_cons_self ..)
  have a2 := wR hi2 oj.pl (List.mem_cons_self ..)
  have hpp : oi.pl.same oj.pl = false := a1 _ (List.mem_cons_self ..)
  obtain ⟨v1, rfl, _, d1, k1⟩ := tz hqq.1 h1
  obtain ⟨v2, rfl, _, d2, k2⟩ := tz hqq.2 h2
  refine ⟨s.zZ oj.pl v2, k2 s (.inl fun x hx => (xF (a1 x (List.mem_cons_of_mem _ hx))).symm) (vd ui.symm) (by rw [po hpp] at d2; exact d2), ?_⟩
  rw [k1 (s.zZ oj.pl v2) (.inl fun x hx => xF (a2 x hx)) (vd ui) (by rw [po (by rw [pD]; exact hpp)]; exact d1)]
  rw [sm (by rw [pD]; exact hpp)]
 ·split at hind
  ·rename_i hqa
   simp only [Bool.and_eq_true, Bool.not_eq_true'] at hqa
   obtain ⟨⟨hq, hp⟩, ha⟩ := hqa
   rw [Bool.and_eq_true, Bool.or_eq_true] at hind
   obtain ⟨hind, hi4⟩ := hind
   rw [Bool.or_eq_true, Bool.not_eq_true'] at hi4
   obtain ⟨v, rfl, hv, d, k⟩ := tz hq h1
   have hv := hv hp
   obtain ⟨v0, u0, b0⟩ := setP_back hu d
   have hback : (s.zZ oi.pl v).zZ oi.pl v0 = s := by rw [wE, b0]
   have hmain : oi.pl.same oj.pl = false ∧ (∀ x ∈ oj.wrs, ∀ y ∈ oi.rds, x.same y = false) ∧ (oj.op.isApp = true → oi.strict = true ∧ oi.dst = none) ∧
    ∃ v0, ya C im impl s oj = some (s2.zZ oi.pl v0) ∧ s2 = (s2.zZ oi.pl v0).zZ oi.pl v := by
    rcases hind with hind | hind
    ·simp only [oM, Bool.and_eq_true, Bool.not_eq_true', Bool.or_eq_true] at hind
     obtain ⟨⟨hi1, hi2⟩, hi3⟩ := hind
     have a1 := wR hi1 oi.pl (List.mem_cons_self ..)
     have happ : oj.op.isApp = true → oi.strict = true ∧ oi.dst = none := fun h => by
      rcases hi3 with hi3 | hi3
      ·rw [h] at hi3; cases hi3
      ·exact ⟨hi3.1, by simpa using hi3.2⟩
     have happ' : oj.op.isApp = true → ∃ j, oi.pl = .loc j := fun h => ⟨oi.ix, by simp [zj.pl, (happ h).2]⟩
     have hF := sC (p := oi.pl) (v := v0) ha u0 a1 happ' h2
     rw [hback] at hF
     have hF2 := sC (p := oi.pl) (v := v) ha hv a1 happ' hF
     rw [wE, ← b0, wE] at hF2
     rw [← b0, wE] at h2
     exact ⟨a1 _ (List.mem_append_right _ (List.mem_cons_self ..)), wR hi2, happ, v0, hF, by
      have : some s2 = _ := h2.symm.trans hF2
      injection this with this
      rw [wE]; exact this⟩
    ·simp only [indepQS, Bool.and_eq_true, Bool.not_eq_true'] at hind
     obtain ⟨⟨⟨hdn, hna⟩, hi1⟩, hi2⟩ := hind
     have a1 := wR hi1 oi.pl (List.mem_cons_self ..)
     have happ : oj.op.isApp = true → oi.strict = true ∧ oi.dst = none := fun h => by rw [h] at hna; cases hna
     have happ' : oj.op.isApp = true → ∃ j, oi.pl = .loc j := fun h => by rw [h] at hna; cases hna
     have hpo : ∀ x ∈ oj.op.zQ, oi.pl.same x = false := fun x hx => a1 x (List.mem_append_left _ (List.mem_append_left _ hx))
     have hs0 : s.zZ oi.pl .undef = s := by
      have hd0 : oi.dst = none := by simpa using hdn
      have := hu hd0
      simp only [zj.pl, hd0, RS.zZ]
      rw [x7 this]
     have hF := nz (p := oi.pl) (v := .undef) ha rfl a1 (fun h => kB hpo h) happ' h2
     rw [wE, hs0] at hF
     have hF3 := nz (p := oi.pl) (v := v) ha hv a1 (fun h => by rw [wE]; exact h) happ' h2
     rw [wE, h2] at hF3
     injection hF3 with hF3
     exact ⟨a1 _ (List.mem_append_right _ (List.mem_cons_self ..)), wR hi2, happ, .undef, hF, by rw [wE]; exact hF3⟩
   obtain ⟨hplpl, a2, happ, v0, hF, hF2⟩ := hmain
   obtain ⟨E1, E2⟩ := qa ha hF
   refine ⟨_, hF, ?_⟩
   have n1 : ln oi (s2.zZ oi.pl v0) s oi.rds := .inr ⟨hp, fun x hx c hc hpk => by
    refine (E1 x (fun y hy => a2 y hy x hx) c ?_).1 hpk
    cases happj : oj.op.isApp with
    | true => rw [(happ happj).1] at hc; exact hc
    | false => exact tA hc⟩
   have n2 : xL oi s (s2.zZ oi.pl v0) := by
    rcases hi4 with hi4 | hi4
    ·exact qi hi4
    ·exact na hi4 (fun h => (happ h).1) E2
   have n3 : yg (s2.zZ oi.pl v0) oi.dst = true := by
    cases hdst : oi.dst with
    | none => rfl
    | some kk =>
     have hna : oj.op.isApp = false := by
      cases happj : oj.op.isApp with
      | false => rfl
      | true => rw [(happ happj).2] at hdst; cases hdst
     have hpl : oi.pl = .var kk := by simp [zj.pl, hdst]
     have hvk := oY ha hna hF (k := kk) (by rw [← hpl]; exact hplpl)
     rw [hdst] at d
     simp only [yg] at d ⊢
     rw [hvk]
     exact d
   rw [k _ n1 n2 n3, ← hF2]
  ·split at hind
   ·rename_i hqa
    simp only [Bool.and_eq_true, Bool.not_eq_true'] at hqa
    obtain ⟨⟨ha, hq⟩, hp⟩ := hqa
    simp only [oM, Bool.and_eq_true, Bool.not_eq_true', Bool.or_eq_true] at hind
    obtain ⟨⟨⟨hi1, hi2⟩, hi3⟩, hi4⟩ := hind
    have a1 := wR hi1 oj.pl (List.mem_cons_self ..)
    have a2 := wR hi2
    have happ : oi.op.isApp = true → oj.strict = true ∧ oj.dst = none := fun h => by
     rcases hi3 with hi3 | hi3
     ·rw [h] at hi3; cases hi3
     ·exact ⟨hi3.1, by simpa using hi3.2⟩
    have happ' : oi.op.isApp = true → ∃ j, oj.pl = .loc j := fun h => ⟨oj.ix, by simp [zj.pl, (happ h).2]⟩
    obtain ⟨v, rfl, hv, d, k⟩ := tz hq h2
    have hv := hv hp
    obtain ⟨E1, E2⟩ := qa ha h1
    refine ⟨s.zZ oj.pl v, k s (.inr ⟨hp, fun x hx c hc hpk => ?_⟩) (qi hi4) ?_, sC ha hv a1 happ' h1⟩
    ·refine (E1 x (fun y hy => a2 y hy x hx) c ?_).2 hpk
     cases happj : oi.op.isApp with
     | true => rw [(happ happj).1] at hc; exact hc
     | false => exact tA hc
    ·cases hdst : oj.dst with
     | none => rfl
     | some kk =>
      have hna : oi.op.isApp = false := by
       cases happj : oi.op.isApp with
       | false => rfl
       | true => rw [(happ happj).2] at hdst; cases hdst
      have hpl : oj.pl = .var kk := by simp [zj.pl, hdst]
      have hvk := oY ha hna h1 (k := kk) (by rw [← hpl]; exact a1 _ (List.mem_append_right _ (List.mem_cons_self ..)))
      rw [hdst] at d
      simp only [yg, hvk] at d
      exact d
   ·exact commute_ma hind hu h1 h2
end Go.L
