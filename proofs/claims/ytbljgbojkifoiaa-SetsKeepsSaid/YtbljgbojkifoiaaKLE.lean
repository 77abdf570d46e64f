/- The interpreter, part LE. -/
import Derived.Test.YtbljgbojkifoiaaKLA
/- L18: operations of a drawn region that may change places. -/
set_option linter.unusedVariables false
set_option linter.unusedSimpArgs false
set_option linter.unusedSectionVars false
namespace Go.L

variable {C : CallL} {im : TypeId → String → Option FuncId} {impl : TypeId → TypeId → Bool}

def Opd.same : Opd → Opd → Bool
  | .loc i, .loc j => i == j
  | .var i, .var j => i == j
  | _, _ => false

theorem set_same {α : Type} {l : List α} {i : Nat} {v : α} (h : l[i]? = some v) : l.set i v = l := by
  apply List.ext_getElem?
  intro j
  rw [List.getElem?_set]
  split
  · rename_i e; subst e
    obtain ⟨h1, h2⟩ := List.getElem?_eq_some_iff.1 h
    simp [h1, h2]
  · rfl

theorem calm1_stay {b : Bool} {v : LVal} (h : v.calm1 b = true) : v.stay = v := by
  cases v with
  | vs n o k xs => cases o <;> simp_all [LVal.calm1, LVal.stay]
  | _ => rfl
theorem calm1_weak {b : Bool} {v : LVal} (h : v.calm1 b = true) : v.calm1 false = true := by
  cases b with
  | false => exact h
  | true => cases v with
    | vs n o k xs => cases o <;> simp_all [LVal.calm1]
    | _ => first | rfl | simp [LVal.calm1] at h
theorem calm_weak {b : Bool} {v : LVal} (h : v.calm b = true) : v.calm false = true := by
  have key : (∀ l, v ≠ .tup l) → v.calm false = true := fun hn => by
    have e : ∀ b, v.calm b = v.calm1 b := fun b => by cases v <;> first | rfl | exact absurd rfl (hn _)
    rw [e] at h ⊢
    exact calm1_weak h
  cases v with
  | tup l => exact h
  | _ => exact key (by simp)
theorem calm_own {b e x n xs} {c : Bool} (h : (LVal.vs b (.own e x) n xs).calm c = true) : x = false ∧ c = false := by
  cases c <;> cases x <;> simp [LVal.calm, LVal.calm1] at h ⊢

/-- A copy of what is calm leaves all as it is. -/
theorem take_calm {s s' : RS} {x : Opd} {u : LVal} (h : s.take x = some (u, s')) (hc : (s.peek x).any (LVal.calm false) = true) :
    s' = s ∧ ∀ s2 : RS, s2.peek x = s.peek x → s2.take x = some (u, s2) := by
  cases x with
  | const v => simp [RS.take] at h; obtain ⟨rfl, rfl⟩ := h; exact ⟨rfl, fun s2 _ => rfl⟩
  | loc i =>
    simp only [RS.take, Option.bind_eq_some_iff, Option.map_eq_some_iff] at h
    obtain ⟨v, hv, u', hu, e⟩ := h
    simp only [RS.peek, hv, Option.any_some] at hc
    have key : ∀ (s2 : RS), s2.rs[i]? = some v → (if v.isOwn then { s2 with rs := s2.rs.set i v.stay } else s2) = s2 := by
      intro s2 h2
      split
      · rename_i ho
        have : v.stay = v := by
          cases v with
          | vs b o n xs => cases o <;> simp_all [LVal.isOwn, LVal.calm, LVal.calm1, LVal.stay]
          | _ => simp [LVal.isOwn] at ho
        rw [this, set_same h2]
      · rfl
    rw [key s hv] at e
    injection e with e1 e2
    refine ⟨e2.symm, fun s2 h2 => ?_⟩
    have h2' : s2.rs[i]? = some v := by simpa [RS.peek, hv] using h2
    simp only [RS.take, h2', Option.bind_some, hu, Option.map_some, key s2 h2', e1]
  | var i =>
    simp only [RS.take, Option.bind_eq_some_iff, Option.map_eq_some_iff] at h
    obtain ⟨v, hv, u', hu, e⟩ := h
    simp only [RS.peek, hv, Option.any_some] at hc
    have key : ∀ (s2 : RS), s2.vars[i]? = some v → (if v.isOwn then { s2 with vars := s2.vars.set i v.stay } else s2) = s2 := by
      intro s2 h2
      split
      · rename_i ho
        have : v.stay = v := by
          cases v with
          | vs b o n xs => cases o <;> simp_all [LVal.isOwn, LVal.calm, LVal.calm1, LVal.stay]
          | _ => simp [LVal.isOwn] at ho
        rw [this, set_same h2]
      · rfl
    rw [key s hv] at e
    injection e with e1 e2
    refine ⟨e2.symm, fun s2 h2 => ?_⟩
    have h2' : s2.vars[i]? = some v := by simpa [RS.peek, hv] using h2
    simp only [RS.take, h2', Option.bind_some, hu, Option.map_some, key s2 h2', e1]

def CalmOn (s : RS) (xs : List Opd) : Prop := ∀ x ∈ xs, (s.peek x).any (LVal.calm false) = true
def Alike (s2 s : RS) (xs : List Opd) : Prop := ∀ x ∈ xs, s2.peek x = s.peek x

theorem takes_calm : ∀ {xs : List Opd} {s s' : RS} {us : List LVal}, s.takes xs = some (us, s') → CalmOn s xs → s' = s ∧ ∀ s2 : RS, Alike s2 s xs → s2.takes xs = some (us, s2)
  | [], s, s', us, h, _ => by simp [RS.takes] at h; obtain ⟨rfl, rfl⟩ := h; exact ⟨rfl, fun _ _ => rfl⟩
  | x :: xs, s, s', us, h, hc => by
    simp only [RS.takes, Option.bind_eq_some_iff, Option.map_eq_some_iff] at h
    obtain ⟨⟨u, s1⟩, h1, ⟨us', s2'⟩, h2, e⟩ := h
    injection e with e1 e2
    dsimp only at h2 e1 e2
    obtain ⟨rfl, k1⟩ := take_calm h1 (hc x (List.mem_cons_self ..))
    obtain ⟨rfl, k2⟩ := takes_calm h2 (fun y hy => hc y (List.mem_cons_of_mem _ hy))
    refine ⟨e2.symm, fun s3 h3 => ?_⟩
    simp only [RS.takes, k1 s3 (h3 x (List.mem_cons_self ..)), Option.bind_some, k2 s3 (fun y hy => h3 y (List.mem_cons_of_mem _ hy)), Option.map_some, e1]
theorem takeParts_calm : ∀ {xs : List (Nat × Nat × Opd)} {s s' : RS} {us : List (Nat × Nat × LVal)}, s.takeParts xs = some (us, s') → CalmOn s (xs.map (·.2.2)) → s' = s ∧ ∀ s2 : RS, Alike s2 s (xs.map (·.2.2)) → s2.takeParts xs = some (us, s2)
  | [], s, s', us, h, _ => by simp [RS.takeParts] at h; obtain ⟨rfl, rfl⟩ := h; exact ⟨rfl, fun _ _ => rfl⟩
  | (off, n, x) :: xs, s, s', us, h, hc => by
    simp only [RS.takeParts, Option.bind_eq_some_iff, Option.map_eq_some_iff] at h
    obtain ⟨⟨u, s1⟩, h1, ⟨us', s2'⟩, h2, e⟩ := h
    injection e with e1 e2
    dsimp only at h2 e1 e2
    obtain ⟨rfl, k1⟩ := take_calm h1 (hc x (by simp))
    obtain ⟨rfl, k2⟩ := takeParts_calm h2 (fun y hy => hc y (List.mem_cons_of_mem _ hy))
    refine ⟨e2.symm, fun s3 h3 => ?_⟩
    simp only [RS.takeParts, k1 s3 (h3 x (by simp)), Option.bind_some, k2 s3 (fun y hy => h3 y (List.mem_cons_of_mem _ hy)), Option.map_some, e1]
theorem takeElems_calm : ∀ {xs : List (Nat × Opd)} {s s' : RS} {us : List (Nat × LVal)}, s.takeElems xs = some (us, s') → CalmOn s (xs.map (·.2)) → s' = s ∧ ∀ s2 : RS, Alike s2 s (xs.map (·.2)) → s2.takeElems xs = some (us, s2)
  | [], s, s', us, h, _ => by simp [RS.takeElems] at h; obtain ⟨rfl, rfl⟩ := h; exact ⟨rfl, fun _ _ => rfl⟩
  | (i, x) :: xs, s, s', us, h, hc => by
    simp only [RS.takeElems, Option.bind_eq_some_iff, Option.map_eq_some_iff] at h
    obtain ⟨⟨u, s1⟩, h1, ⟨us', s2'⟩, h2, e⟩ := h
    injection e with e1 e2
    dsimp only at h2 e1 e2
    obtain ⟨rfl, k1⟩ := take_calm h1 (hc x (by simp))
    obtain ⟨rfl, k2⟩ := takeElems_calm h2 (fun y hy => hc y (List.mem_cons_of_mem _ hy))
    refine ⟨e2.symm, fun s3 h3 => ?_⟩
    simp only [RS.takeElems, k1 s3 (h3 x (by simp)), Option.bind_some, k2 s3 (fun y hy => h3 y (List.mem_cons_of_mem _ hy)), Option.map_some, e1]
theorem peeks_alike : ∀ {xs : List Opd} {s s2 : RS}, Alike s2 s xs → s2.peeks xs = s.peeks xs
  | [], _, _, _ => rfl
  | x :: xs, s, s2, h => by simp only [RS.peeks, h x (List.mem_cons_self ..), peeks_alike (fun y hy => h y (List.mem_cons_of_mem _ hy))]
theorem peekO_alike : ∀ {x : Option Opd} {s s2 : RS}, Alike s2 s (optL x) → s2.peekO x = s.peekO x
  | none, _, _, _ => rfl
  | some x, s, s2, h => by simp only [RS.peekO, h x (by simp [optL])]

/-! ### What a quiet operation gives hangs on its operands alone -/
def QOK (xs : List Opd) (s : RS) (f : RS → Option (LVal × RS)) : Prop := ∀ v s', f s = some (v, s') → s' = s ∧ ∀ s2 : RS, Alike s2 s xs → f s2 = some (v, s2)

theorem QOK.none {xs s} : QOK xs s (fun _ => Option.none) := fun _ _ h => by cases h
theorem QOK.some {xs s} (v : LVal) : QOK xs s (fun s => Option.some (v, s)) := fun _ _ h => by
  injection h with h; injection h with h1 h2; subst h1; subst h2; exact ⟨rfl, fun _ _ => rfl⟩
theorem QOK.map {xs s} {α : Type} (o : Option α) (g : α → LVal) : QOK xs s (fun s => o.map fun r => (g r, s)) := by
  cases o with
  | none => exact QOK.none
  | some r => exact QOK.some _
theorem QOK.obind {xs s} {α : Type} {o : Option α} {g : α → RS → Option (LVal × RS)} (h : ∀ a, QOK xs s (g a)) : QOK xs s (fun s => o.bind fun a => g a s) := by
  cases o with
  | none => exact QOK.none
  | some r => exact h r
theorem QOK.peek {xs s} {x : Opd} {g : LVal → RS → Option (LVal × RS)} (hx : x ∈ xs) (h : ∀ u, QOK xs s (g u)) : QOK xs s (fun s => (s.peek x).bind fun u => g u s) := by
  intro v s' hv
  simp only [Option.bind_eq_some_iff] at hv
  obtain ⟨u, hu, h2⟩ := hv
  obtain ⟨rfl, k⟩ := h u v s' h2
  exact ⟨rfl, fun s2 h2 => by simp only [h2 x hx, hu, Option.bind_some]; exact k s2 h2⟩
theorem QOK.peekO {xs s} {x : Option Opd} {g : Option LVal → RS → Option (LVal × RS)} (hx : ∀ y ∈ optL x, y ∈ xs) (h : ∀ u, QOK xs s (g u)) : QOK xs s (fun s => (s.peekO x).bind fun u => g u s) := by
  intro v s' hv
  simp only [Option.bind_eq_some_iff] at hv
  obtain ⟨u, hu, h2⟩ := hv
  obtain ⟨rfl, k⟩ := h u v s' h2
  exact ⟨rfl, fun s2 h2 => by simp only [peekO_alike (fun y hy => h2 y (hx y hy)), hu, Option.bind_some]; exact k s2 h2⟩
theorem QOK.peeks {xs s} {x : List Opd} {g : List LVal → RS → Option (LVal × RS)} (hx : ∀ y ∈ x, y ∈ xs) (h : ∀ u, QOK xs s (g u)) : QOK xs s (fun s => (s.peeks x).bind fun u => g u s) := by
  intro v s' hv
  simp only [Option.bind_eq_some_iff] at hv
  obtain ⟨u, hu, h2⟩ := hv
  obtain ⟨rfl, k⟩ := h u v s' h2
  exact ⟨rfl, fun s2 h2 => by simp only [peeks_alike (fun y hy => h2 y (hx y hy)), hu, Option.bind_some]; exact k s2 h2⟩
theorem QOK.take {xs s} {x : Opd} {g : LVal × RS → Option (LVal × RS)} (hx : x ∈ xs) (hc : (s.peek x).any (LVal.calm false) = true) (h : ∀ u, QOK xs s (fun s => g (u, s))) : QOK xs s (fun s => (s.take x).bind g) := by
  intro v s' hv
  simp only [Option.bind_eq_some_iff] at hv
  obtain ⟨⟨u, s1⟩, hu, h2⟩ := hv
  obtain ⟨rfl, k1⟩ := take_calm hu hc
  obtain ⟨rfl, k⟩ := h u v s' h2
  exact ⟨rfl, fun s2 h2 => by simp only [k1 s2 (h2 x hx), Option.bind_some]; exact k s2 h2⟩
theorem QOK.takes {xs s} {x : List Opd} {g : List LVal × RS → Option (LVal × RS)} (hx : ∀ y ∈ x, y ∈ xs) (hc : CalmOn s x) (h : ∀ u, QOK xs s (fun s => g (u, s))) : QOK xs s (fun s => (s.takes x).bind g) := by
  intro v s' hv
  simp only [Option.bind_eq_some_iff] at hv
  obtain ⟨⟨u, s1⟩, hu, h2⟩ := hv
  obtain ⟨rfl, k1⟩ := takes_calm hu hc
  obtain ⟨rfl, k⟩ := h u v s' h2
  exact ⟨rfl, fun s2 h2 => by simp only [k1 s2 (fun y hy => h2 y (hx y hy)), Option.bind_some]; exact k s2 h2⟩
theorem QOK.takeParts {xs s} {x : List (Nat × Nat × Opd)} {g : List (Nat × Nat × LVal) × RS → Option (LVal × RS)} (hx : ∀ y ∈ x.map (·.2.2), y ∈ xs) (hc : CalmOn s (x.map (·.2.2))) (h : ∀ u, QOK xs s (fun s => g (u, s))) : QOK xs s (fun s => (s.takeParts x).bind g) := by
  intro v s' hv
  simp only [Option.bind_eq_some_iff] at hv
  obtain ⟨⟨u, s1⟩, hu, h2⟩ := hv
  obtain ⟨rfl, k1⟩ := takeParts_calm hu hc
  obtain ⟨rfl, k⟩ := h u v s' h2
  exact ⟨rfl, fun s2 h2 => by simp only [k1 s2 (fun y hy => h2 y (hx y hy)), Option.bind_some]; exact k s2 h2⟩
theorem QOK.takeElems {xs s} {x : List (Nat × Opd)} {g : List (Nat × LVal) × RS → Option (LVal × RS)} (hx : ∀ y ∈ x.map (·.2), y ∈ xs) (hc : CalmOn s (x.map (·.2))) (h : ∀ u, QOK xs s (fun s => g (u, s))) : QOK xs s (fun s => (s.takeElems x).bind g) := by
  intro v s' hv
  simp only [Option.bind_eq_some_iff] at hv
  obtain ⟨⟨u, s1⟩, hu, h2⟩ := hv
  obtain ⟨rfl, k1⟩ := takeElems_calm hu hc
  obtain ⟨rfl, k⟩ := h u v s' h2
  exact ⟨rfl, fun s2 h2 => by simp only [k1 s2 (fun y hy => h2 y (hx y hy)), Option.bind_some]; exact k s2 h2⟩

/-- The quiet operations that do not look at the store. -/
theorem quiet_sem {s : RS} {op : LOp} (hq : op.quiet = true) (hl : op.looks = false) (hp : op.peeks = false) (hc : CalmOn s op.opds) : QOK op.opds s (fun s => sem C im impl s op) := by
  cases op with
  | mv x p =>
    cases x with
    | loc i => simp [LOp.quiet] at hq
    | var k =>
      simp only [LOp.peeks] at hp; subst hp
      intro v s' h
      obtain ⟨rfl, k1⟩ := take_calm (x := .var k) h (hc _ (by simp [LOp.opds]))
      exact ⟨rfl, fun s2 h2 => k1 s2 (h2 _ (by simp [LOp.opds]))⟩
    | const c =>
      intro v s' h
      have h' : RS.take s (.const c) = some (v, s') := by cases p <;> exact h
      obtain ⟨rfl, k1⟩ := take_calm (x := .const c) h' (hc _ (by simp [LOp.opds]))
      exact ⟨rfl, fun s2 h2 => by have := k1 s2 rfl; cases p <;> exact this⟩
  | pick c x y =>
    refine QOK.peek (by simp [LOp.opds]) fun u => ?_
    cases u with
    | bool t =>
      cases t with
      | true =>
        intro v s' h
        obtain ⟨rfl, k1⟩ := take_calm (x := x) h (hc _ (by simp [LOp.opds]))
        exact ⟨rfl, fun s2 h2 => k1 s2 (h2 _ (by simp [LOp.opds]))⟩
      | false =>
        intro v s' h
        obtain ⟨rfl, k1⟩ := take_calm (x := y) h (hc _ (by simp [LOp.opds]))
        exact ⟨rfl, fun s2 h2 => k1 s2 (h2 _ (by simp [LOp.opds]))⟩
    | _ => exact QOK.none
  | build z ps =>
    refine QOK.takeParts (fun y hy => hy) hc fun u => ?_
    by_cases hb : u.all (fun p => p.2.2.cells.all LVal.plain) = true
    · simp only [hb, if_true]; exact QOK.map _ _
    · simp only [hb]; exact QOK.none
  | mkslice z e len ps =>
    refine QOK.takeElems (fun y hy => hy) hc fun u => ?_
    by_cases hb : z.cells.length = e ∧ u.all (fun p => fitsElem z p.2) = true
    · simp only [hb, and_self, if_true]; exact QOK.map _ _
    · simp only [hb, if_false]; exact QOK.none
  | nilCheck x => exact QOK.peek (by simp [LOp.opds]) fun u => by cases u <;> first | exact QOK.some _ | exact QOK.none
  | bin op x y => exact QOK.peek (by simp [LOp.opds]) fun u => QOK.peek (by simp [LOp.opds]) fun v => QOK.map _ _
  | un op x => exact QOK.peek (by simp [LOp.opds]) fun u => QOK.map _ _
  | eqAgg neq ks x y =>
    exact QOK.peek (by simp [LOp.opds]) fun u => QOK.peek (by simp [LOp.opds]) fun v => by
      cases u <;> cases v <;> try exact QOK.none
      dsimp only
      split
      · exact QOK.map _ _
      · exact QOK.none
  | isNil k neq x => exact QOK.peek (by simp [LOp.opds]) fun u => QOK.map _ _
  | eqBool neq x y => exact QOK.peek (by simp [LOp.opds]) fun u => QOK.peek (by simp [LOp.opds]) fun v => by cases u <;> cases v <;> first | exact QOK.some _ | exact QOK.none
  | cvInt k x => exact QOK.peek (by simp [LOp.opds]) fun u => by cases u <;> first | exact QOK.some _ | exact QOK.none
  | cvId x => exact QOK.peek (by simp [LOp.opds]) fun u => by cases u <;> first | exact QOK.some _ | exact QOK.none
  | cvStr x =>
    exact QOK.peek (by simp [LOp.opds]) fun u => by
      cases u with
      | vs b o n xs =>
        match n with
        | 1 => exact QOK.map _ _
        | 0 => exact QOK.none
        | n + 2 => exact QOK.none
      | _ => exact QOK.none
  | cvBytes x =>
    exact QOK.peek (by simp [LOp.opds]) fun u => by
      cases u with
      | str l =>
        dsimp only
        split
        · exact QOK.some _
        · exact QOK.none
      | _ => exact QOK.none
  | mkIface t x =>
    exact QOK.take (by simp [LOp.opds]) (hc _ (by simp [LOp.opds])) fun u => by
      by_cases hb : (u.plain || u.isAgg) = true
      · simp only [hb, if_true]; exact QOK.some _
      · simp only [hb]; exact QOK.none
  | mkFunc f caps =>
    exact QOK.takes (fun y hy => hy) hc fun u => by
      by_cases hb : u.all LVal.plain = true
      · simp only [hb, if_true]; exact QOK.some _
      · simp only [hb]; exact QOK.none
  | makeSlice z e esz bytes l c m =>
    simp only [LOp.quiet, Bool.not_eq_true'] at hq
    subst hq
    refine QOK.peek (by simp [LOp.opds]) fun u => QOK.peek (by simp [LOp.opds]) fun v => ?_
    cases u <;> cases v <;> try exact QOK.none
    dsimp only
    split
    · simp only [Bool.false_eq_true, if_false]; exact QOK.some _
    · exact QOK.none
  | sliceStr x lo hi =>
    exact QOK.peek (by simp [LOp.opds]) fun u => QOK.peekO (fun y hy => by simp [LOp.opds, hy]) fun lo => QOK.peekO (fun y hy => by simp [LOp.opds, hy]) fun hi => by
      cases u <;> first | exact QOK.obind fun _ => QOK.map _ _ | exact QOK.none
  | sliceVs e x lo0 hi0 mx0 =>
    exact QOK.peekO (fun y hy => by simp [LOp.opds, hy]) fun lo => QOK.peekO (fun y hy => by simp [LOp.opds, hy]) fun hi => QOK.peekO (fun y hy => by simp [LOp.opds, hy]) fun mx => QOK.peek (by simp [LOp.opds]) fun u => by
      have general : QOK (LOp.sliceVs e x lo0 hi0 mx0).opds s (fun s => (s.take x).bind fun r => match r.1 with
        | .vs b o n xs => if n = e ∨ b = true then (bound mx xs.length xs.length).bind fun m => (bound hi xs.length m).bind fun h => (bound lo 0 h).map fun lo =>
            (.vs b (if mx.isSome then (if m = h then .full else .sh) else if o = .full ∧ h = xs.length then .full else .sh) n ((xs.take h).drop lo), r.2) else none
        | _ => none) := QOK.take (by simp [LOp.opds]) (hc _ (by simp [LOp.opds])) fun w => by
          cases w with
          | vs b o n xs =>
            dsimp only
            split
            · exact QOK.obind fun _ => QOK.obind fun _ => QOK.map _ _
            · exact QOK.none
          | _ => exact QOK.none
      cases u with
      | ms id off len e' agg =>
        dsimp only
        split
        · exact QOK.obind fun _ => QOK.map _ _
        · exact QOK.none
      | _ => exact general
  | fieldAddr off n agg x =>
    exact QOK.peek (by simp [LOp.opds]) fun u => by
      cases u with
      | ptr id o => exact QOK.some _
      | ref v => cases v <;> first | exact QOK.map _ _ | exact QOK.none
      | _ => exact QOK.none
  | field off n agg x => exact QOK.peek (by simp [LOp.opds]) fun u => by cases u <;> first | exact QOK.map _ _ | exact QOK.none
  | idxAddrArr len e agg x i =>
    exact QOK.peek (by simp [LOp.opds]) fun u => QOK.peek (by simp [LOp.opds]) fun v => QOK.obind fun _ => QOK.obind fun _ => by
      cases u with
      | ptr id o => exact QOK.some _
      | ref v => cases v <;> first | exact QOK.map _ _ | exact QOK.none
      | _ => exact QOK.none
  | idxAddrVs e x i =>
    exact QOK.peek (by simp [LOp.opds]) fun v => QOK.obind fun _ => QOK.take (by simp [LOp.opds]) (hc _ (by simp [LOp.opds])) fun u => by
      cases u with
      | vs b o n xs =>
        dsimp only
        split
        · exact QOK.obind fun _ => QOK.map _ _
        · exact QOK.none
      | ms id off len e' agg =>
        dsimp only
        split
        · exact QOK.map _ _
        · exact QOK.none
      | _ => exact QOK.none
  | idxArr len e agg x i => exact QOK.peek (by simp [LOp.opds]) fun u => QOK.peek (by simp [LOp.opds]) fun v => QOK.obind fun _ => QOK.obind fun _ => by cases u <;> first | exact QOK.map _ _ | exact QOK.none
  | idxStr x i =>
    exact QOK.peek (by simp [LOp.opds]) fun u => QOK.peek (by simp [LOp.opds]) fun v => QOK.obind fun _ => by
      cases u with
      | str l => exact QOK.obind fun _ => QOK.map _ _
      | _ => exact QOK.none
  | tassert t z x ok =>
    exact QOK.peek (by simp [LOp.opds]) fun u => by
      cases u with
      | niliface => dsimp only; split <;> first | exact QOK.some _ | exact QOK.none
      | iface t' v => dsimp only; split <;> first | exact QOK.some _ | (split <;> first | exact QOK.some _ | exact QOK.none)
      | _ => exact QOK.none
  | tassertI t x =>
    exact QOK.peek (by simp [LOp.opds]) fun u => by
      cases u with
      | iface t' v => dsimp only; split <;> first | exact QOK.some _ | exact QOK.none
      | _ => exact QOK.none
  | extract x i =>
    have hx := hc x (by simp [LOp.opds])
    cases x with
    | const c => exact QOK.none
    | loc j =>
      intro v s' h
      have h0 := h
      simp only [sem, Option.bind_eq_some_iff] at h
      obtain ⟨t, ht, h⟩ := h
      cases t with
      | tup l =>
        simp only [Option.bind_eq_some_iff] at h
        obtain ⟨c, hci, h⟩ := h
        simp only [RS.peek, ht, Option.any_some, LVal.calm, List.all_eq_true] at hx
        have hcc := hx c (List.mem_of_getElem? hci)
        have hno : c.isOwn = false := by cases c with
          | vs n o k xs => cases o <;> simp_all [LVal.calm1, LVal.isOwn]
          | _ => rfl
        have hnt : ∀ l', c ≠ .tup l' := fun l' e => by subst e; simp [LVal.calm1] at hcc
        have hfin : ∀ s2 : RS, s2.rs[j]? = some (.tup l) → sem C im impl s2 (.extract (.loc j) i) = some (c, s2) := by
          intro s2 h2
          simp only [sem, h2, Option.bind_some, hci]
          cases c with
          | tup l' => exact absurd rfl (hnt _)
          | _ => simp [hno]
        have h1 : s' = s ∧ v = c := by
          dsimp only at h0
          rw [hfin s ht] at h0
          injection h0 with h0; injection h0 with e1 e2
          exact ⟨e2.symm, e1.symm⟩
        obtain ⟨rfl, rfl⟩ := h1
        refine ⟨rfl, fun s2 h2 => ?_⟩
        have h2' : s2.rs[j]? = some (.tup l) := by have := h2 (.loc j) (by simp [LOp.opds]); simpa [RS.peek, ht] using this
        exact hfin s2 h2'
      | _ => simp at h
    | var k =>
      intro v s' h
      have h0 := h
      simp only [sem, Option.bind_eq_some_iff] at h
      obtain ⟨t, ht, h⟩ := h
      cases t with
      | tup l =>
        simp only [Option.bind_eq_some_iff] at h
        obtain ⟨c, hci, h⟩ := h
        simp only [RS.peek, ht, Option.any_some, LVal.calm, List.all_eq_true] at hx
        have hcc := hx c (List.mem_of_getElem? hci)
        have hno : c.isOwn = false := by cases c with
          | vs n o k xs => cases o <;> simp_all [LVal.calm1, LVal.isOwn]
          | _ => rfl
        have hnt : ∀ l', c ≠ .tup l' := fun l' e => by subst e; simp [LVal.calm1] at hcc
        have hfin : ∀ s2 : RS, s2.vars[k]? = some (.tup l) → sem C im impl s2 (.extract (.var k) i) = some (c, s2) := by
          intro s2 h2
          simp only [sem, h2, Option.bind_some, hci]
          cases c with
          | tup l' => exact absurd rfl (hnt _)
          | _ => simp [hno]
        have h1 : s' = s ∧ v = c := by
          dsimp only at h0
          rw [hfin s ht] at h0
          injection h0 with h0; injection h0 with e1 e2
          exact ⟨e2.symm, e1.symm⟩
        obtain ⟨rfl, rfl⟩ := h1
        refine ⟨rfl, fun s2 h2 => ?_⟩
        have h2' : s2.vars[k]? = some (.tup l) := by have := h2 (.var k) (by simp [LOp.opds]); simpa [RS.peek, ht] using this
        exact hfin s2 h2'
      | _ => simp at h
  | callp f args =>
    exact QOK.takes (fun y hy => hy) hc fun u => by
      intro v s' h2
      dsimp only at h2
      split at h2
      case isFalse => cases h2
      rename_i hpf
      simp only [Option.bind_eq_some_iff] at h2
      obtain ⟨⟨v1, st⟩, hC, h3⟩ := h2
      cases st with
      | some _ => simp at h3
      | none =>
        simp at h3
        obtain ⟨rfl, rfl⟩ := h3
        exact ⟨rfl, fun s2 _ => by simp only [hpf, if_true, hC, Option.bind_some]⟩
  | len k x =>
    have hk : k ≠ 2 := by intro e; subst e; simp [LOp.looks] at hl
    refine QOK.peek (by simp [LOp.opds]) fun u => ?_
    have hst : ∀ st st' : List LObj, lenL k st u = lenL k st' u := by
      intro st st'
      match k with
      | 0 => cases u <;> rfl
      | 1 => cases u <;> rfl
      | 2 => exact absurd rfl hk
      | n + 3 => cases u <;> rfl
    intro v s' h
    simp only [Option.map_eq_some_iff] at h
    obtain ⟨n, hn, e⟩ := h
    injection e with e1 e2
    subst e1; subst e2
    exact ⟨rfl, fun s2 _ => by simp only [hst s2.st s.st, hn, Option.map_some]⟩
  | minmax mx x r => exact QOK.peek (by simp [LOp.opds]) fun u => QOK.peeks (fun y hy => by simp [LOp.opds, hy]) fun l => by cases u <;> first | exact QOK.map _ _ | exact QOK.none
  | s2ap n x =>
    exact QOK.take (by simp [LOp.opds]) (hc _ (by simp [LOp.opds])) fun u => by
      cases u with
      | vs b o m xs =>
        cases b with
        | false =>
          dsimp only
          split
          · exact QOK.some _
          · exact QOK.none
        | true => exact QOK.none
      | _ => exact QOK.none
  | load agg n a p => simp [LOp.looks] at hl
  | lookup kd z x i ok => simp [LOp.looks] at hl
  | _ => simp [LOp.quiet] at hq
end Go.L
/- L19: which operations of a drawn region may change places. -/
set_option linter.unusedVariables false
set_option linter.unusedSimpArgs false
set_option linter.unusedSectionVars false
namespace Go.L

variable {C : CallL} {im : TypeId → String → Option FuncId} {impl : TypeId → TypeId → Bool}

/-! ### Places -/
def LOper.pl (o : LOper) : Opd := match o.dst with
  | none => .loc o.ix
  | some k => .var k
def LOper.wrs (o : LOper) : List Opd := o.pl :: o.op.gives
def LOper.rds (o : LOper) : List Opd := o.op.opds ++ ((match o.guard with | none => [] | some g => [g.1]) ++ o.away.map (·.1))
def RS.setP (p : Opd) (v : LVal) (s : RS) : RS := match p with
  | .loc i => { s with rs := s.rs.set i v }
  | .var k => { s with vars := s.vars.set k v }
  | .const _ => s
def apart (p : Opd) (l : List Opd) : Prop := ∀ x ∈ l, p.same x = false

theorem same_comm (x y : Opd) : x.same y = y.same x := by
  cases x <;> cases y <;> first
    | rfl
    | (show (_ == _) = (_ == _); rw [Bool.eq_iff_iff, beq_iff_eq, beq_iff_eq]; exact ⟨Eq.symm, Eq.symm⟩)
theorem peek_setP {p x : Opd} {v : LVal} {s : RS} (h : p.same x = false) : (s.setP p v).peek x = s.peek x := by
  cases p <;> cases x <;> simp [Opd.same] at h <;> simp [RS.setP, RS.peek, List.getElem?_set_ne, h]
theorem alike_setP {p : Opd} {v : LVal} {s : RS} {l : List Opd} (h : apart p l) : Alike (s.setP p v) s l := fun x hx => peek_setP (h x hx)
theorem setP_comm {p q : Opd} {u v : LVal} {s : RS} (h : p.same q = false) : (s.setP p u).setP q v = (s.setP q v).setP p u := by
  cases p <;> cases q <;> simp [Opd.same] at h <;> simp only [RS.setP]
  · rw [List.set_comm _ _ h]
  · rw [List.set_comm _ _ h]
theorem st_setP {p : Opd} {v : LVal} {s : RS} : (s.setP p v).st = s.st := by cases p <;> rfl
theorem set_map_unpk {l : List LVal} {i : Nat} {v : LVal} (hv : v.unpk = v) : (l.set i v).map LVal.unpk = (l.map LVal.unpk).set i v := by
  rw [List.map_set, hv]
theorem noPk_setP {p : Opd} {v : LVal} {s : RS} (hv : v.unpk = v) : (s.setP p v).noPk = (s.noPk).setP p v := by
  cases p <;> simp [RS.setP, RS.noPk, List.map_set, hv]
theorem st_upd_setP {p : Opd} {v : LVal} {s : RS} (st : List LObj) : ({ s.setP p v with st := st } : RS) = ({ s with st := st } : RS).setP p v := by cases p <;> rfl
theorem LVal.unpk_idem (v : LVal) : v.unpk.unpk = v.unpk := by
  cases v with
  | vs b o n xs => cases o <;> rfl
  | _ => rfl
theorem settled_stay {v : LVal} (h : v.settled = true) : v.stay = v := by
  cases v with
  | vs b o n xs => cases o <;> simp_all [LVal.settled, LVal.stay]
  | _ => rfl
theorem settled_map {c : List LVal} (h : c.all LVal.settled = true) : c.map LVal.stay = c := by
  rw [List.all_eq_true] at h
  conv => rhs; rw [← List.map_id c]
  exact List.map_congr_left fun x hx => settled_stay (h x hx)

/-! ### Quiet operations -/
def LookAgree (o : LOper) (s s2 : RS) : Prop :=
  match o.op with
  | .load _ n a _ => ∀ (id off : Nat) (t : TypeId) (c : List LVal), s.peek a = some (.ptr id off) → s.st[id]? = some (.cells t c) → c.all LVal.settled = true → ((c.drop off).take n).all (fun v => v.plain || (!o.strict && v.isOwn)) = true →
      ∃ c2, s2.st[id]? = some (.cells t c2) ∧ c2.length = c.length ∧ c2.all LVal.settled = true ∧ (c2.drop off).take n = (c.drop off).take n
  | .lookup _ _ x _ _ | .len 2 x => ∀ (id : Nat) (es : List (LVal × LVal)), s.peek x = some (.map id) → s.st[id]? = some (.map es) → s2.st[id]? = some (.map es)
  | _ => True

/-- What was calm is there. -/
def AlikeC (b : Bool) (s2 s : RS) (l : List Opd) : Prop := ∀ x ∈ l, ∀ c : LVal, c.calm b = true → s.peek x = some c → s2.peek x = some c

/-- What it needs is there. -/
def Needs (o : LOper) (s2 s : RS) (l : List Opd) : Prop := Alike s2 s l ∨ (o.op.peeks = false ∧ AlikeC o.strict s2 s l)

theorem semD_quiet {s : RS} {o : LOper} (hq : o.op.quiet = true) {v : LVal} {s' : RS} (h : semD C im impl s o = some (v, s')) :
    s' = s ∧ ∀ s2 : RS, Needs o s2 s o.op.opds → LookAgree o s s2 → semD C im impl s2 o = some (v, s2) := by
  suffices H : s' = s ∧ ∀ s2 : RS, Alike s2 s o.op.opds → LookAgree o s s2 → semD C im impl s2 o = some (v, s2) by
    refine ⟨H.1, fun s2 h2 hA => H.2 s2 ?_ hA⟩
    rcases h2 with h2 | ⟨hp, h2⟩
    · exact h2
    · intro x hx
      have hc : calmOk s o.strict o.op = true := by
        simp only [semD, hq, Bool.true_or, if_true] at h
        split at h
        · rename_i hc; simp only [Bool.and_eq_true] at hc; exact hc.1.1
        · cases h
      have hc' : (o.op.opds.all fun x => (s.peek x).any (LVal.calm o.strict)) = true := by
        cases hop : o.op with
        | mv y p =>
          rw [hop] at hp hc
          cases y with
          | var k => simp only [LOp.peeks] at hp; subst hp; exact hc
          | _ => exact hc
        | append => rw [hop] at hq; simp [LOp.quiet] at hq
        | _ => rw [hop] at hc; exact hc
      have := List.all_eq_true.1 hc' x hx
      cases hpx : s.peek x with
      | none => simp [hpx] at this
      | some c => simp only [hpx, Option.any_some] at this; exact h2 x hx c this hpx
  obtain ⟨ix, dst, guard, op, strict, away⟩ := o
  dsimp only at hq
  simp only [semD, hq, Bool.true_or, if_true] at h ⊢
  by_cases hcond : (calmOk s strict op && loadCalm strict s op && awayOk s away op) = true
  · rw [if_pos hcond] at h
    simp only [Bool.and_eq_true] at hcond
    obtain ⟨⟨hc1, hc2⟩, hc3⟩ := hcond
    have haw : ∀ s2 : RS, awayOk s2 away op = true := fun s2 => by cases op <;> first | rfl | simp [LOp.quiet] at hq
    by_cases hl : op.looks = true
    · cases op with
      | load agg n a p =>
        have hca : (s.peek a).any (LVal.calm strict) = true := by simpa [calmOk, LOp.opds] using hc1
        simp only [sem, Option.bind_eq_some_iff] at h
        obtain ⟨pv, hpv, h⟩ := h
        have main : s' = s ∧ ∀ s2 : RS, s2.peek a = s.peek a → LookAgree ⟨ix, dst, guard, .load agg n a p, strict, away⟩ s s2 → loadL s2 agg n pv p = some (v, s2) ∧ loadCalm strict s2 (.load agg n a p) = true := by
          cases pv with
          | ref u =>
            simp only [loadL] at h
            split at h
            · rename_i hu
              injection h with h; injection h with e1 e2; subst e1; subst e2
              exact ⟨rfl, fun s2 h2 _ => ⟨by simp [loadL, hu], by simp [loadCalm, h2, hpv]⟩⟩
            · cases h
          | ptr id off =>
            simp only [loadCalm, hpv] at hc2
            cases hst : s.st[id]? with
            | none => simp [hst] at hc2
            | some ob =>
              cases ob with
              | dead => simp [hst] at hc2
              | map es => simp [hst] at hc2
              | cells t c =>
                simp only [hst, Bool.and_eq_true] at hc2
                obtain ⟨hs1, hs2⟩ := hc2
                simp only [loadL, hst] at h
                split at h
                · rename_i hle
                  have agr : ∀ s2 : RS, s2.peek a = s.peek a → LookAgree ⟨ix, dst, guard, .load agg n a p, strict, away⟩ s s2 → ∃ c2, s2.st[id]? = some (.cells t c2) ∧ c2.length = c.length ∧ c2.all LVal.settled = true ∧ (c2.drop off).take n = (c.drop off).take n :=
                    fun s2 _ hA => hA id off t c hpv hst hs1 hs2
                  have hlc : ∀ s2 : RS, s2.peek a = s.peek a → LookAgree ⟨ix, dst, guard, .load agg n a p, strict, away⟩ s s2 → loadCalm strict s2 (.load agg n a p) = true := by
                    intro s2 h2 hA
                    obtain ⟨c2, k1, k2, k3, k4⟩ := agr s2 h2 hA
                    simp only [loadCalm, h2, hpv, k1, k3, k4, hs2, Bool.and_self]
                  cases agg with
                  | true =>
                    simp only [if_true, settled_map hs1, set_same hst, ite_self] at h
                    injection h with h; injection h with e1 e2; subst e1; subst e2
                    refine ⟨rfl, fun s2 h2 hA => ⟨?_, hlc s2 h2 hA⟩⟩
                    obtain ⟨c2, k1, k2, k3, k4⟩ := agr s2 h2 hA
                    simp only [loadL, k1, k2, hle, if_true, k4, settled_map k3, set_same k1, ite_self]
                  | false =>
                    simp only [Bool.false_eq_true, if_false] at h
                    split at h
                    · rename_i hn
                      subst hn
                      simp only [Option.map_eq_some_iff] at h
                      obtain ⟨x, hx, h⟩ := h
                      have hone : ∀ s2 : RS, s2.peek a = s.peek a → LookAgree ⟨ix, dst, guard, .load false 1 a p, strict, away⟩ s s2 → ∃ c2, s2.st[id]? = some (.cells t c2) ∧ c2.length = c.length ∧ c2.all LVal.settled = true ∧ c2[off]? = some x := by
                        intro s2 h2 hA
                        obtain ⟨c2, k1, k2, k3, k4⟩ := agr s2 h2 hA
                        refine ⟨c2, k1, k2, k3, ?_⟩
                        have e1 : ((c2.drop off).take 1)[0]? = c2[off]? := by simp [List.getElem?_take, List.getElem?_drop]
                        have e2 : ((c.drop off).take 1)[0]? = c[off]? := by simp [List.getElem?_take, List.getElem?_drop]
                        rw [← e1, k4, e2]; exact hx
                      by_cases ho : x.isOwn = true
                      · simp only [ho, if_true] at h
                        cases p with
                        | true =>
                          simp only [if_true] at h
                          injection h with e1 e2; subst e1; subst e2
                          refine ⟨rfl, fun s2 h2 hA => ⟨?_, hlc s2 h2 hA⟩⟩
                          obtain ⟨c2, k1, k2, k3, k4⟩ := hone s2 h2 hA
                          simp only [loadL, k1, k2, hle, if_true, Bool.false_eq_true, if_false, k4, Option.map_some, ho]
                        | false =>
                          simp only [Bool.false_eq_true, if_false, settled_map hs1, set_same hst] at h
                          injection h with e1 e2; subst e1; subst e2
                          refine ⟨rfl, fun s2 h2 hA => ⟨?_, hlc s2 h2 hA⟩⟩
                          obtain ⟨c2, k1, k2, k3, k4⟩ := hone s2 h2 hA
                          simp only [loadL, k1, k2, hle, if_true, Bool.false_eq_true, if_false, k4, Option.map_some, ho, settled_map k3, set_same k1]
                      · simp only [ho] at h
                        injection h with e1 e2; subst e1; subst e2
                        refine ⟨rfl, fun s2 h2 hA => ⟨?_, hlc s2 h2 hA⟩⟩
                        obtain ⟨c2, k1, k2, k3, k4⟩ := hone s2 h2 hA
                        simp only [loadL, k1, k2, hle, if_true, Bool.false_eq_true, if_false, k4, Option.map_some, ho]
                    · cases h
                · cases h
          | _ => simp [loadL] at h
        obtain ⟨rfl, k⟩ := main
        refine ⟨rfl, fun s2 h2 hA => ?_⟩
        have h2a := h2 a (by simp [LOp.opds])
        obtain ⟨k1, k2⟩ := k s2 h2a hA
        have : (calmOk s2 strict (.load agg n a p) && loadCalm strict s2 (.load agg n a p) && awayOk s2 away (.load agg n a p)) = true := by
          simp [calmOk, LOp.opds, h2a, hca, k2, haw]
        rw [if_pos this]
        simp only [sem, h2a, hpv, Option.bind_some]
        exact k1
      | lookup kd z x i ok =>
        simp only [calmOk] at hc1
        simp only [sem, Option.bind_eq_some_iff] at h
        obtain ⟨u, hu, k, hk, h⟩ := h
        split at h
        · rename_i hkk
          simp only [Option.map_eq_some_iff] at h
          obtain ⟨r, hr, e⟩ := h
          injection e with e1 e2; subst e2
          refine ⟨rfl, fun s2 h2 hA => ?_⟩
          have hx2 := h2 x (by simp [LOp.opds])
          have hi2 := h2 i (by simp [LOp.opds])
          have : (calmOk s2 strict (.lookup kd z x i ok) && loadCalm strict s2 (.lookup kd z x i ok) && awayOk s2 away (.lookup kd z x i ok)) = true := by
            simp only [calmOk, LOp.opds, List.all_cons, List.all_nil, Bool.and_true, Bool.and_eq_true] at hc1 ⊢
            exact ⟨⟨by rw [hx2, hi2]; exact hc1, rfl⟩, rfl⟩
          rw [if_pos this]
          simp only [sem, hx2, hi2, hu, hk, Option.bind_some, hkk, if_true]
          have hr2 : lookL s2.st k u = some r := by
            cases u with
            | map id =>
              simp only [lookL] at hr ⊢
              cases hst : s.st[id]? with
              | none => simp [hst] at hr
              | some ob =>
                cases ob with
                | map es => rw [hst] at hr; rw [hA id es hu hst]; exact hr
                | _ => simp [hst] at hr
            | _ => exact hr
          rw [hr2]
          simp only [Option.map_some, e1]
        · cases h
      | len kk x =>
        have hkk : kk = 2 := by
          match kk with
          | 2 => rfl
          | 0 => simp [LOp.looks] at hl
          | 1 => simp [LOp.looks] at hl
          | n + 3 => simp [LOp.looks] at hl
        subst hkk
        simp only [calmOk] at hc1
        simp only [sem, Option.bind_eq_some_iff, Option.map_eq_some_iff] at h
        obtain ⟨u, hu, m, hn, e⟩ := h
        injection e with e1 e2; subst e1; subst e2
        refine ⟨rfl, fun s2 h2 hA => ?_⟩
        have hx2 := h2 x (by simp [LOp.opds])
        have : (calmOk s2 strict (.len 2 x) && loadCalm strict s2 (.len 2 x) && awayOk s2 away (.len 2 x)) = true := by
          simp only [calmOk, LOp.opds, List.all_cons, List.all_nil, Bool.and_true, Bool.and_eq_true] at hc1 ⊢
          exact ⟨⟨by rw [hx2]; exact hc1, rfl⟩, rfl⟩
        rw [if_pos this]
        simp only [sem, hx2, hu, Option.bind_some]
        have hn2 : lenL 2 s2.st u = some m := by
          cases u with
          | map id =>
            simp only [lenL] at hn ⊢
            cases hst : s.st[id]? with
            | none => simp [hst] at hn
            | some ob =>
              cases ob with
              | map es => rw [hst] at hn; rw [hA id es hu hst]; exact hn
              | _ => simp [hst] at hn
          | _ => exact hn
        rw [hn2]; rfl
      | _ => simp [LOp.looks] at hl
    · have hl' : op.looks = false := by simpa using hl
      have hlc : ∀ s2 : RS, loadCalm strict s2 op = true := fun s2 => by cases op <;> first | rfl | simp [LOp.looks] at hl'
      by_cases hp : op.peeks = true
      · cases op with
        | mv x p =>
          cases x with
          | var k =>
            simp only [LOp.peeks] at hp; subst hp
            simp only [sem, Option.bind_eq_some_iff] at h
            obtain ⟨u, hu, h⟩ := h
            have key : s' = s ∧ ∀ s2 : RS, s2.vars[k]? = some u → sem C im impl s2 (.mv (.var k) true) = some (v, s2) := by
              refine ⟨?_, fun s2 h2 => ?_⟩
              · cases u with
                | vs b o n xs => cases o <;> simp at h <;> exact h.2.symm
                | tup l => simp at h
                | _ => simp at h; exact h.2.symm
              · simp only [sem, h2, Option.bind_some]
                cases u with
                | vs b o n xs => cases o <;> simp at h ⊢ <;> exact h.1
                | tup l => simp at h
                | _ => simp at h ⊢; exact h.1
            obtain ⟨rfl, k1⟩ := key
            refine ⟨rfl, fun s2 h2 _ => ?_⟩
            have h2' : s2.vars[k]? = some u := by have := h2 (.var k) (by simp [LOp.opds]); simpa [RS.peek, hu] using this
            rw [if_pos (by simp [calmOk, hlc, haw])]
            exact k1 s2 h2'
          | _ => simp [LOp.peeks] at hp
        | load => simp [LOp.looks] at hl'
        | _ => simp [LOp.peeks] at hp
      · have hp' : op.peeks = false := by simpa using hp
        have hcond : ∀ s2 : RS, calmOk s2 strict op = op.opds.all fun x => (s2.peek x).any (LVal.calm strict) := by
          intro s2
          cases op with
          | mv x p =>
            cases x with
            | var k => simp only [LOp.peeks] at hp'; subst hp'; rfl
            | _ => rfl
          | append => simp [LOp.quiet] at hq
          | _ => rfl
        rw [hcond s] at hc1
        have hcalm : CalmOn s op.opds := fun x hx => by
          have := List.all_eq_true.1 hc1 x hx
          cases hpx : s.peek x with
          | none => simp [hpx] at this
          | some u => simp only [hpx, Option.any_some] at this ⊢; exact calm_weak this
        obtain ⟨rfl, k⟩ := quiet_sem (C := C) (im := im) (impl := impl) hq hl' hp' hcalm v s' h
        refine ⟨rfl, fun s2 h2 _ => ?_⟩
        have : (op.opds.all fun x => (s2.peek x).any (LVal.calm strict)) = true := by
          rw [List.all_eq_true] at hc1 ⊢
          intro x hx
          rw [h2 x hx]; exact hc1 x hx
        rw [hcond s2, this, hlc, haw]
        exact k s2 h2
  · rw [if_neg hcond] at h; cases h

/-- A quiet operation's step. -/
theorem stepD_quiet {s s1 : RS} {o : LOper} (hq : o.op.quiet = true) (h : stepD C im impl s o = some s1) :
    ∃ v, s1 = s.setP o.pl v ∧ (o.op.peeks = false → v.unpk = v) ∧ dstFree s o.dst = true ∧
      ∀ s2 : RS, Needs o s2 s o.rds → LookAgree o s s2 → dstFree s2 o.dst = true → stepD C im impl s2 o = some (s2.setP o.pl v) := by
  unfold stepD at h ⊢
  simp only [hq, Bool.true_and] at h ⊢
  cases hd : dstFree s o.dst with
  | false => simp [hd] at h
  | true =>
    simp only [hd, Bool.not_true, Bool.false_eq_true, if_false] at h
    have hput : ∀ (s2 : RS) (v : LVal), dstFree s2 o.dst = true → s2.put o v = s2.setP o.pl (match o.dst with | none => v | some _ => v.unpk) := by
      intro s2 v h2
      unfold RS.put LOper.pl
      cases hdst : o.dst with
      | none => rfl
      | some k =>
        simp only [RS.setVar]
        rw [hdst] at h2
        simp only [dstFree] at h2
        have : (s2.vars[k]?).any LVal.isOwn = false := by
          cases hk : s2.vars[k]? with
          | none => rfl
          | some u =>
            rw [hk] at h2
            simp only [Option.all_some] at h2
            cases u with
            | vs b o n xs => cases o <;> first | rfl | simp [LVal.free] at h2
            | _ => rfl
        rw [this]; rfl
    have hunpk : ∀ v : LVal, v.unpk = v → (match o.dst with | none => v | some _ => v.unpk).unpk = (match o.dst with | none => v | some _ => v.unpk) := by
      intro v hv
      cases o.dst with
      | none => exact hv
      | some k => exact LVal.unpk_idem v
    have hfix : ∀ v : LVal, o.op.peeks = false → (o.fix v).unpk = o.fix v := fun v hp => by simp [LOper.fix, hp, LVal.unpk_idem]
    have hop : ∀ x ∈ o.op.opds, x ∈ o.rds := fun x hx => List.mem_append_left _ hx
    have hsub : ∀ s2 : RS, Needs o s2 s o.rds → Needs o s2 s o.op.opds := fun s2 h => h.imp (fun h x hx => h x (hop x hx)) (fun h => ⟨h.1, fun x hx => h.2 x (hop x hx)⟩)
    have hgd : ∀ s2 : RS, Needs o s2 s o.rds → ∀ g c, g ∈ o.rds → (∀ b, c.calm b = true) → s.peek g = some c → s2.peek g = some c := fun s2 h g c hg hc hpk => by
      rcases h with h | ⟨_, h⟩
      · rw [h g hg]; exact hpk
      · exact h g hg c (hc _) hpk
    cases hg : o.guard with
    | none =>
      simp only [hg, Option.map_eq_some_iff] at h
      obtain ⟨⟨v, s'⟩, hv, e⟩ := h
      obtain ⟨rfl, k⟩ := semD_quiet hq hv
      subst e
      refine ⟨_, hput _ _ hd, fun hp => hunpk _ (hfix v hp), rfl, fun s2 h2 hA hd2 => ?_⟩
      simp only [hd2, Bool.not_true, Bool.false_eq_true, if_false, k s2 (hsub s2 h2) hA, Option.map_some]
      rw [hput _ _ hd2]
    | some gw =>
      obtain ⟨g, want⟩ := gw
      simp only [hg, Option.bind_eq_some_iff] at h
      obtain ⟨gv, hgv, h⟩ := h
      have hgr : g ∈ o.rds := by simp [LOper.rds, hg]
      cases gv with
      | bool b =>
        dsimp only at h
        split at h
        · rename_i hb
          simp only [Option.map_eq_some_iff] at h
          obtain ⟨⟨v, s'⟩, hv, e⟩ := h
          obtain ⟨rfl, k⟩ := semD_quiet hq hv
          subst e
          refine ⟨_, hput _ _ hd, fun hp => hunpk _ (hfix v hp), rfl, fun s2 h2 hA hd2 => ?_⟩
          simp only [hd2, Bool.not_true, Bool.false_eq_true, if_false, hgd s2 h2 g _ hgr (fun b => rfl) hgv, Option.bind_some, hb, if_true, k s2 (hsub s2 h2) hA, Option.map_some]
          rw [hput _ _ hd2]
        · rename_i hb
          injection h with h; subst h
          refine ⟨_, hput _ _ hd, fun hp => hunpk _ rfl, rfl, fun s2 h2 hA hd2 => ?_⟩
          simp only [hd2, Bool.not_true, Bool.false_eq_true, if_false, hgd s2 h2 g _ hgr (fun b => rfl) hgv, Option.bind_some, hb]
          rw [hput _ _ hd2]
      | tup l =>
        cases l with
        | nil =>
          injection h with h; subst h
          refine ⟨_, hput _ _ hd, fun hp => hunpk _ rfl, rfl, fun s2 h2 hA hd2 => ?_⟩
          simp only [hd2, Bool.not_true, Bool.false_eq_true, if_false, hgd s2 h2 g _ hgr (fun b => rfl) hgv, Option.bind_some]
          rw [hput _ _ hd2]
        | cons => simp at h
      | _ => simp at h
end Go.L
/- L20: the operations of a drawn region that act; two operations change places. -/
set_option linter.unusedVariables false
set_option linter.unusedSimpArgs false
set_option linter.unusedSectionVars false
namespace Go.L

variable {C : CallL} {im : TypeId → String → Option FuncId} {impl : TypeId → TypeId → Bool}

/-! ### A place that is not looked at -/
theorem take_F {s s' : RS} {x p : Opd} {u v : LVal} (hp : p.same x = false) (h : s.take x = some (u, s')) : (s.setP p v).take x = some (u, s'.setP p v) := by
  cases x with
  | const c => simp [RS.take] at h ⊢; obtain ⟨rfl, rfl⟩ := h; exact ⟨rfl, rfl⟩
  | loc i =>
    simp only [RS.take, Option.bind_eq_some_iff, Option.map_eq_some_iff] at h ⊢
    obtain ⟨y, hy, z, hz, e⟩ := h
    injection e with e1 e2; subst e1; subst e2
    have hy' : (s.setP p v).rs[i]? = some y := by have := peek_setP (s := s) (v := v) hp; simpa [RS.peek, hy] using this
    refine ⟨y, hy', z, hz, ?_⟩
    congr 1
    split
    · cases p with
      | loc j => simp [Opd.same] at hp; simp [RS.setP, List.set_comm _ _ hp]
      | _ => rfl
    · rfl
  | var i =>
    simp only [RS.take, Option.bind_eq_some_iff, Option.map_eq_some_iff] at h ⊢
    obtain ⟨y, hy, z, hz, e⟩ := h
    injection e with e1 e2; subst e1; subst e2
    have hy' : (s.setP p v).vars[i]? = some y := by have := peek_setP (s := s) (v := v) hp; simpa [RS.peek, hy] using this
    refine ⟨y, hy', z, hz, ?_⟩
    congr 1
    split
    · cases p with
      | var j => simp [Opd.same] at hp; simp [RS.setP, List.set_comm _ _ hp]
      | _ => rfl
    · rfl

theorem give_F {s s' : RS} {x p : Opd} {u v : LVal} (hp : p.same x = false) (h : s.give x = some (u, s')) : (s.setP p v).give x = some (u, s'.setP p v) := by
  cases x with
  | const c => exact take_F hp h
  | var i => exact take_F hp h
  | loc i =>
    simp only [RS.give, Option.bind_eq_some_iff] at h ⊢
    obtain ⟨y, hy, h⟩ := h
    have hy' : (s.setP p v).rs[i]? = some y := by have := peek_setP (s := s) (v := v) hp; simpa [RS.peek, hy] using this
    refine ⟨y, hy', ?_⟩
    have hset : ∀ z : LVal, ({ s.setP p v with rs := (s.setP p v).rs.set i z } : RS) = ({ s with rs := s.rs.set i z } : RS).setP p v := by
      intro z
      cases p with
      | loc j => simp [Opd.same] at hp; simp [RS.setP, List.set_comm _ _ hp]
      | _ => rfl
    cases y with
    | vs b o n xs =>
      cases o <;> simp at h ⊢ <;> obtain ⟨rfl, rfl⟩ := h <;> simp [hset]
    | tup l => simp at h ⊢; obtain ⟨rfl, rfl⟩ := h; simp [hset]
    | _ => simp at h ⊢; obtain ⟨rfl, rfl⟩ := h; simp

theorem put_F {s : RS} {o : LOper} {p : Opd} {u v : LVal} (hv : v.unpk = v) (hp : p.same o.pl = false) : (s.setP p v).put o u = (s.put o u).setP p v := by
  unfold RS.put
  unfold LOper.pl at hp
  cases hd : o.dst with
  | none =>
    rw [hd] at hp
    cases p with
    | loc j => simp [Opd.same] at hp; simp [RS.setP, List.set_comm _ _ hp]
    | _ => rfl
  | some k =>
    rw [hd] at hp
    have hk : (s.setP p v).vars[k]? = s.vars[k]? := by have := peek_setP (s := s) (v := v) hp; simpa [RS.peek] using this
    simp only [RS.setVar, hk, noPk_setP hv]
    cases p with
    | var j => simp [Opd.same] at hp; split <;> simp [RS.setP, RS.noPk, List.set_comm _ _ hp]
    | _ => split <;> rfl

theorem storeL_F {s s' : RS} {n : Nat} {a u v : LVal} {p : Opd} (hv : v.unpk = v) (h : storeL s n a u = some s') : storeL (s.setP p v) n a u = some (s'.setP p v) := by
  cases a with
  | ptr id off =>
    simp only [storeL, st_setP] at h ⊢
    cases hst : s.st[id]? with
    | none => simp [hst] at h
    | some ob =>
      cases ob with
      | cells t c =>
        simp only [hst] at h ⊢
        split at h
        · rename_i hc
          rw [if_pos hc]
          injection h with h; subst h
          congr 1
          split
          · rw [noPk_setP hv]; exact st_upd_setP _
          · exact st_upd_setP _
        · cases h
      | _ => simp [hst] at h
  | _ => simp [storeL] at h

theorem acquire_F {s s' : RS} {x : Opd} {j : Nat} {u v : LVal} (hv : v.unpk = v) (hp : (Opd.loc j).same x = false) (h : s.acquire x = some (u, s')) : (s.setP (.loc j) v).acquire x = some (u, s'.setP (.loc j) v) := by
  cases x with
  | const c => simp [RS.acquire] at h ⊢; obtain ⟨rfl, rfl⟩ := h; exact ⟨rfl, rfl⟩
  | var k => simp [RS.acquire] at h
  | loc i =>
    have hij : j ≠ i := by simpa [Opd.same] using hp
    simp only [RS.acquire, Option.bind_eq_some_iff] at h ⊢
    obtain ⟨y, hy, h⟩ := h
    have hy' : (s.setP (.loc j) v).rs[i]? = some y := by simp only [RS.setP, List.getElem?_set_ne hij]; exact hy
    refine ⟨y, hy', ?_⟩
    have hnp : (s.setP (.loc j) v).noPk = (s.noPk).setP (.loc j) v := noPk_setP hv
    cases y with
    | vs b o n xs =>
      cases o with
      | own e x =>
        simp at h ⊢; obtain ⟨rfl, rfl⟩ := h
        exact ⟨rfl, by simp [RS.setP, List.set_comm _ _ hij]⟩
      | pk l =>
        cases l with
        | var k =>
          dsimp only at h ⊢
          simp only [Option.bind_eq_some_iff] at h ⊢
          obtain ⟨z, hz, h⟩ := h
          refine ⟨z, hz, ?_⟩
          split at h
          · rename_i ho
            injection h with h; injection h with e1 e2; subst e1; subst e2
            rw [if_pos ho, hnp]; rfl
          · cases h
        | cell id off =>
          dsimp only at h ⊢
          rw [st_setP]
          cases hst : s.st[id]? with
          | none => simp [hst] at h
          | some ob =>
            cases ob with
            | cells t c =>
              simp only [hst, Option.bind_eq_some_iff] at h ⊢
              obtain ⟨z, hz, h⟩ := h
              refine ⟨z, hz, ?_⟩
              split at h
              · rename_i ho
                injection h with h; injection h with e1 e2; subst e1; subst e2
                rw [if_pos ho, hnp]; rfl
              · cases h
            | _ => simp [hst] at h
      | _ => simp at h ⊢; obtain ⟨rfl, rfl⟩ := h; exact ⟨rfl, rfl⟩
    | _ => simp at h ⊢; obtain ⟨rfl, rfl⟩ := h; exact ⟨rfl, rfl⟩

def LOp.isApp : LOp → Bool
  | .append .. => true
  | _ => false

theorem acts_not_quiet {op : LOp} (h : op.acts = true) : op.quiet = false := by
  cases op with
  | mv x p => cases x <;> first | rfl | simp [LOp.acts] at h
  | _ => first | rfl | simp [LOp.acts] at h

/-- The operation itself, where a place is set that it does not look at. -/
theorem sem_F {s s' : RS} {op : LOp} {p : Opd} {u v : LVal} (ha : op.acts = true) (hv : v.unpk = v) (hp : ∀ x ∈ op.opds, p.same x = false) (happ : op.isApp = true → ∃ j, p = .loc j)
    (h : sem C im impl s op = some (u, s')) : sem C im impl (s.setP p v) op = some (u, s'.setP p v) := by
  cases op with
  | mv x pk =>
    cases x with
    | loc i =>
      have h' : s.give (.loc i) = some (u, s') := by cases pk <;> exact h
      have := give_F (v := v) (hp (.loc i) (by simp [LOp.opds])) h'
      cases pk <;> exact this
    | _ => simp [LOp.acts] at ha
  | asg x => exact give_F (hp x (by simp [LOp.opds])) h
  | alloc t cells =>
    simp only [sem, Option.some.injEq, Prod.mk.injEq] at h ⊢
    obtain ⟨rfl, rfl⟩ := h
    rw [st_setP]
    refine ⟨rfl, ?_⟩
    unfold RS.alloc
    rw [st_setP]; exact st_upd_setP _
  | box t x =>
    simp only [sem, Option.bind_eq_some_iff] at h ⊢
    obtain ⟨r, h1, h2⟩ := h
    refine ⟨(r.1, r.2.setP p v), give_F (hp x (by simp [LOp.opds])) h1, ?_⟩
    split at h2
    · rename_i hc
      rw [if_pos hc]
      injection h2 with h2; injection h2 with e1 e2; subst e1; subst e2
      simp only [st_setP, RS.alloc]
      rw [st_upd_setP]
    · cases h2
  | mkMap =>
    simp only [sem, Option.some.injEq, Prod.mk.injEq] at h ⊢
    obtain ⟨rfl, rfl⟩ := h
    rw [st_setP]
    refine ⟨rfl, ?_⟩
    unfold RS.alloc
    rw [st_setP]; exact st_upd_setP _
  | store n a x =>
    simp only [sem, Option.bind_eq_some_iff, Option.map_eq_some_iff] at h ⊢
    obtain ⟨r, h1, pv, h2, s2, h3, e⟩ := h
    injection e with e1 e2; subst e1; subst e2
    refine ⟨(r.1, r.2.setP p v), give_F (hp x (by simp [LOp.opds])) h1, pv, by rw [peek_setP (hp a (by simp [LOp.opds]))]; exact h2, _, storeL_F hv h3, rfl⟩
  | mapUpdate kd m k x =>
    simp only [sem, Option.bind_eq_some_iff] at h ⊢
    obtain ⟨mv, h1, kv, h2, r, h3, h4⟩ := h
    refine ⟨mv, by rw [peek_setP (hp m (by simp [LOp.opds]))]; exact h1, kv, by rw [peek_setP (hp k (by simp [LOp.opds]))]; exact h2, (r.1, r.2.setP p v), take_F (hp x (by simp [LOp.opds])) h3, ?_⟩
    cases mv with
    | map id =>
      dsimp only at h4 ⊢
      rw [st_setP]
      cases hst : s.st[id]? with
      | none => simp [hst] at h4
      | some ob =>
        cases ob with
        | map es =>
          simp only [hst] at h4 ⊢
          split at h4
          · rename_i hc
            rw [if_pos hc]
            simp only [Option.map_eq_some_iff] at h4 ⊢
            obtain ⟨es', h5, e⟩ := h4
            injection e with e1 e2; subst e1; subst e2
            refine ⟨es', h5, ?_⟩
            rw [st_setP, st_upd_setP]
          · cases h4
        | _ => simp [hst] at h4
    | _ => simp at h4
  | append e esz bytes x y =>
    obtain ⟨j, rfl⟩ := happ rfl
    simp only [sem, Option.bind_eq_some_iff] at h ⊢
    obtain ⟨yv, h1, ys, h2, h3⟩ := h
    refine ⟨yv, by rw [peek_setP (hp y (by simp [LOp.opds]))]; exact h1, ys, h2, ?_⟩
    unfold appendL at h3 ⊢
    simp only [Option.bind_eq_some_iff] at h3 ⊢
    obtain ⟨r, h4, h5⟩ := h3
    refine ⟨(r.1, r.2.setP (.loc j) v), acquire_F hv (hp x (by simp [LOp.opds])) h4, ?_⟩
    cases hr : r.1 with
    | vs b o n xs =>
      simp only [hr] at h5 ⊢
      split at h5
      · rename_i hc
        rw [if_pos hc]
        injection h5 with h5; injection h5 with e1 e2; subst e1; subst e2; rfl
      · rename_i hc
        rw [if_neg hc]
        split at h5
        · rename_i hc2
          rw [if_pos hc2]
          cases o with
          | full => dsimp only at h5 ⊢; split at h5 <;> first | (rename_i hc3; rw [if_pos hc3]; injection h5 with h5; injection h5 with e1 e2; subst e1; subst e2; rfl) | cases h5
          | own e' ex => dsimp only at h5 ⊢; split at h5 <;> first | (rename_i hc3; rw [if_pos hc3]; injection h5 with h5; injection h5 with e1 e2; subst e1; subst e2; rfl) | cases h5
          | sh => dsimp only at h5 ⊢; split at h5 <;> first | (rename_i hc3; rw [if_pos hc3]; injection h5 with h5; injection h5 with e1 e2; subst e1; subst e2; rfl) | cases h5
          | pk l => simp at h5
        · cases h5
    | _ => simp [hr] at h5
  | _ => simp [LOp.acts] at ha

theorem calmOk_alike {s s2 : RS} {b : Bool} {op : LOp} (h : Alike s2 s op.opds) : calmOk s2 b op = calmOk s b op := by
  have key : (op.opds.all fun x => (s2.peek x).any (LVal.calm b)) = (op.opds.all fun x => (s.peek x).any (LVal.calm b)) := by
    rw [Bool.eq_iff_iff, List.all_eq_true, List.all_eq_true]
    exact ⟨fun k x hx => by rw [← h x hx]; exact k x hx, fun k x hx => by rw [h x hx]; exact k x hx⟩
  unfold calmOk
  split
  · rfl
  · rw [h _ (by simp [LOp.opds])]
  · exact key

theorem awayOk_alike {s s2 : RS} {l : List (Opd × Nat)} {op : LOp} (h : Alike s2 s op.opds) (ha : Alike s2 s (l.map (·.1))) : awayOk s2 l op = awayOk s l op := by
  cases op with
  | store n a x =>
    simp only [awayOk]
    rw [h a (by simp [LOp.opds])]
    cases s.peek a with
    | none => rfl
    | some av =>
      cases av with
      | ptr id off =>
        dsimp only
        rw [Bool.eq_iff_iff, List.all_eq_true, List.all_eq_true]
        have e : ∀ p ∈ l, s2.peek p.1 = s.peek p.1 := fun p hp => ha p.1 (List.mem_map.2 ⟨p, hp, rfl⟩)
        exact ⟨fun k p hp => by have := k p hp; rw [e p hp] at this; exact this, fun k p hp => by have := k p hp; rw [← e p hp] at this; exact this⟩
      | _ => rfl
  | _ => rfl

theorem loadCalm_acts {s : RS} {b : Bool} {op : LOp} (h : op.acts = true) : loadCalm b s op = true := by
  cases op <;> first | rfl | simp [LOp.acts] at h

/-- What it reads, but for what it is to keep away from. -/
def LOper.rds0 (o : LOper) : List Opd := o.op.opds ++ (match o.guard with | none => [] | some g => [g.1])
/-- The step of an operation that acts, where a place is set that it does not look at, but to keep away. -/
theorem stepD_F2 {s s1 : RS} {e : LOper} {p : Opd} {v : LVal} (ha : e.op.acts = true) (hv : v.unpk = v) (hp : apart p (e.rds0 ++ e.wrs)) (haw : awayOk s e.away e.op = true → awayOk (s.setP p v) e.away e.op = true) (happ : e.op.isApp = true → ∃ j, p = .loc j)
    (h : stepD C im impl s e = some s1) : stepD C im impl (s.setP p v) e = some (s1.setP p v) := by
  have hq := acts_not_quiet ha
  have hpo : ∀ x ∈ e.op.opds, p.same x = false := fun x hx => hp x (List.mem_append_left _ (List.mem_append_left _ hx))
  have hpl : p.same e.pl = false := hp _ (List.mem_append_right _ (List.mem_cons_self ..))
  have hal : Alike (s.setP p v) s e.op.opds := alike_setP hpo
  have hsem : ∀ {u s'}, semD C im impl s e = some (u, s') → semD C im impl (s.setP p v) e = some (u, s'.setP p v) := by
    intro u s' h
    simp only [semD, ha, Bool.or_true, if_true] at h ⊢
    rw [calmOk_alike hal]
    rw [loadCalm_acts ha] at h ⊢
    split at h
    · rename_i hc
      simp only [Bool.and_true, Bool.and_eq_true] at hc
      rw [if_pos (by simp [hc.1, haw hc.2])]
      exact sem_F ha hv hpo happ h
    · cases h
  unfold stepD at h ⊢
  simp only [hq, Bool.false_and, Bool.false_eq_true, if_false] at h ⊢
  cases hg : e.guard with
  | none =>
    simp only [hg, Option.map_eq_some_iff] at h ⊢
    obtain ⟨⟨u, s'⟩, h1, rfl⟩ := h
    exact ⟨_, hsem h1, put_F hv hpl⟩
  | some gw =>
    obtain ⟨g, want⟩ := gw
    have hgp : (s.setP p v).peek g = s.peek g := peek_setP (hp g (List.mem_append_left _ (List.mem_append_right _ (by simp [hg]))))
    simp only [hg, hgp, Option.bind_eq_some_iff] at h ⊢
    obtain ⟨gv, hgv, h⟩ := h
    refine ⟨gv, hgv, ?_⟩
    cases gv with
    | bool b =>
      dsimp only at h ⊢
      split at h
      · rename_i hb
        rw [if_pos hb]
        simp only [Option.map_eq_some_iff] at h ⊢
        obtain ⟨⟨u, s'⟩, h1, rfl⟩ := h
        exact ⟨_, hsem h1, put_F hv hpl⟩
      · rename_i hb
        rw [if_neg hb]
        injection h with h; subst h
        rw [put_F hv hpl]
    | tup l =>
      cases l with
      | nil => injection h with h; subst h; dsimp only; rw [put_F hv hpl]
      | cons => simp at h
    | _ => simp at h
/-- The step of an operation that acts, where a place is set that it does not look at. -/
theorem stepD_F {s s1 : RS} {e : LOper} {p : Opd} {v : LVal} (ha : e.op.acts = true) (hv : v.unpk = v) (hp : apart p (e.rds ++ e.wrs)) (happ : e.op.isApp = true → ∃ j, p = .loc j)
    (h : stepD C im impl s e = some s1) : stepD C im impl (s.setP p v) e = some (s1.setP p v) := by
  have hpo : ∀ x ∈ e.op.opds, p.same x = false := fun x hx => hp x (List.mem_append_left _ (List.mem_append_left _ hx))
  have haw : Alike (s.setP p v) s (e.away.map (·.1)) := alike_setP fun x hx => hp x (List.mem_append_left _ (List.mem_append_right _ (List.mem_append_right _ hx)))
  refine stepD_F2 ha hv (fun x hx => ?_) (fun h => by rw [awayOk_alike (alike_setP hpo) haw]; exact h) happ h
  rcases List.mem_append.1 hx with hx | hx
  · rcases List.mem_append.1 hx with hx | hx
    · exact hpo x hx
    · exact hp x (List.mem_append_left _ (List.mem_append_right _ (List.mem_append_left _ hx)))
  · exact hp x (List.mem_append_right _ hx)

/-- A place that nothing was put to is kept away from. -/
theorem awayOk_undef {s : RS} {l : List (Opd × Nat)} {op : LOp} {p : Opd} (hp : ∀ x ∈ op.opds, p.same x = false) (h : awayOk s l op = true) : awayOk (s.setP p .undef) l op = true := by
  cases op with
  | store n a x =>
    simp only [awayOk] at h ⊢
    rw [peek_setP (hp a (by simp [LOp.opds]))]
    cases ha : s.peek a with
    | none => rw [ha] at h; exact h
    | some av =>
      rw [ha] at h
      cases av with
      | ptr id off =>
        dsimp only at h ⊢
        rw [List.all_eq_true] at h ⊢
        intro q hq
        have h1 := h q hq
        by_cases hs : p.same q.1 = true
        · have : (s.setP p .undef).peek q.1 = some .undef ∨ (s.setP p .undef).peek q.1 = none := by
            cases p with
            | const c => simp [Opd.same] at hs
            | loc i =>
              cases hq1 : q.1 with
              | loc j =>
                rw [hq1] at hs
                have : i = j := by simpa [Opd.same] using hs
                subst this
                by_cases hlt : i < s.rs.length
                · left; simp [RS.setP, RS.peek, List.getElem?_set, hlt]
                · right; simp [RS.setP, RS.peek]; omega
              | _ => rw [hq1] at hs; simp [Opd.same] at hs
            | var i =>
              cases hq1 : q.1 with
              | var j =>
                rw [hq1] at hs
                have : i = j := by simpa [Opd.same] using hs
                subst this
                by_cases hlt : i < s.vars.length
                · left; simp [RS.setP, RS.peek, List.getElem?_set, hlt]
                · right; simp [RS.setP, RS.peek]; omega
              | _ => rw [hq1] at hs; simp [Opd.same] at hs
          rcases this with e | e <;> rw [e]
        · rw [peek_setP (by simpa using hs)]
          exact h1
      | _ => exact h
  | _ => rfl
end Go.L
/- L21: what an acting operation leaves as it is; two operations change places. -/
set_option linter.unusedVariables false
set_option linter.unusedSimpArgs false
set_option linter.unusedSectionVars false
namespace Go.L

variable {C : CallL} {im : TypeId → String → Option FuncId} {impl : TypeId → TypeId → Bool}

/-- What is calm, and not among these places, is the same before and behind. -/
def Eff (W : List Opd) (b : Bool) (s s1 : RS) : Prop := ∀ x : Opd, (∀ y ∈ W, y.same x = false) → ∀ c : LVal, c.calm b = true → (s.peek x = some c ↔ s1.peek x = some c)

theorem Eff.refl (W b s) : Eff W b s s := fun _ _ _ _ => Iff.rfl
theorem Eff.trans {W b s s1 s2} (h : Eff W b s s1) (k : Eff W b s1 s2) : Eff W b s s2 := fun x hx c hc => (h x hx c hc).trans (k x hx c hc)
theorem Eff.mono {W W' b s s1} (h : Eff W b s s1) (hw : ∀ y ∈ W, y ∈ W') : Eff W' b s s1 := fun x hx => h x (fun y hy => hx y (hw y hy))
theorem Eff.setP {W b} {s : RS} {p : Opd} {v : LVal} (hp : p ∈ W) : Eff W b s (s.setP p v) := fun x hx c hc => by rw [peek_setP (hx p hp)]
theorem calm_unpk {b : Bool} {v : LVal} (h : v.calm b = true) : v.unpk = v := by
  cases v with
  | vs n o k xs => cases o <;> simp_all [LVal.calm, LVal.calm1, LVal.unpk]
  | _ => rfl
theorem undef_not_calm {b : Bool} : ¬ LVal.undef.calm b = true := by simp [LVal.calm, LVal.calm1]
theorem Eff.noPk {W b} {s : RS} : Eff W b s s.noPk := fun x hx c hc => by
  cases x with
  | loc i =>
    simp only [RS.peek, RS.noPk, List.getElem?_map, Option.map_eq_some_iff]
    constructor
    · intro h; exact ⟨c, h, calm_unpk hc⟩
    · rintro ⟨y, hy, e⟩
      rcases (by cases y with
          | vs n o k xs => cases o <;> first | exact .inl rfl | exact .inr rfl
          | _ => exact .inl rfl : y.unpk = y ∨ y.unpk = .undef) with h | h
      · rw [h] at e; rw [hy, e]
      · rw [h] at e; subst e; exact absurd hc undef_not_calm
  | _ => rfl
theorem Eff.st {W b} {s : RS} (st : List LObj) : Eff W b s { s with st := st } := fun x hx c hc => by cases x <;> rfl
theorem Eff.put {b} {s : RS} {o : LOper} {u : LVal} : Eff [o.pl] b s (s.put o u) := by
  unfold RS.put LOper.pl
  cases hd : o.dst with
  | none => exact Eff.setP (p := .loc o.ix) (List.mem_cons_self ..)
  | some k =>
    dsimp only
    unfold RS.setVar
    split
    · exact Eff.noPk.trans (Eff.setP (p := .var k) (s := s.noPk) (List.mem_cons_self ..))
    · exact Eff.setP (p := .var k) (List.mem_cons_self ..)
theorem Eff.give {b} {s s' : RS} {x : Opd} {u : LVal} (h : s.give x = some (u, s')) (hc : (s.peek x).any (LVal.calm false) = true) : Eff [x] b s s' ∧ s'.st = s.st := by
  cases x with
  | const c => obtain ⟨rfl, _⟩ := take_calm (x := .const c) h hc; exact ⟨Eff.refl _ _ _, rfl⟩
  | var k => obtain ⟨rfl, _⟩ := take_calm (x := .var k) h hc; exact ⟨Eff.refl _ _ _, rfl⟩
  | loc i =>
    simp only [RS.give, Option.bind_eq_some_iff] at h
    obtain ⟨y, hy, h⟩ := h
    cases y with
    | vs n o k xs =>
      cases o <;> simp at h <;> obtain ⟨rfl, rfl⟩ := h <;> first | exact ⟨Eff.refl _ _ _, rfl⟩ | exact ⟨Eff.setP (p := .loc i) (v := .undef) (List.mem_cons_self ..), rfl⟩
    | tup l => simp at h; obtain ⟨rfl, rfl⟩ := h; exact ⟨Eff.setP (p := .loc i) (v := .undef) (List.mem_cons_self ..), rfl⟩
    | _ => simp at h; obtain ⟨rfl, rfl⟩ := h; exact ⟨Eff.refl _ _ _, rfl⟩

/-- What a set to a place that nobody's calm value lies at changes. -/
theorem Eff.setOwn {b : Bool} {s : RS} {p : Opd} {y : LVal} (hy : s.peek p = some y) (hn : ¬ y.calm b = true) : Eff [] b s (s.setP p .undef) := fun x hx c hc => by
  by_cases h : p.same x = true
  · cases p <;> cases x <;> simp [Opd.same] at h
    · subst h
      rename_i i
      simp only [RS.peek] at hy
      have hlt := (List.getElem?_eq_some_iff.1 hy).1
      simp only [RS.peek, RS.setP, List.getElem?_set, hlt, if_true, hy]
      constructor
      · intro e; injection e with e; subst e; exact absurd hc hn
      · intro e; simp at e; subst e; exact absurd hc undef_not_calm
    · subst h
      rename_i i
      simp only [RS.peek] at hy
      have hlt := (List.getElem?_eq_some_iff.1 hy).1
      simp only [RS.peek, RS.setP, List.getElem?_set, hlt, if_true, hy]
      constructor
      · intro e; injection e with e; subst e; exact absurd hc hn
      · intro e; simp at e; subst e; exact absurd hc undef_not_calm
  · rw [peek_setP (by simpa using h)]

theorem own_not_calm {y : LVal} (h : y.isOwn = true) : ¬ y.calm true = true := by
  cases y with
  | vs n o k xs => cases o <;> simp_all [LVal.isOwn, LVal.calm, LVal.calm1]
  | _ => simp [LVal.isOwn] at h

/-- The store behind an acquire: the cells are there, but for the one that was owned. -/
def StAcq (st st' : List LObj) : Prop := ∀ (id : Nat) (ob : LObj), st[id]? = some ob → st'[id]? = some ob ∨ ∃ t c off u, ob = .cells t c ∧ c[off]? = some u ∧ u.isOwn = true ∧ st'[id]? = some (.cells t ((c.map LVal.stay).set off u.down))

theorem acquire_eff {s s' : RS} {x : Opd} {u : LVal} (h : s.acquire x = some (u, s')) : Eff [] true s s' ∧ StAcq s.st s'.st := by
  cases x with
  | const c => simp [RS.acquire] at h; obtain ⟨rfl, rfl⟩ := h; exact ⟨Eff.refl _ _ _, fun _ _ h => .inl h⟩
  | var k => simp [RS.acquire] at h
  | loc i =>
    simp only [RS.acquire, Option.bind_eq_some_iff] at h
    obtain ⟨y, hy, h⟩ := h
    cases y with
    | vs n o k xs =>
      cases o with
      | own e x =>
        simp at h; obtain ⟨rfl, rfl⟩ := h
        exact ⟨Eff.setOwn (p := .loc i) hy (own_not_calm rfl), fun _ _ h => .inl h⟩
      | pk l =>
        cases l with
        | var j =>
          simp only [Option.bind_eq_some_iff] at h
          obtain ⟨z, hz, h⟩ := h
          split at h
          · rename_i ho
            injection h with h; injection h with e1 e2; subst e1; subst e2
            refine ⟨Eff.noPk.trans (Eff.setOwn (s := s.noPk) (p := .var j) (y := z) hz (own_not_calm ho)), fun _ _ h => .inl h⟩
          · cases h
        | cell id off =>
          cases hst : s.st[id]? with
          | none => simp [hst] at h
          | some ob =>
            cases ob with
            | cells t c =>
              simp only [hst, Option.bind_eq_some_iff] at h
              obtain ⟨z, hz, h⟩ := h
              split at h
              · rename_i ho
                injection h with h; injection h with e1 e2; subst e1; subst e2
                refine ⟨Eff.noPk.trans (Eff.st (s := s.noPk) _), fun id' ob' h' => ?_⟩
                by_cases he : id = id'
                · subst he
                  rw [hst] at h'; injection h' with h'; subst h'
                  exact .inr ⟨t, c, off, z, rfl, hz, ho, by simp [List.getElem?_set_self', hst]⟩
                · exact .inl (by rw [List.getElem?_set_ne he]; exact h')
              · cases h
            | _ => simp [hst] at h
      | _ => simp at h; obtain ⟨rfl, rfl⟩ := h; exact ⟨Eff.refl _ _ _, fun _ _ h => .inl h⟩
    | _ => simp at h; obtain ⟨rfl, rfl⟩ := h; exact ⟨Eff.refl _ _ _, fun _ _ h => .inl h⟩

theorem appendL_eff {s s' : RS} {e : TypeId} {esz bytes m : Nat} {x : Opd} {ys : List LVal} {u : LVal} (h : appendL s e esz bytes x m ys = some (u, s')) : Eff [] true s s' ∧ StAcq s.st s'.st := by
  unfold appendL at h
  simp only [Option.bind_eq_some_iff] at h
  obtain ⟨r, h4, h5⟩ := h
  have hA := acquire_eff (u := r.1) (s' := r.2) h4
  have : s' = r.2 := by
    cases hr : r.1 with
    | vs b o n xs =>
      simp only [hr] at h5
      split at h5
      · injection h5 with h5; injection h5 with e1 e2; exact e2.symm
      · split at h5
        · cases o with
          | full => dsimp only at h5; split at h5 <;> first | (injection h5 with h5; injection h5 with e1 e2; exact e2.symm) | cases h5
          | own e' ex => dsimp only at h5; split at h5 <;> first | (injection h5 with h5; injection h5 with e1 e2; exact e2.symm) | cases h5
          | sh => dsimp only at h5; split at h5 <;> first | (injection h5 with h5; injection h5 with e1 e2; exact e2.symm) | cases h5
          | pk l => simp at h5
        · cases h5
    | _ => simp [hr] at h5
  subst this
  exact hA

/-- What becomes of the store. -/
def StEff (e : LOper) (s : RS) (st' : List LObj) : Prop :=
  match e.op with
  | .alloc .. | .box .. | .mkMap => ∃ o, st' = s.st ++ [o] ∨ st' = s.st
  | .mv .. | .asg _ => st' = s.st
  | .append .. => StAcq s.st st'
  | .store n a _ => st' = s.st ∨ ∃ id off t c us, s.peek a = some (.ptr id off) ∧ s.st[id]? = some (.cells t c) ∧ off + n ≤ c.length ∧ us.length = n ∧ us.all LVal.settled = true ∧ awayOk s e.away e.op = true ∧
      st' = s.st.set id (.cells t (c.take off ++ us ++ c.drop (off + n)))
  | _ => True

theorem sem_eff {s s' : RS} {e : LOper} {u : LVal} (ha : e.op.acts = true) (hc : calmOk s e.strict e.op = true) (hw : awayOk s e.away e.op = true) (h : sem C im impl s e.op = some (u, s')) :
    Eff e.op.gives e.op.isApp s s' ∧ StEff e s s'.st := by
  obtain ⟨ix, dst, guard, op, strict, away⟩ := e
  dsimp only at ha hc hw h ⊢
  have hcalm : op.isApp = false → ∀ x ∈ op.opds, (s.peek x).any (LVal.calm false) = true := by
    intro happ x hx
    have : (op.opds.all fun x => (s.peek x).any (LVal.calm strict)) = true := by
      cases op with
      | mv y p => cases y <;> first | exact hc | simp [LOp.acts] at ha
      | append => simp [LOp.isApp] at happ
      | _ => exact hc
    have := List.all_eq_true.1 this x hx
    cases hpx : s.peek x with
    | none => simp [hpx] at this
    | some u => simp only [hpx, Option.any_some] at this ⊢; exact calm_weak this
  cases op with
  | mv x pk =>
    cases x with
    | loc i =>
      have h' : s.give (.loc i) = some (u, s') := by cases pk <;> exact h
      exact Eff.give h' (hcalm rfl _ (by simp [LOp.opds]))
    | _ => simp [LOp.acts] at ha
  | asg x => exact Eff.give h (hcalm rfl _ (by simp [LOp.opds]))
  | alloc t cells =>
    simp only [sem, Option.some.injEq, Prod.mk.injEq] at h
    obtain ⟨rfl, rfl⟩ := h
    exact ⟨Eff.st _, _, .inl rfl⟩
  | box t x =>
    simp only [sem, Option.bind_eq_some_iff] at h
    obtain ⟨r, h1, h2⟩ := h
    obtain ⟨k1, k2⟩ := Eff.give (b := false) (u := r.1) (s' := r.2) h1 (hcalm rfl x (by simp [LOp.opds]))
    split at h2
    · injection h2 with h2; injection h2 with e1 e2; subst e1; subst e2
      exact ⟨k1.trans (Eff.st _), _, .inl (by simp only [RS.alloc]; rw [k2])⟩
    · cases h2
  | mkMap =>
    simp only [sem, Option.some.injEq, Prod.mk.injEq] at h
    obtain ⟨rfl, rfl⟩ := h
    exact ⟨Eff.st _, _, .inl rfl⟩
  | store n a x =>
    simp only [sem, Option.bind_eq_some_iff, Option.map_eq_some_iff] at h
    obtain ⟨r, h1, pv, h2, s2, h3, e⟩ := h
    injection e with e1 e2; subst e1; subst e2
    obtain ⟨k1, k2⟩ := Eff.give (b := false) (u := r.1) (s' := r.2) h1 (hcalm rfl x (by simp [LOp.opds]))
    cases pv with
    | ptr id off =>
      simp only [storeL] at h3
      cases hst : r.2.st[id]? with
      | none => simp [hst] at h3
      | some ob =>
        cases ob with
        | cells t c =>
          simp only [hst] at h3
          split at h3
          · rename_i hcond
            obtain ⟨q1, q2, q3⟩ := hcond
            injection h3 with h3; subst h3
            have hval : r.1.cells.all LVal.settled = true := by
              rw [Bool.or_eq_true] at q3
              rcases q3 with q3 | q3
              · rw [List.all_eq_true] at q3 ⊢
                intro y hy
                have := q3 y hy
                cases y with
                | vs b o n xs => cases o <;> simp_all [LVal.plain, LVal.settled]
                | _ => rfl
              · rw [Bool.and_eq_true] at q3
                have hx := hcalm rfl x (by simp [LOp.opds])
                have hcal : r.1.settled = true := by
                  cases x with
                  | const c =>
                    simp [RS.give, RS.take] at h1
                    rw [← h1] at q3 ⊢
                    simp only [RS.peek, Option.any_some] at hx
                    cases c with
                    | vs b o n xs => cases o <;> simp_all [LVal.calm, LVal.calm1, LVal.settled]
                    | _ => rfl
                  | var k =>
                    simp only [RS.give, RS.take, Option.bind_eq_some_iff, Option.map_eq_some_iff] at h1
                    obtain ⟨y, hy, z, hz, e⟩ := h1
                    rw [← e] at q3 ⊢
                    cases y with
                    | vs b o n xs => cases o <;> simp [LVal.copy, LVal.down] at hz <;> subst hz <;> rfl
                    | tup l => simp [LVal.copy] at hz
                    | _ => simp [LVal.copy, LVal.down] at hz; subst hz; rfl
                  | loc i =>
                    simp only [RS.give, Option.bind_eq_some_iff] at h1
                    obtain ⟨y, hy, e⟩ := h1
                    simp only [RS.peek, hy, Option.any_some] at hx
                    cases y with
                    | vs b o n xs => cases o <;> simp at e <;> rw [← e] <;> first | rfl | (simp_all [LVal.calm, LVal.calm1, LVal.settled])
                    | _ => simp at e; rw [← e]; rfl
                have hcs : r.1.cells = [r.1] := by
                  cases hr : r.1 <;> first | rfl | (rw [hr] at q3; simp [LVal.isAgg] at q3)
                rw [hcs]; simp [hcal]
            refine ⟨k1.trans ?_, .inr ⟨id, off, t, c, r.1.cells, h2, by rw [← k2]; exact hst, q1, q2, hval, hw, by rw [k2]⟩⟩
            split
            · exact Eff.noPk.trans (Eff.st _)
            · exact Eff.st _
          · cases h3
        | _ => simp [hst] at h3
    | _ => simp [storeL] at h3
  | mapUpdate kd m k x =>
    simp only [sem, Option.bind_eq_some_iff] at h
    obtain ⟨mv, h1, kv, h2, r, h3, h4⟩ := h
    obtain ⟨e, _⟩ := take_calm (u := r.1) (s' := r.2) h3 (hcalm rfl x (by simp [LOp.opds]))
    cases mv with
    | map id =>
      dsimp only at h4
      cases hst : s.st[id]? with
      | none => simp [hst] at h4
      | some ob =>
        cases ob with
        | map es =>
          simp only [hst] at h4
          split at h4
          · simp only [Option.map_eq_some_iff] at h4
            obtain ⟨es', h5, e'⟩ := h4
            injection e' with e1 e2; subst e1; subst e2
            rw [e]
            exact ⟨Eff.st _, trivial⟩
          · cases h4
        | _ => simp [hst] at h4
    | _ => simp at h4
  | append e esz bytes x y =>
    simp only [sem, Option.bind_eq_some_iff] at h
    obtain ⟨yv, h1, ys, h2, h3⟩ := h
    exact appendL_eff h3
  | _ => simp [LOp.acts] at ha

theorem stepD_acts {s s1 : RS} {e : LOper} (ha : e.op.acts = true) (h : stepD C im impl s e = some s1) : Eff e.wrs e.op.isApp s s1 ∧ (s1.st = s.st ∨ StEff e s s1.st) := by
  have hq := acts_not_quiet ha
  have hput : ∀ {s' : RS} {u : LVal}, (s'.put e u).st = s'.st := by
    intro s' u
    unfold RS.put RS.setVar
    cases e.dst with
    | none => rfl
    | some k => dsimp only; split <;> rfl
  have hmono : ∀ {s s' : RS} {b : Bool}, Eff [e.pl] b s s' → Eff e.wrs b s s' := fun h => h.mono (fun y hy => by simp at hy; subst hy; exact List.mem_cons_self ..)
  have hsem : ∀ {u s'}, semD C im impl s e = some (u, s') → Eff e.wrs e.op.isApp s (s'.put e (e.fix u)) ∧ ((s'.put e (e.fix u)).st = s.st ∨ StEff e s (s'.put e (e.fix u)).st) := by
    intro u s' h
    simp only [semD, ha, Bool.or_true, if_true] at h
    split at h
    · rename_i hc
      simp only [Bool.and_eq_true] at hc
      obtain ⟨k1, k2⟩ := sem_eff ha hc.1.1 hc.2 h
      exact ⟨(k1.mono (fun y hy => List.mem_cons_of_mem _ hy)).trans (hmono Eff.put), .inr (by rw [hput]; exact k2)⟩
    · cases h
  unfold stepD at h
  simp only [hq, Bool.false_and, Bool.false_eq_true, if_false] at h
  cases hg : e.guard with
  | none =>
    simp only [hg, Option.map_eq_some_iff] at h
    obtain ⟨⟨u, s'⟩, h1, rfl⟩ := h
    exact hsem h1
  | some gw =>
    obtain ⟨g, want⟩ := gw
    simp only [hg, Option.bind_eq_some_iff] at h
    obtain ⟨gv, hgv, h⟩ := h
    cases gv with
    | bool b =>
      dsimp only at h
      split at h
      · simp only [Option.map_eq_some_iff] at h
        obtain ⟨⟨u, s'⟩, h1, rfl⟩ := h
        exact hsem h1
      · injection h with h; subst h
        exact ⟨hmono Eff.put, .inl hput⟩
    | tup l =>
      cases l with
      | nil => injection h with h; subst h; exact ⟨hmono Eff.put, .inl hput⟩
      | cons => simp at h
    | _ => simp at h
end Go.L
/- L22: two operations of a drawn region change places; any order that keeps to the edges gives the same. -/
set_option linter.unusedVariables false
set_option linter.unusedSimpArgs false
set_option linter.unusedSectionVars false
namespace Go.L

variable {C : CallL} {im : TypeId → String → Option FuncId} {impl : TypeId → TypeId → Bool}

/-! ### Places that nothing was put to -/
/-- What was not there is not there behind it. -/
def KeepU (s s1 : RS) : Prop := ∀ j : Nat, s.rs[j]? = some .undef → s1.rs[j]? = some .undef

theorem KeepU.refl (s) : KeepU s s := fun _ h => h
theorem KeepU.trans {s s1 s2} (h : KeepU s s1) (k : KeepU s1 s2) : KeepU s s2 := fun j hj => k j (h j hj)
theorem KeepU.noPk {s : RS} : KeepU s s.noPk := fun j hj => by simp [RS.noPk, hj, LVal.unpk]
theorem KeepU.of_rs {s s1 : RS} (h : s1.rs = s.rs) : KeepU s s1 := fun j hj => by rw [h]; exact hj
theorem KeepU.setU {s : RS} {i : Nat} : KeepU s { s with rs := s.rs.set i .undef } := fun j hj => by
  have hlt := (List.getElem?_eq_some_iff.1 hj).1
  simp only [List.getElem?_set]
  split
  · simp_all
  · exact hj
theorem KeepU.setNU {s : RS} {i : Nat} {v u : LVal} (hi : s.rs[i]? = some v) (hv : v ≠ .undef) : KeepU s { s with rs := s.rs.set i u } := fun j hj => by
  have : i ≠ j := fun e => by subst e; rw [hi] at hj; injection hj with hj; exact hv hj
  simp only [List.getElem?_set_ne this]; exact hj
theorem keepU_take {s s' : RS} {x : Opd} {u : LVal} (h : s.take x = some (u, s')) : KeepU s s' := by
  cases x with
  | const c => simp [RS.take] at h; obtain ⟨_, rfl⟩ := h; exact .refl _
  | loc i =>
    simp only [RS.take, Option.bind_eq_some_iff, Option.map_eq_some_iff] at h
    obtain ⟨y, hy, z, hz, e⟩ := h
    injection e with e1 e2; subst e2
    split
    · rename_i ho; exact .setNU hy (fun e => by subst e; simp [LVal.isOwn] at ho)
    · exact .refl _
  | var i =>
    simp only [RS.take, Option.bind_eq_some_iff, Option.map_eq_some_iff] at h
    obtain ⟨y, hy, z, hz, e⟩ := h
    injection e with e1 e2; subst e2
    split
    · exact .of_rs rfl
    · exact .refl _
theorem keepU_takes : ∀ {xs : List Opd} {s s' : RS} {us : List LVal}, s.takes xs = some (us, s') → KeepU s s'
  | [], s, s', us, h => by simp [RS.takes] at h; obtain ⟨_, rfl⟩ := h; exact .refl _
  | x :: xs, s, s', us, h => by
    simp only [RS.takes, Option.bind_eq_some_iff, Option.map_eq_some_iff] at h
    obtain ⟨⟨u, s1⟩, h1, ⟨us', s2⟩, h2, e⟩ := h
    injection e with e1 e2; subst e2
    exact (keepU_take h1).trans (keepU_takes h2)
theorem keepU_takeParts : ∀ {xs : List (Nat × Nat × Opd)} {s s' : RS} {us}, s.takeParts xs = some (us, s') → KeepU s s'
  | [], s, s', us, h => by simp [RS.takeParts] at h; obtain ⟨_, rfl⟩ := h; exact .refl _
  | x :: xs, s, s', us, h => by
    simp only [RS.takeParts, Option.bind_eq_some_iff, Option.map_eq_some_iff] at h
    obtain ⟨⟨u, s1⟩, h1, ⟨us', s2⟩, h2, e⟩ := h
    injection e with e1 e2; subst e2
    exact (keepU_take h1).trans (keepU_takeParts h2)
theorem keepU_takeElems : ∀ {xs : List (Nat × Opd)} {s s' : RS} {us}, s.takeElems xs = some (us, s') → KeepU s s'
  | [], s, s', us, h => by simp [RS.takeElems] at h; obtain ⟨_, rfl⟩ := h; exact .refl _
  | x :: xs, s, s', us, h => by
    simp only [RS.takeElems, Option.bind_eq_some_iff, Option.map_eq_some_iff] at h
    obtain ⟨⟨u, s1⟩, h1, ⟨us', s2⟩, h2, e⟩ := h
    injection e with e1 e2; subst e2
    exact (keepU_take h1).trans (keepU_takeElems h2)
theorem keepU_give {s s' : RS} {x : Opd} {u : LVal} (h : s.give x = some (u, s')) : KeepU s s' := by
  cases x with
  | const c => exact keepU_take (x := .const c) h
  | var k => exact keepU_take (x := .var k) h
  | loc i =>
    simp only [RS.give, Option.bind_eq_some_iff] at h
    obtain ⟨y, hy, h⟩ := h
    cases y with
    | vs b o n xs => cases o <;> simp at h <;> obtain ⟨_, rfl⟩ := h <;> first | exact .refl _ | exact .setU
    | tup l => simp at h; obtain ⟨_, rfl⟩ := h; exact .setU
    | _ => simp at h; obtain ⟨_, rfl⟩ := h; exact .refl _
theorem keepU_acquire {s s' : RS} {x : Opd} {u : LVal} (h : s.acquire x = some (u, s')) : KeepU s s' := by
  cases x with
  | const c => simp [RS.acquire] at h; obtain ⟨_, rfl⟩ := h; exact .refl _
  | var k => simp [RS.acquire] at h
  | loc i =>
    simp only [RS.acquire, Option.bind_eq_some_iff] at h
    obtain ⟨y, hy, h⟩ := h
    cases y with
    | vs n o k xs =>
      cases o with
      | own e x => simp at h; obtain ⟨_, rfl⟩ := h; exact .setU
      | pk l =>
        cases l with
        | var j =>
          simp only [Option.bind_eq_some_iff] at h
          obtain ⟨z, hz, h⟩ := h
          split at h
          · injection h with h; injection h with e1 e2; subst e2
            exact KeepU.noPk.trans (.of_rs rfl)
          · cases h
        | cell id off =>
          cases hst : s.st[id]? with
          | none => simp [hst] at h
          | some ob =>
            cases ob with
            | cells t c =>
              simp only [hst, Option.bind_eq_some_iff] at h
              obtain ⟨z, hz, h⟩ := h
              split at h
              · injection h with h; injection h with e1 e2; subst e2
                exact KeepU.noPk.trans (.of_rs rfl)
              · cases h
            | _ => simp [hst] at h
      | _ => simp at h; obtain ⟨_, rfl⟩ := h; exact .refl _
    | _ => simp at h; obtain ⟨_, rfl⟩ := h; exact .refl _
theorem keepU_append {s s' : RS} {e : TypeId} {esz bytes m : Nat} {x : Opd} {ys : List LVal} {u : LVal} (h : appendL s e esz bytes x m ys = some (u, s')) : KeepU s s' := by
  unfold appendL at h
  simp only [Option.bind_eq_some_iff] at h
  obtain ⟨r, h4, h5⟩ := h
  have hA := keepU_acquire (u := r.1) (s' := r.2) h4
  have : s' = r.2 := by
    cases hr : r.1 with
    | vs b o n xs =>
      simp only [hr] at h5
      split at h5
      · injection h5 with h5; injection h5 with e1 e2; exact e2.symm
      · split at h5
        · cases o with
          | full => dsimp only at h5; split at h5 <;> first | (injection h5 with h5; injection h5 with e1 e2; exact e2.symm) | cases h5
          | own e' ex => dsimp only at h5; split at h5 <;> first | (injection h5 with h5; injection h5 with e1 e2; exact e2.symm) | cases h5
          | sh => dsimp only at h5; split at h5 <;> first | (injection h5 with h5; injection h5 with e1 e2; exact e2.symm) | cases h5
          | pk l => simp at h5
        · cases h5
    | _ => simp [hr] at h5
  subst this
  exact hA
theorem keepU_loadL {s s' : RS} {agg p : Bool} {n : Nat} {a u : LVal} (h : loadL s agg n a p = some (u, s')) : KeepU s s' := by
  unfold loadL at h
  cases a with
  | ref v => dsimp only at h; split at h <;> first | (injection h with h; injection h with e1 e2; subst e2; exact .refl _) | cases h
  | ptr id off =>
    dsimp only at h
    cases hst : s.st[id]? with
    | none => simp [hst] at h
    | some ob =>
      cases ob with
      | cells t c =>
        simp only [hst] at h
        split at h
        · split at h
          · injection h with h; injection h with e1 e2; subst e2; split <;> exact .of_rs rfl
          · split at h
            · simp only [Option.map_eq_some_iff] at h
              obtain ⟨x, hx, h⟩ := h
              split at h
              · split at h <;> (injection h with e1 e2; subst e2; exact .of_rs rfl)
              · injection h with e1 e2; subst e2; exact .refl _
            · cases h
        · cases h
      | _ => simp [hst] at h
  | _ => simp at h
theorem keepU_storeL {s s' : RS} {n : Nat} {a u : LVal} (h : storeL s n a u = some s') : KeepU s s' := by
  unfold storeL at h
  cases a with
  | ptr id off =>
    dsimp only at h
    cases hst : s.st[id]? with
    | none => simp [hst] at h
    | some ob =>
      cases ob with
      | cells t c =>
        simp only [hst] at h
        split at h
        · injection h with h; subst h
          split
          · exact KeepU.noPk.trans (.of_rs rfl)
          · exact .of_rs rfl
        · cases h
      | _ => simp [hst] at h
  | _ => simp at h
theorem keepU_callOut {s s' : RS} {u : LVal} {r : Option (LVal × Option (List LObj))} (h : callOut s r = some (u, s')) : KeepU s s' := by
  match r, h with
  | some (v, none), h => simp [callOut] at h; obtain ⟨_, rfl⟩ := h; exact .refl _
  | some (v, some st), h => simp [callOut] at h; obtain ⟨_, rfl⟩ := h; exact KeepU.noPk.trans (.of_rs rfl)

/-- An acting operation leaves the variables that it is not told of. -/
def KeepV (s s1 : RS) : Prop := s1.vars = s.vars

theorem acts_keepU {s s' : RS} {op : LOp} {u : LVal} (ha : op.acts = true) (h : sem C im impl s op = some (u, s')) : KeepU s s' := by
  cases op with
  | mv x pk =>
    cases x with
    | loc i => have h' : s.give (.loc i) = some (u, s') := by cases pk <;> exact h
               exact keepU_give h'
    | _ => simp [LOp.acts] at ha
  | asg x => exact keepU_give h
  | alloc t cells => simp only [sem, Option.some.injEq, Prod.mk.injEq] at h; obtain ⟨_, rfl⟩ := h; exact .of_rs rfl
  | mkMap => simp only [sem, Option.some.injEq, Prod.mk.injEq] at h; obtain ⟨_, rfl⟩ := h; exact .of_rs rfl
  | box t x =>
    simp only [sem, Option.bind_eq_some_iff] at h
    obtain ⟨r, h1, h2⟩ := h
    split at h2
    · injection h2 with h2; injection h2 with e1 e2; subst e2
      exact (keepU_give (u := r.1) (s' := r.2) h1).trans (.of_rs rfl)
    · cases h2
  | store n a x =>
    simp only [sem, Option.bind_eq_some_iff, Option.map_eq_some_iff] at h
    obtain ⟨r, h1, pv, h2, s2, h3, e⟩ := h
    injection e with e1 e2; subst e2
    exact (keepU_give (u := r.1) (s' := r.2) h1).trans (keepU_storeL h3)
  | mapUpdate kd m k x =>
    simp only [sem, Option.bind_eq_some_iff] at h
    obtain ⟨mv, h1, kv, h2, r, h3, h4⟩ := h
    have hT := keepU_take (u := r.1) (s' := r.2) h3
    cases mv with
    | map id =>
      dsimp only at h4
      cases hst : s.st[id]? with
      | none => simp [hst] at h4
      | some ob =>
        cases ob with
        | map es =>
          simp only [hst] at h4
          split at h4
          · simp only [Option.map_eq_some_iff] at h4
            obtain ⟨es', h5, e'⟩ := h4
            injection e' with e1 e2; subst e2
            exact hT.trans (.of_rs rfl)
          · cases h4
        | _ => simp [hst] at h4
    | _ => simp at h4
  | append e esz bytes x y =>
    simp only [sem, Option.bind_eq_some_iff] at h
    obtain ⟨yv, h1, ys, h2, h3⟩ := h
    exact keepU_append h3
  | _ => simp [LOp.acts] at ha

theorem put_keepU {s : RS} {o : LOper} {u : LVal} {j : Nat} (hj : o.ix ≠ j) (h : s.rs[j]? = some .undef) : (s.put o u).rs[j]? = some .undef := by
  unfold RS.put RS.setVar
  cases o.dst with
  | none => dsimp only; rw [List.getElem?_set_ne hj]; exact h
  | some k =>
    dsimp only
    split
    · exact KeepU.noPk j h
    · exact h

/-- A step of a quiet or acting operation leaves undefined what is, but for its own place. -/
theorem stepD_keepU {s s1 : RS} {o : LOper} (hqa : o.op.quiet = true ∨ o.op.acts = true) (h : stepD C im impl s o = some s1) {j : Nat} (hj : o.ix ≠ j) (hu : s.rs[j]? = some .undef) : s1.rs[j]? = some .undef := by
  rcases hqa with hq | ha
  · obtain ⟨v, rfl, _⟩ := stepD_quiet hq h
    unfold LOper.pl
    cases o.dst with
    | none => simp only [RS.setP, List.getElem?_set_ne hj]; exact hu
    | some k => exact hu
  · have hq := acts_not_quiet ha
    have hsem : ∀ {u s'}, semD C im impl s o = some (u, s') → (s'.put o (o.fix u)).rs[j]? = some .undef := by
      intro u s' h
      simp only [semD, ha, Bool.or_true, if_true] at h
      split at h
      · exact put_keepU hj (acts_keepU ha h j hu)
      · cases h
    unfold stepD at h
    simp only [hq, Bool.false_and, Bool.false_eq_true, if_false] at h
    cases hg : o.guard with
    | none =>
      simp only [hg, Option.map_eq_some_iff] at h
      obtain ⟨⟨u, s'⟩, h1, rfl⟩ := h
      exact hsem h1
    | some gw =>
      obtain ⟨g, want⟩ := gw
      simp only [hg, Option.bind_eq_some_iff] at h
      obtain ⟨gv, hgv, h⟩ := h
      cases gv with
      | bool b =>
        dsimp only at h
        split at h
        · simp only [Option.map_eq_some_iff] at h
          obtain ⟨⟨u, s'⟩, h1, rfl⟩ := h
          exact hsem h1
        · injection h with h; subst h; exact put_keepU hj hu
      | tup l =>
        cases l with
        | nil => injection h with h; subst h; exact put_keepU hj hu
        | cons => simp at h
      | _ => simp at h

/-- What an acting operation other than an append does to the variables. -/
theorem sem_vars {s s' : RS} {e : LOper} {u : LVal} (ha : e.op.acts = true) (happ : e.op.isApp = false) (hc : calmOk s e.strict e.op = true) (h : sem C im impl s e.op = some (u, s')) : s'.vars = s.vars := by
  obtain ⟨ix, dst, guard, op, strict, away⟩ := e
  dsimp only at ha hc h happ ⊢
  have hcalm : ∀ x ∈ op.opds, (s.peek x).any (LVal.calm false) = true := by
    intro x hx
    have : (op.opds.all fun x => (s.peek x).any (LVal.calm strict)) = true := by
      cases op with
      | mv y p => cases y <;> first | exact hc | simp [LOp.acts] at ha
      | append => simp [LOp.isApp] at happ
      | _ => exact hc
    have := List.all_eq_true.1 this x hx
    cases hpx : s.peek x with
    | none => simp [hpx] at this
    | some u => simp only [hpx, Option.any_some] at this ⊢; exact calm_weak this
  have hgive : ∀ {x : Opd} {u : LVal} {s' : RS}, s.give x = some (u, s') → (s.peek x).any (LVal.calm false) = true → s'.vars = s.vars := by
    intro x u s' h hx
    cases x with
    | const c => obtain ⟨rfl, _⟩ := take_calm (x := .const c) h hx; rfl
    | var k => obtain ⟨rfl, _⟩ := take_calm (x := .var k) h hx; rfl
    | loc i =>
      simp only [RS.give, Option.bind_eq_some_iff] at h
      obtain ⟨y, hy, h⟩ := h
      cases y with
      | vs b o n xs => cases o <;> simp at h <;> obtain ⟨_, rfl⟩ := h <;> rfl
      | _ => simp at h; obtain ⟨_, rfl⟩ := h; rfl
  cases op with
  | mv x pk =>
    cases x with
    | loc i => have h' : s.give (.loc i) = some (u, s') := by cases pk <;> exact h
               exact hgive h' (hcalm _ (by simp [LOp.opds]))
    | _ => simp [LOp.acts] at ha
  | asg x => exact hgive h (hcalm _ (by simp [LOp.opds]))
  | alloc t cells => simp only [sem, Option.some.injEq, Prod.mk.injEq] at h; obtain ⟨_, rfl⟩ := h; rfl
  | mkMap => simp only [sem, Option.some.injEq, Prod.mk.injEq] at h; obtain ⟨_, rfl⟩ := h; rfl
  | box t x =>
    simp only [sem, Option.bind_eq_some_iff] at h
    obtain ⟨r, h1, h2⟩ := h
    split at h2
    · injection h2 with h2; injection h2 with e1 e2; subst e2
      exact hgive (u := r.1) (s' := r.2) h1 (hcalm _ (by simp [LOp.opds]))
    · cases h2
  | store n a x =>
    simp only [sem, Option.bind_eq_some_iff, Option.map_eq_some_iff] at h
    obtain ⟨r, h1, pv, h2, s2, h3, e⟩ := h
    injection e with e1 e2; subst e2
    have hg := hgive (u := r.1) (s' := r.2) h1 (hcalm _ (by simp [LOp.opds]))
    unfold storeL at h3
    cases pv with
    | ptr id off =>
      dsimp only at h3
      cases hst : r.2.st[id]? with
      | none => simp [hst] at h3
      | some ob =>
        cases ob with
        | cells t c =>
          simp only [hst] at h3
          split at h3
          · injection h3 with h3; subst h3
            split <;> exact hg
          · cases h3
        | _ => simp [hst] at h3
    | _ => simp at h3
  | mapUpdate kd m k x =>
    simp only [sem, Option.bind_eq_some_iff] at h
    obtain ⟨mv, h1, kv, h2, r, h3, h4⟩ := h
    obtain ⟨hT, _⟩ := take_calm (u := r.1) (s' := r.2) h3 (hcalm x (by simp [LOp.opds]))
    cases mv with
    | map id =>
      dsimp only at h4
      cases hst : s.st[id]? with
      | none => simp [hst] at h4
      | some ob =>
        cases ob with
        | map es =>
          simp only [hst] at h4
          split at h4
          · simp only [Option.map_eq_some_iff] at h4
            obtain ⟨es', h5, e'⟩ := h4
            injection e' with e1 e2; subst e2
            rw [hT]
          · cases h4
        | _ => simp [hst] at h4
    | _ => simp at h4
  | append => simp [LOp.isApp] at happ
  | _ => simp [LOp.acts] at ha

theorem stepD_vars {s s1 : RS} {e : LOper} (ha : e.op.acts = true) (happ : e.op.isApp = false) (h : stepD C im impl s e = some s1) {k : Nat} (hk : (Opd.var k).same e.pl = false) : s1.vars[k]? = s.vars[k]? := by
  have hq := acts_not_quiet ha
  have hput : ∀ {s' : RS} {u : LVal}, (s'.put e u).vars[k]? = s'.vars[k]? := by
    intro s' u
    unfold RS.put RS.setVar
    unfold LOper.pl at hk
    cases hd : e.dst with
    | none => rfl
    | some m =>
      rw [hd] at hk
      have : m ≠ k := fun e => by subst e; simp [Opd.same] at hk
      dsimp only
      split <;> simp [RS.noPk, List.getElem?_set_ne this]
  have hsem : ∀ {u s'}, semD C im impl s e = some (u, s') → (s'.put e (e.fix u)).vars[k]? = s.vars[k]? := by
    intro u s' h
    simp only [semD, ha, Bool.or_true, if_true] at h
    split at h
    · rename_i hc
      simp only [Bool.and_eq_true] at hc
      rw [hput, sem_vars ha happ hc.1.1 h]
    · cases h
  unfold stepD at h
  simp only [hq, Bool.false_and, Bool.false_eq_true, if_false] at h
  cases hg : e.guard with
  | none =>
    simp only [hg, Option.map_eq_some_iff] at h
    obtain ⟨⟨u, s'⟩, h1, rfl⟩ := h
    exact hsem h1
  | some gw =>
    obtain ⟨g, want⟩ := gw
    simp only [hg, Option.bind_eq_some_iff] at h
    obtain ⟨gv, hgv, h⟩ := h
    cases gv with
    | bool b =>
      dsimp only at h
      split at h
      · simp only [Option.map_eq_some_iff] at h
        obtain ⟨⟨u, s'⟩, h1, rfl⟩ := h
        exact hsem h1
      · injection h with h; subst h; exact hput
    | tup l =>
      cases l with
      | nil => injection h with h; subst h; exact hput
      | cons => simp at h
    | _ => simp at h
end Go.L
/- L23: two operations of a drawn region change places. -/
set_option linter.unusedVariables false
set_option linter.unusedSimpArgs false
set_option linter.unusedSectionVars false
namespace Go.L

variable {C : CallL} {im : TypeId → String → Option FuncId} {impl : TypeId → TypeId → Bool}

def meets (l m : List Opd) : Bool := l.any fun x => m.any x.same

theorem meets_false {l m : List Opd} (h : meets l m = false) : ∀ x ∈ l, ∀ y ∈ m, x.same y = false := by
  intro x hx y hy
  unfold meets at h
  rw [List.any_eq_false] at h
  have h1 := h x hx
  simp only [Bool.not_eq_true, List.any_eq_false] at h1
  simpa using h1 y hy

/-- A look before it sees what a look behind it sees. -/
def looksOk (q e : LOper) : Bool :=
  match e.op with
  | .alloc .. | .box .. | .mkMap | .mv .. | .asg _ | .append .. => true
  | .store .. => match q.op with
    | .load _ n a _ => e.away.any fun p => p.1.same a && p.2 == n
    | _ => true
  | _ => false

def indepQA (q e : LOper) : Bool := !meets [q.pl] (e.rds ++ e.wrs) && !meets e.wrs q.rds && (!e.op.isApp || (q.strict && q.dst.isNone))

/-- A place that is kept away from alone: one that is put there first. -/
def indepQS (q e : LOper) : Bool := q.dst.isNone && !e.op.isApp && !meets [q.pl] (e.rds0 ++ e.wrs) && !meets e.wrs q.rds
/-- What a call has given is put down, and something is done that does not look at it. -/
def indepMA (q e : LOper) : Bool := match q.op with
  | .mv (.loc t) _ => q.dst.isNone && q.guard.isNone && e.op.acts && !e.op.isApp && !meets [q.pl, .loc t] (e.rds ++ e.wrs) && q.ix != t
  | _ => false

/-- The one that stands first may as well come behind the other. -/
def indep (oi oj : LOper) : Bool :=
  if oi.op.quiet && oj.op.quiet then !meets [oi.pl] (oj.pl :: oj.rds) && !meets [oj.pl] oi.rds
  else if oi.op.quiet && !oi.op.peeks && oj.op.acts then (indepQA oi oj || indepQS oi oj) && (!oi.op.looks || looksOk oi oj)
  else if oi.op.acts && oj.op.quiet && !oj.op.peeks then indepQA oj oi && !oj.op.looks
  else indepMA oi oj

theorem same_peek {p q : Opd} {s : RS} (h : p.same q = true) : s.peek p = s.peek q := by
  cases p with
  | loc i => cases q with
    | loc j => have : i = j := by simpa [Opd.same] using h
               rw [this]
    | _ => simp [Opd.same] at h
  | var i => cases q with
    | var j => have : i = j := by simpa [Opd.same] using h
               rw [this]
    | _ => simp [Opd.same] at h
  | const c => simp [Opd.same] at h

theorem lookAgree_st {o : LOper} {s s2 : RS} (h : s2.st = s.st) : LookAgree o s s2 := by
  unfold LookAgree
  split
  · intro id off t c h1 h2 h3 h4; exact ⟨c, by rw [h]; exact h2, rfl, h3, rfl⟩
  · intro id es h1 h2; rw [h]; exact h2
  · intro id es h1 h2; rw [h]; exact h2
  · trivial
theorem lookAgree_not {o : LOper} {s s2 : RS} (h : o.op.looks = false) : LookAgree o s s2 := by
  unfold LookAgree
  split
  · rename_i e; rw [e] at h; simp [LOp.looks] at h
  · rename_i e; rw [e] at h; simp [LOp.looks] at h
  · rename_i e; rw [e] at h; simp [LOp.looks] at h
  · trivial

/-- Cells, one by one the same in a range. -/
theorem range_eq {c c2 : List LVal} {off n : Nat} (hl : c2.length = c.length) (h : ∀ i, off ≤ i → i < off + n → c2[i]? = c[i]?) : (c2.drop off).take n = (c.drop off).take n := by
  apply List.ext_getElem?
  intro j
  simp only [List.getElem?_take, List.getElem?_drop]
  split
  · exact h (off + j) (by omega) (by omega)
  · rfl

theorem splice_at {c us : List LVal} {off n : Nat} (hle : off + n ≤ c.length) (hu : us.length = n) (o : Nat) : (c.take off ++ us ++ c.drop (off + n))[o]? = if off ≤ o ∧ o < off + n then us[o - off]? else c[o]? := by
  rw [List.append_assoc, List.getElem?_append]
  simp only [List.length_take]
  split
  · rw [if_neg (by omega), List.getElem?_take, if_pos (by omega)]
  · rw [List.getElem?_append]
    split
    · rw [if_pos (by omega)]; congr 1; omega
    · rw [if_neg (by omega), List.getElem?_drop]; congr 1; omega

theorem lookAgree_acts {q e : LOper} {s s1 : RS} (hok : looksOk q e = true) (hstr : e.op.isApp = true → q.strict = true) (hE : s1.st = s.st ∨ StEff e s s1.st) : LookAgree q s s1 := by
  rcases hE with hE | hE
  · exact lookAgree_st hE
  · -- cells that are there still
    have grow : (∃ o, s1.st = s.st ++ [o] ∨ s1.st = s.st) → LookAgree q s s1 := by
      rintro ⟨o, h | h⟩
      · have hk : ∀ (id : Nat) (ob : LObj), s.st[id]? = some ob → s1.st[id]? = some ob := fun id ob hid => by
          rw [h, List.getElem?_append_left (List.getElem?_eq_some_iff.1 hid).1]; exact hid
        unfold LookAgree
        split
        · intro id off t c h1 h2 h3 h4; exact ⟨c, hk _ _ h2, rfl, h3, rfl⟩
        · intro id es h1 h2; exact hk _ _ h2
        · intro id es h1 h2; exact hk _ _ h2
        · trivial
      · exact lookAgree_st h
    unfold StEff at hE
    unfold looksOk at hok
    cases hop : e.op with
    | alloc t c => rw [hop] at hE; exact grow hE
    | box t x => rw [hop] at hE; exact grow hE
    | mkMap => rw [hop] at hE; exact grow hE
    | mv x p => rw [hop] at hE; exact lookAgree_st hE
    | asg x => rw [hop] at hE; exact lookAgree_st hE
    | append el esz bytes x y =>
      rw [hop] at hE hstr
      have hst := hstr rfl
      have hE' : StAcq s.st s1.st := hE
      have maps : ∀ (id : Nat) (es : List (LVal × LVal)), s.st[id]? = some (.map es) → s1.st[id]? = some (.map es) := by
        intro id es hid
        rcases hE' id _ hid with h | ⟨t, c, off, u, h, _⟩
        · exact h
        · cases h
      unfold LookAgree
      split
      · intro id off t c h1 h2 h3 h4
        rcases hE' id _ h2 with h | ⟨t', c', off', u, h, hu, ho, h5⟩
        · exact ⟨c, h, rfl, h3, rfl⟩
        · injection h with e1 e2; subst e1; subst e2
          rw [settled_map h3] at h5
          refine ⟨_, h5, by simp, ?_, range_eq (by simp) fun i hi1 hi2 => ?_⟩
          · rw [List.all_eq_true] at h3 ⊢
            intro y hy
            rcases List.mem_or_eq_of_mem_set hy with hy | rfl
            · exact h3 y hy
            · cases u with
              | vs b o n xs => cases o <;> rfl
              | _ => rfl
          · have hne : off' ≠ i := by
              intro e; subst e
              rename_i _ n a p hq
              have hmem : u ∈ (c.drop off).take n := by
                apply List.mem_of_getElem? (i := off' - off)
                rw [List.getElem?_take, if_pos (by omega), List.getElem?_drop]
                rw [show off + (off' - off) = off' by omega]; exact hu
              have := List.all_eq_true.1 h4 u hmem
              rw [hst] at this
              cases u with
              | vs b o n xs => cases o <;> simp_all [LVal.plain, LVal.isOwn]
              | _ => simp [LVal.isOwn] at ho
            rw [List.getElem?_set_ne hne]
      · intro id es h1 h2; exact maps _ _ h2
      · intro id es h1 h2; exact maps _ _ h2
      · trivial
    | store n0 a0 v0 =>
      rw [hop] at hE hok
      dsimp only at hE hok
      rcases hE with hE | ⟨id', off', t', c', us, g1, g2, g3, g4, g5, g6, g7⟩
      · exact lookAgree_st hE
      · have maps : ∀ (id : Nat) (es : List (LVal × LVal)), s.st[id]? = some (.map es) → s1.st[id]? = some (.map es) := by
          intro id es hid
          have : id' ≠ id := fun e => by subst e; rw [g2] at hid; cases hid
          rw [g7, List.getElem?_set_ne this]; exact hid
        unfold LookAgree
        split
        · rename_i agg n a p hq
          rw [hq] at hok
          intro id off t c h1 h2 h3 h4
          dsimp only at hok
          rw [List.any_eq_true] at hok
          obtain ⟨⟨a', m⟩, hm1, hm2⟩ := hok
          simp only [Bool.and_eq_true, beq_iff_eq] at hm2
          obtain ⟨hsame, rfl⟩ := hm2
          have hpk : s.peek a' = some (.ptr id off) := by
            rw [same_peek hsame]; exact h1
          by_cases hid : id' = id
          · subst hid
            rw [g2] at h2; injection h2 with h2; injection h2 with e1 e2; subst e1; subst e2
            have hlt := (List.getElem?_eq_some_iff.1 g2).1
            have hlen : (c'.take off' ++ us ++ c'.drop (off' + n0)).length = c'.length := by simp; omega
            refine ⟨c'.take off' ++ us ++ c'.drop (off' + n0), by rw [g7]; simp [List.getElem?_set, hlt], hlen, ?_, range_eq hlen fun i hi1 hi2 => ?_⟩
            · rw [List.all_eq_true] at h3 g5 ⊢
              intro y hy
              rcases List.mem_append.1 hy with hy | hy
              · rcases List.mem_append.1 hy with hy | hy
                · exact h3 y (List.mem_of_mem_take hy)
                · exact g5 y hy
              · exact h3 y (List.mem_of_mem_drop hy)
            · rw [splice_at g3 g4]
              simp only [awayOk, g1] at g6
              have := List.all_eq_true.1 g6 _ hm1
              simp only [hpk, bne_self_eq_false, Bool.false_or, Bool.or_eq_true, decide_eq_true_eq] at this
              rw [if_neg (by omega)]
          · exact ⟨c, by rw [g7, List.getElem?_set_ne hid]; exact h2, rfl, h3, rfl⟩
        · intro id es h1 h2; exact maps _ _ h2
        · intro id es h1 h2; exact maps _ _ h2
        · trivial
    | _ => rw [hop] at hok; simp at hok

theorem dstFree_setP {s : RS} {p : Opd} {v : LVal} {o : LOper} (h : p.same o.pl = false) : dstFree (s.setP p v) o.dst = dstFree s o.dst := by
  unfold LOper.pl at h
  cases hd : o.dst with
  | none => rfl
  | some k =>
    rw [hd] at h
    have := peek_setP (s := s) (v := v) h
    simp only [RS.peek] at this
    simp only [dstFree, this]

theorem setP_set {s : RS} {p : Opd} {u v : LVal} : (s.setP p u).setP p v = s.setP p v := by
  cases p <;> simp [RS.setP]

/-- What lay at a place can be put back. -/
theorem setP_back {s : RS} {o : LOper} (hu : o.dst = none → s.rs[o.ix]? = some .undef) (hd : dstFree s o.dst = true) : ∃ v0 : LVal, v0.unpk = v0 ∧ s.setP o.pl v0 = s := by
  unfold LOper.pl
  cases hdst : o.dst with
  | none => exact ⟨.undef, rfl, by simp only [RS.setP]; rw [set_same (hu hdst)]⟩
  | some k =>
    rw [hdst] at hd
    cases hk : s.vars[k]? with
    | none => exact ⟨.undef, rfl, by simp only [RS.setP]; rw [List.set_eq_of_length_le (by simpa using hk)]⟩
    | some u =>
      simp only [dstFree, hk, Option.all_some] at hd
      refine ⟨u, ?_, by simp only [RS.setP]; rw [set_same hk]⟩
      cases u with
      | vs b o n xs => cases o <;> first | rfl | simp [LVal.free] at hd
      | _ => rfl

theorem stepD_ma {s : RS} {ix t : Nat} {pk strict : Bool} {away : List (Opd × Nat)} : stepD C im impl s ⟨ix, none, none, .mv (.loc t) pk, strict, away⟩ =
    if (s.peek (.loc t)).any (LVal.calm strict) then (s.give (.loc t)).map (fun r => r.2.setP (.loc ix) r.1.stay.unpk) else none := by
  cases pk <;> simp only [stepD, LOp.quiet, Bool.false_and, Bool.false_eq_true, if_false, semD, LOp.acts, Bool.or_true, if_true, calmOk, LOp.opds, List.all_cons, List.all_nil, Bool.and_true, loadCalm, awayOk, sem] <;> split <;> rfl

theorem unpk_unpk (v : LVal) : v.unpk.unpk = v.unpk := by
  cases v with
  | vs b o n xs => cases o <;> rfl
  | _ => rfl

theorem commute_ma {oi oj : LOper} (hind : indepMA oi oj = true) {s s1 s2 : RS} (hu : oi.dst = none → s.rs[oi.ix]? = some .undef) (h1 : stepD C im impl s oi = some s1) (h2 : stepD C im impl s1 oj = some s2) :
    ∃ s1', stepD C im impl s oj = some s1' ∧ stepD C im impl s1' oi = some s2 := by
  obtain ⟨ix, dst, guard, op, strict, away⟩ := oi
  simp only [indepMA] at hind
  split at hind
  · rename_i x t pk
    dsimp only at hu
    simp only [Bool.and_eq_true, Bool.not_eq_true', Option.isNone_iff_eq_none, bne_iff_ne, ne_eq] at hind
    obtain ⟨⟨⟨⟨⟨rfl, rfl⟩, ha⟩, hna⟩, hm⟩, hne⟩ := hind
    have hux := hu rfl
    have am := meets_false hm
    have a1 : apart (.loc ix) (oj.rds ++ oj.wrs) := am (.loc ix) (List.mem_cons_self ..)
    have a2 : apart (.loc t) (oj.rds ++ oj.wrs) := am (.loc t) (List.mem_cons_of_mem _ (List.mem_cons_self ..))
    have hapx : oj.op.isApp = true → ∃ j, (Opd.loc ix) = .loc j := fun _ => ⟨_, rfl⟩
    have hapt : oj.op.isApp = true → ∃ j, (Opd.loc t) = .loc j := fun _ => ⟨_, rfl⟩
    rw [stepD_ma] at h1
    split at h1
    · rename_i hcalm
      simp only [Option.map_eq_some_iff] at h1
      obtain ⟨⟨u, s'⟩, hg, rfl⟩ := h1
      have hsx : s.setP (.loc ix) .undef = s := by simp only [RS.setP]; rw [set_same hux]
      cases hy : s.rs[t]? with
      | none => simp [RS.give, hy] at hg
      | some y =>
        -- what the place of the call's value is left as
        obtain ⟨z, hz, hzy, hzz, hyy, rfl, rfl⟩ : ∃ z : LVal, (∀ q : RS, q.rs[t]? = some y → q.give (.loc t) = some (y, q.setP (.loc t) z)) ∧ (z = y ∨ z = .undef) ∧ z.unpk = z ∧ y.unpk = y ∧ u = y ∧ s' = s.setP (.loc t) z := by
          cases y with
          | vs b o n xs =>
            cases o with
            | pk l => simp [RS.give, hy] at hg
            | own e x =>
              simp only [RS.give, hy, Option.bind_some, Option.some.injEq, Prod.mk.injEq] at hg
              exact ⟨.undef, fun q hq => by simp only [RS.give, hq, Option.bind_some]; rfl, .inr rfl, rfl, rfl, hg.1.symm, hg.2.symm⟩
            | sh =>
              simp only [RS.give, hy, Option.bind_some, Option.some.injEq, Prod.mk.injEq] at hg
              exact ⟨_, fun q hq => by simp only [RS.give, hq, Option.bind_some, RS.setP]; rw [set_same hq], .inl rfl, rfl, rfl, hg.1.symm, by rw [← hg.2]; simp only [RS.setP]; rw [set_same hy]⟩
            | full =>
              simp only [RS.give, hy, Option.bind_some, Option.some.injEq, Prod.mk.injEq] at hg
              exact ⟨_, fun q hq => by simp only [RS.give, hq, Option.bind_some, RS.setP]; rw [set_same hq], .inl rfl, rfl, rfl, hg.1.symm, by rw [← hg.2]; simp only [RS.setP]; rw [set_same hy]⟩
          | tup l =>
            simp only [RS.give, hy, Option.bind_some, Option.some.injEq, Prod.mk.injEq] at hg
            exact ⟨.undef, fun q hq => by simp only [RS.give, hq, Option.bind_some]; rfl, .inr rfl, rfl, rfl, hg.1.symm, hg.2.symm⟩
          | _ =>
            simp only [RS.give, hy, Option.bind_some, Option.some.injEq, Prod.mk.injEq] at hg
            exact ⟨_, fun q hq => by simp only [RS.give, hq, Option.bind_some, RS.setP]; rw [set_same hq], .inl rfl, rfl, rfl, hg.1.symm, by rw [← hg.2]; simp only [RS.setP]; rw [set_same hy]⟩
        have hxt : (Opd.loc ix).same (.loc t) = false := by simp [Opd.same, hne]
        have hsy : s.setP (.loc t) u = s := by simp only [RS.setP]; rw [set_same hy]
        -- back to what there was
        have hF := stepD_F (p := .loc t) (v := u) ha hyy a2 hapt (stepD_F (p := .loc ix) (v := .undef) ha rfl a1 hapx h2)
        have hbk : (((s.setP (.loc t) z).setP (.loc ix) u.stay.unpk).setP (.loc ix) .undef).setP (.loc t) u = s := by
          rw [setP_set, ← setP_comm hxt, setP_set, hsx, hsy]
        dsimp only at hF h2
        rw [hbk] at hF
        -- and what there is behind
        have hA := stepD_F (p := .loc ix) (v := u.stay.unpk) ha (unpk_unpk _) a1 hapx h2
        rw [setP_set, h2] at hA
        injection hA with hA
        have hB := stepD_F (p := .loc t) (v := z) ha hzz a2 hapt h2
        rw [← setP_comm hxt, setP_set, setP_comm hxt, h2] at hB
        injection hB with hB
        refine ⟨_, hF, ?_⟩
        have hc : u.calm false = true := by
          rw [RS.peek, hy, Option.any_some] at hcalm
          exact calm_weak hcalm
        have hpk : ((s2.setP (.loc ix) .undef).setP (.loc t) u).peek (.loc t) = some u := by
          refine ((stepD_acts ha hF).1 (.loc t) (fun y hy => ?_) u (by rw [hna]; exact hc)).1 hy
          rw [same_comm]
          exact a2 y (List.mem_append_right _ hy)
        rw [stepD_ma, hpk, Option.any_some]
        rw [RS.peek, hy, Option.any_some] at hcalm
        rw [if_pos hcalm, hz _ hpk, Option.map_some, setP_set, ← setP_comm hxt, setP_set, ← hA, ← hB]
    · cases h1
  · cases hind

theorem commute {oi oj : LOper} (hind : indep oi oj = true) {s s1 s2 : RS} (hu : oi.dst = none → s.rs[oi.ix]? = some .undef) (h1 : stepD C im impl s oi = some s1) (h2 : stepD C im impl s1 oj = some s2) :
    ∃ s1', stepD C im impl s oj = some s1' ∧ stepD C im impl s1' oi = some s2 := by
  unfold indep at hind
  split at hind
  · rename_i hqq
    simp only [Bool.and_eq_true] at hqq
    simp only [Bool.and_eq_true, Bool.not_eq_true'] at hind
    obtain ⟨hi1, hi2⟩ := hind
    have a1 := meets_false hi1 oi.pl (List.mem_cons_self ..)
    have a2 := meets_false hi2 oj.pl (List.mem_cons_self ..)
    have hpp : oi.pl.same oj.pl = false := a1 _ (List.mem_cons_self ..)
    obtain ⟨v1, rfl, _, d1, k1⟩ := stepD_quiet hqq.1 h1
    obtain ⟨v2, rfl, _, d2, k2⟩ := stepD_quiet hqq.2 h2
    refine ⟨s.setP oj.pl v2, k2 s (.inl fun x hx => (peek_setP (a1 x (List.mem_cons_of_mem _ hx))).symm) (lookAgree_st st_setP.symm) (by rw [dstFree_setP hpp] at d2; exact d2), ?_⟩
    rw [k1 (s.setP oj.pl v2) (.inl fun x hx => peek_setP (a2 x hx)) (lookAgree_st st_setP) (by rw [dstFree_setP (by rw [same_comm]; exact hpp)]; exact d1)]
    rw [setP_comm (by rw [same_comm]; exact hpp)]
  · split at hind
    · rename_i hqa
      simp only [Bool.and_eq_true, Bool.not_eq_true'] at hqa
      obtain ⟨⟨hq, hp⟩, ha⟩ := hqa
      rw [Bool.and_eq_true, Bool.or_eq_true] at hind
      obtain ⟨hind, hi4⟩ := hind
      rw [Bool.or_eq_true, Bool.not_eq_true'] at hi4
      obtain ⟨v, rfl, hv, d, k⟩ := stepD_quiet hq h1
      have hv := hv hp
      obtain ⟨v0, u0, b0⟩ := setP_back hu d
      have hback : (s.setP oi.pl v).setP oi.pl v0 = s := by rw [setP_set, b0]
      have hmain : oi.pl.same oj.pl = false ∧ (∀ x ∈ oj.wrs, ∀ y ∈ oi.rds, x.same y = false) ∧ (oj.op.isApp = true → oi.strict = true ∧ oi.dst = none) ∧
          ∃ v0, stepD C im impl s oj = some (s2.setP oi.pl v0) ∧ s2 = (s2.setP oi.pl v0).setP oi.pl v := by
        rcases hind with hind | hind
        · simp only [indepQA, Bool.and_eq_true, Bool.not_eq_true', Bool.or_eq_true] at hind
          obtain ⟨⟨hi1, hi2⟩, hi3⟩ := hind
          have a1 := meets_false hi1 oi.pl (List.mem_cons_self ..)
          have happ : oj.op.isApp = true → oi.strict = true ∧ oi.dst = none := fun h => by
            rcases hi3 with hi3 | hi3
            · rw [h] at hi3; cases hi3
            · exact ⟨hi3.1, by simpa using hi3.2⟩
          have happ' : oj.op.isApp = true → ∃ j, oi.pl = .loc j := fun h => ⟨oi.ix, by simp [LOper.pl, (happ h).2]⟩
          have hF := stepD_F (p := oi.pl) (v := v0) ha u0 a1 happ' h2
          rw [hback] at hF
          have hF2 := stepD_F (p := oi.pl) (v := v) ha hv a1 happ' hF
          rw [setP_set, ← b0, setP_set] at hF2
          rw [← b0, setP_set] at h2
          exact ⟨a1 _ (List.mem_append_right _ (List.mem_cons_self ..)), meets_false hi2, happ, v0, hF, by
            have : some s2 = _ := h2.symm.trans hF2
            injection this with this
            rw [setP_set]; exact this⟩
        · simp only [indepQS, Bool.and_eq_true, Bool.not_eq_true'] at hind
          obtain ⟨⟨⟨hdn, hna⟩, hi1⟩, hi2⟩ := hind
          have a1 := meets_false hi1 oi.pl (List.mem_cons_self ..)
          have happ : oj.op.isApp = true → oi.strict = true ∧ oi.dst = none := fun h => by rw [h] at hna; cases hna
          have happ' : oj.op.isApp = true → ∃ j, oi.pl = .loc j := fun h => by rw [h] at hna; cases hna
          have hpo : ∀ x ∈ oj.op.opds, oi.pl.same x = false := fun x hx => a1 x (List.mem_append_left _ (List.mem_append_left _ hx))
          have hs0 : s.setP oi.pl .undef = s := by
            have hd0 : oi.dst = none := by simpa using hdn
            have := hu hd0
            simp only [LOper.pl, hd0, RS.setP]
            rw [set_same this]
          have hF := stepD_F2 (p := oi.pl) (v := .undef) ha rfl a1 (fun h => awayOk_undef hpo h) happ' h2
          rw [setP_set, hs0] at hF
          have hF3 := stepD_F2 (p := oi.pl) (v := v) ha hv a1 (fun h => by rw [setP_set]; exact h) happ' h2
          rw [setP_set, h2] at hF3
          injection hF3 with hF3
          exact ⟨a1 _ (List.mem_append_right _ (List.mem_cons_self ..)), meets_false hi2, happ, .undef, hF, by rw [setP_set]; exact hF3⟩
      obtain ⟨hplpl, a2, happ, v0, hF, hF2⟩ := hmain
      obtain ⟨E1, E2⟩ := stepD_acts ha hF
      refine ⟨_, hF, ?_⟩
      have n1 : Needs oi (s2.setP oi.pl v0) s oi.rds := .inr ⟨hp, fun x hx c hc hpk => by
        refine (E1 x (fun y hy => a2 y hy x hx) c ?_).1 hpk
        cases happj : oj.op.isApp with
        | true => rw [(happ happj).1] at hc; exact hc
        | false => exact calm_weak hc⟩
      have n2 : LookAgree oi s (s2.setP oi.pl v0) := by
        rcases hi4 with hi4 | hi4
        · exact lookAgree_not hi4
        · exact lookAgree_acts hi4 (fun h => (happ h).1) E2
      have n3 : dstFree (s2.setP oi.pl v0) oi.dst = true := by
        cases hdst : oi.dst with
        | none => rfl
        | some kk =>
          have hna : oj.op.isApp = false := by
            cases happj : oj.op.isApp with
            | false => rfl
            | true => rw [(happ happj).2] at hdst; cases hdst
          have hpl : oi.pl = .var kk := by simp [LOper.pl, hdst]
          have hvk := stepD_vars ha hna hF (k := kk) (by rw [← hpl]; exact hplpl)
          rw [hdst] at d
          simp only [dstFree] at d ⊢
          rw [hvk]
          exact d
      rw [k _ n1 n2 n3, ← hF2]
    · split at hind
      · rename_i hqa
        simp only [Bool.and_eq_true, Bool.not_eq_true'] at hqa
        obtain ⟨⟨ha, hq⟩, hp⟩ := hqa
        simp only [indepQA, Bool.and_eq_true, Bool.not_eq_true', Bool.or_eq_true] at hind
        obtain ⟨⟨⟨hi1, hi2⟩, hi3⟩, hi4⟩ := hind
        have a1 := meets_false hi1 oj.pl (List.mem_cons_self ..)
        have a2 := meets_false hi2
        have happ : oi.op.isApp = true → oj.strict = true ∧ oj.dst = none := fun h => by
          rcases hi3 with hi3 | hi3
          · rw [h] at hi3; cases hi3
          · exact ⟨hi3.1, by simpa using hi3.2⟩
        have happ' : oi.op.isApp = true → ∃ j, oj.pl = .loc j := fun h => ⟨oj.ix, by simp [LOper.pl, (happ h).2]⟩
        obtain ⟨v, rfl, hv, d, k⟩ := stepD_quiet hq h2
        have hv := hv hp
        obtain ⟨E1, E2⟩ := stepD_acts ha h1
        refine ⟨s.setP oj.pl v, k s (.inr ⟨hp, fun x hx c hc hpk => ?_⟩) (lookAgree_not hi4) ?_, stepD_F ha hv a1 happ' h1⟩
        · refine (E1 x (fun y hy => a2 y hy x hx) c ?_).2 hpk
          cases happj : oi.op.isApp with
          | true => rw [(happ happj).1] at hc; exact hc
          | false => exact calm_weak hc
        · cases hdst : oj.dst with
          | none => rfl
          | some kk =>
            have hna : oi.op.isApp = false := by
              cases happj : oi.op.isApp with
              | false => rfl
              | true => rw [(happ happj).2] at hdst; cases hdst
            have hpl : oj.pl = .var kk := by simp [LOper.pl, hdst]
            have hvk := stepD_vars ha hna h1 (k := kk) (by rw [← hpl]; exact a1 _ (List.mem_append_right _ (List.mem_cons_self ..)))
            rw [hdst] at d
            simp only [dstFree, hvk] at d
            exact d
      · exact commute_ma hind hu h1 h2
end Go.L
