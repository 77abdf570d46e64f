/- Texts 9 10. -/
import Derived.Test.YtbljgbojkifoiaaKVB
import Derived.Test.YtbljgbojkifoiaaKLH
import Derived.KernelRfl
section
set_option linter.unusedVariables false
set_option linter.unusedSimpArgs false
namespace Go.Proofs.Ytbljgbojkifoiaa
open Go Go.L

def decF : Nat → Nat → List UInt8
  | 0, n => [dig n]
  | k + 1, n => if n < 10 then [dig n] else decF k (n / 10) ++ [dig (n % 10)]
theorem decF_eq : ∀ (k n : Nat), n < 10 ^ (k + 1) → decF k n = dec n
  | 0, n, h => by rw [dec, dif_pos (by simpa using h)]; rfl
  | k + 1, n, h => by
    rw [decF, dec]
    split
    · rfl
    · rw [decF_eq k (n / 10) (by rw [Nat.pow_succ] at h; omega)]
def numF (n : Int) : List UInt8 := if n < 0 then 45 :: (decF 19 n.natAbs ++ [44]) else decF 19 n.toNat ++ [44]
theorem numF_eq {n : Int} (h : i64 n) : numF n = numB n := by
  obtain ⟨h1, h2⟩ := h
  unfold numF numB
  split
  · rw [decF_eq 19 _ (by omega)]
  · rw [decF_eq 19 _ (by omega)]
def linkF (l : LinkS) : List UInt8 := numF l.st ++ (numF l.rest ++ (numF l.naks ++ (truthB l.sent ++ (truthB l.answered ++ (numF l.id ++ textB l.opts)))))
def loginF (l : LoginS) : List UInt8 := numF l.ours ++ (numF l.theirs ++ (truthB l.oursOk ++ (truthB l.theirsOk ++ (truthB l.open_ ++ (numF l.id ++ (textB l.value ++ (truthB l.asked ++ numF l.askedId)))))))
def dueF (d : DueS) : List UInt8 := numF d.kind ++ (numF d.proto ++ (numF d.id ++ textB d.data))
def duesF : List DueS → List UInt8
  | [] => []
  | d :: r => dueF d ++ duesF r
def keyF (s : StateS) : List UInt8 := linkF s.l0 ++ (linkF s.l1 ++ (linkF s.l2 ++ (loginF s.login ++ (numF s.due.length ++ duesF s.due))))

def i64B (n : Int) : Bool := decide (-9223372036854775808 ≤ n) && decide (n < 9223372036854775808)
def linkOk (l : LinkS) : Bool := i64B l.st && i64B l.rest && i64B l.naks && i64B l.id && decide (l.opts.length ≤ 500)
def loginOk (l : LoginS) : Bool := i64B l.ours && i64B l.theirs && i64B l.id && i64B l.askedId && decide (l.value.length ≤ 500)
def dueOk (d : DueS) : Bool := i64B d.kind && i64B d.proto && i64B d.id && decide (d.data.length ≤ 500)
def stateOk (s : StateS) : Bool := linkOk s.l0 && linkOk s.l1 && linkOk s.l2 && loginOk s.login && s.due.all dueOk && decide (s.due.length ≤ 20) && (!s.nil || s.due.isEmpty) && (match s.o with | .sh => true | .full => true | _ => false) && (s.due.isEmpty || s.m == 4)
theorem i64B_ok {n : Int} (h : i64B n = true) : i64 n := by simpa [i64B, i64] using h
theorem stateOk_ok {s : StateS} (h : stateOk s = true) : s.ok ∧ s.few := by
  simp only [stateOk, linkOk, loginOk, Bool.and_eq_true, decide_eq_true_eq, List.all_eq_true] at h
  obtain ⟨⟨⟨⟨⟨⟨⟨⟨⟨⟨⟨⟨a1, a2⟩, a3⟩, a4⟩, a5⟩, ⟨⟨⟨b1, b2⟩, b3⟩, b4⟩, b5⟩, ⟨⟨⟨c1, c2⟩, c3⟩, c4⟩, c5⟩, ⟨⟨⟨d1, d2⟩, d3⟩, d4⟩, d5⟩, e⟩, f⟩, g⟩, go⟩, gm⟩ := h
  refine ⟨⟨⟨i64B_ok a1, i64B_ok a2, i64B_ok a3, i64B_ok a4⟩, ⟨i64B_ok b1, i64B_ok b2, i64B_ok b3, i64B_ok b4⟩, ⟨i64B_ok c1, i64B_ok c2, i64B_ok c3, i64B_ok c4⟩, ⟨i64B_ok d1, i64B_ok d2, i64B_ok d3, i64B_ok d4⟩, fun x hx => ?_, fun hn => ?_, ?_, fun hne => ?_⟩, f, d5, a5, b5, c5, fun x hx => ?_⟩
  · have := e x hx
    simp only [dueOk, Bool.and_eq_true] at this
    exact ⟨i64B_ok this.1.1.1, i64B_ok this.1.1.2, i64B_ok this.1.2⟩
  · rw [hn] at g; simpa using g
  · revert go; cases s.o <;> simp
  · simp only [Bool.or_eq_true, List.isEmpty_iff, beq_iff_eq] at gm
    exact gm.resolve_left hne
  · have := e x hx
    simp only [dueOk, Bool.and_eq_true, decide_eq_true_eq] at this
    exact this.2
theorem keyF_eq {s : StateS} (h : s.ok) (hf : s.few) : keyF s = keyB s := by
  obtain ⟨q0, q1, q2, q3, q4, q5, _, _⟩ := h
  have hl : ∀ l : LinkS, l.ok → linkF l = linkB l := fun l ⟨h1, h2, h3, h4⟩ => by simp only [linkF, linkB, numF_eq h1, numF_eq h2, numF_eq h3, numF_eq h4]
  have hg : loginF s.login = loginB s.login := by
    obtain ⟨h1, h2, h3, h4⟩ := q3
    simp only [loginF, loginB, numF_eq h1, numF_eq h2, numF_eq h3, numF_eq h4]
  have hd : ∀ l : List DueS, (∀ d ∈ l, d.ok) → duesF l = duesB l := by
    intro l
    induction l with
    | nil => intro _; rfl
    | cons d l ih =>
      intro h
      obtain ⟨h1, h2, h3⟩ := h d (List.mem_cons_self ..)
      simp only [duesF, duesB, dueF, dueB, numF_eq h1, numF_eq h2, numF_eq h3, ih (fun x hx => h x (List.mem_cons_of_mem _ hx))]
  have hn : i64 (s.due.length : Int) := by have := hf.1; exact ⟨by omega, by omega⟩
  simp only [keyF, keyB, hl _ q0, hl _ q1, hl _ q2, hg, hd _ q4, numF_eq hn]

def takeLink : List LVal → Option (LinkS × List LVal)
  | .int .i64 a :: .int .i64 b :: .int .i64 c :: .bool d :: .bool e :: .int .i64 f :: .str g :: r => some (⟨a, b, c, d, e, f, g⟩, r)
  | _ => none
def takeLogin : List LVal → Option (LoginS × List LVal)
  | .int .i64 a :: .int .i64 b :: .bool c :: .bool d :: .bool e :: .int .i64 f :: .str g :: .bool h :: .int .i64 i :: r => some (⟨a, b, c, d, e, f, g, h, i⟩, r)
  | _ => none
def takeDue : LVal → Option DueS
  | .agg [.int .i64 a, .int .i64 b, .int .i64 c, .str d] => some ⟨a, b, c, d⟩
  | _ => none
def takeDues : List LVal → Option (List DueS)
  | [] => some []
  | v :: r => (takeDue v).bind fun d => (takeDues r).map fun l => d :: l
def takeState (cs : List LVal) : Option StateS :=
  (takeLink cs).bind fun a => (takeLink a.2).bind fun b => (takeLink b.2).bind fun c => (takeLogin c.2).bind fun d => match d.2 with
    | [.vs n o m xs] => (takeDues xs).map fun l => ⟨a.1, b.1, c.1, d.1, n, o, m, l⟩
    | _ => none
theorem takeLink_ok {cs r : List LVal} {l : LinkS} (h : takeLink cs = some (l, r)) : cs = l.cells ++ r := by
  unfold takeLink at h
  split at h
  · injection h with h; injection h with h1 h2; subst h1; subst h2; rfl
  · cases h
theorem takeLogin_ok {cs r : List LVal} {l : LoginS} (h : takeLogin cs = some (l, r)) : cs = l.cells ++ r := by
  unfold takeLogin at h
  split at h
  · injection h with h; injection h with h1 h2; subst h1; subst h2; rfl
  · cases h
theorem takeDues_ok : ∀ {xs : List LVal} {l : List DueS}, takeDues xs = some l → xs = duesL l
  | [], l, h => by simp [takeDues] at h; subst h; rfl
  | v :: r, l, h => by
    simp only [takeDues, Option.bind_eq_some_iff, Option.map_eq_some_iff] at h
    obtain ⟨d, h1, l', h2, rfl⟩ := h
    have := takeDues_ok h2
    unfold takeDue at h1
    split at h1
    · injection h1 with h1; subst h1; rw [this]; rfl
    · cases h1
theorem takeState_ok {cs : List LVal} {s : StateS} (h : takeState cs = some s) : cs = s.cells := by
  simp only [takeState, Option.bind_eq_some_iff] at h
  obtain ⟨⟨a, ra⟩, h1, ⟨b, rb⟩, h2, ⟨c, rc⟩, h3, ⟨d, rd⟩, h4, h5⟩ := h
  dsimp only at h2 h3 h4 h5
  rw [takeLink_ok h1, takeLink_ok h2, takeLink_ok h3, takeLogin_ok h4]
  split at h5
  · simp only [Option.map_eq_some_iff] at h5
    obtain ⟨l, h6, rfl⟩ := h5
    rw [takeDues_ok h6]; rfl
  · cases h5

/-- A key, known ahead. -/
def keyHook (args : List LVal) (st : List LObj) : Option (LVal × Option (List LObj)) := match args with
  | [.agg cs] => (takeState cs).bind fun s => if stateOk s && st.isEmpty then some (.str (keyF s), none) else none
  | _ => none
def T2 : Tbl := { fns := fun f => if f = 10 ∨ f = 11 then some (.hook keyHook) else D.T.fns f, im := D.T.im, impl := D.T.impl }
theorem swaps : Swaps D.T T2 := by
  refine ⟨rfl, rfl, fun f d h => ?_⟩
  simp only [T2] at h
  split at h
  · rename_i hf
    injection h with h; subst h
    refine .inr ⟨keyHook, rfl, fun args st r hr => ?_⟩
    unfold keyHook at hr
    split at hr
    · rename_i cs
      simp only [Option.bind_eq_some_iff] at hr
      obtain ⟨s, h1, h2⟩ := hr
      split at h2
      · rename_i hc
        injection h2 with h2; subst h2
        simp only [Bool.and_eq_true, List.isEmpty_iff] at hc
        obtain ⟨hok, rfl⟩ := hc
        obtain ⟨k1, k2⟩ := stateOk_ok hok
        rw [takeState_ok h1, keyF_eq k1 k2]
        rcases hf with rfl | rfl
        · exact key_eq s k1 k2
        · exact rkey_eq s k1 k2
      · cases h2
    · cases hr
  · exact .inl h
end Go.Proofs.Ytbljgbojkifoiaa
end
section
namespace Go.Proofs.Ytbljgbojkifoiaa
open Go Go.L
theorem awake_run : callN T2 60 8 [] [] = some (.bool true, none) := by kernel_rfl
theorem awake_eq : callW D.T 8 [] [] = some (.bool true, none) := callN_swap swaps 60 8 [] [] _ awake_run
end Go.Proofs.Ytbljgbojkifoiaa
end
