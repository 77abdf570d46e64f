/- HookD -/
import Derived.Test.YtbljgbojkifoiaaKHookC
set_option linter.unusedVariables false
set_option linter.unusedSimpArgs false
namespace Go.Proofs.Ytbljgbojkifoiaa
open Go Go.L Go.RowKit Go.Maps Go.Sort Go.Shelf
open Go.WideElems (Fit rd rg)
open Go.Proofs (encStr)

set_option maxHeartbeats 1000000 in
theorem sorted_keys {H : Type} (Bm mb nn : Nat) (D0 : DataW H) (R : Value → Option (DataW H × List MemPlace)) (w : World) (hBm : Bm < w.heap.size) (hm : w.cell? ⟨Bm, 0, none⟩ = some (.map (some mb))) (hown : w.ownsMap Try.prog 9 R mb nn D0)
    (hmax : Maps.size D0 ≤ maxLen) (hbytes : Maps.size D0 * 16 ≤ 140737488355328) :
    Calls Try.prog 40 #[.func (.func 49) #[] #[.pointer (some ⟨Bm, 0, none⟩)]] w fun e w' => ∃ (v : Value) (ss : List (List UInt8)), e = .returned v ∧ ss.Perm (strKeys D0) ∧
      w'.ownsRow w.heap.size 9 1 v ss.length ((ss.mergeSort (fun x y => decide (x ≤ y))).map encStr) ∧ (v = .slice none 0 0 ↔ ss = []) ∧ Below w.heap.size w w' := by
  have hseq : SeqGives Fence.wide 2 Try.prog 49 #[.pointer (some ⟨Bm, 0, none⟩)] encStr (fun ss => ss.Perm (strKeys D0)) (Maps.size D0) w :=
    AnyZ.keys_gives (ρ := Try.keys41_ren) { Try.keys41 with } Fence.wide _ trivial rfl (by omega) Bm mb nn D0 w hBm hm hown
  exact callsIn_wide.1 (AnyZ.sorted_in Try.sorted40 Fence.wide 5 trivial trivial trivial trivial rfl (by omega) (Try.sorts40 _) (enters_of Try.func48 (by kernel_rfl) rfl) 49 #[.pointer (some ⟨Bm, 0, none⟩)] trivial (enters_of Try.func49 (by kernel_rfl) rfl) _ _ hmax hbytes w hseq)

theorem hSorted_ok (args : List LVal) (st : List LObj) (v : LVal) (ost : Option (List LObj)) (h : D.hSorted args st = some (v, ost)) : Sound1 Try.prog 40 args st v ost := by
  refine ⟨by kernel_rfl, fun cargs w S G ρ hrel hcell hV hs => ?_⟩
  unfold D.hSorted at h
  split at h
  case h_2 => cases h
  rename_i id
  split at h
  case h_2 => cases h
  rename_i t m hst
  split at h
  case h_2 => cases h
  rename_i es hst2
  simp only [Option.bind_eq_some_iff] at h
  obtain ⟨ks, hks, h⟩ := h
  split at h
  case isFalse => cases h
  rename_i hlen
  injection h with h; injection h with e1 e2; subst e2
  obtain ⟨c, rfl, hp⟩ := vl1 hV
  obtain ⟨cs, hcs, rfl⟩ := hp.func_inv
  obtain ⟨c, rfl, hp2⟩ := vl1 hcs
  obtain ⟨b, hb, rfl⟩ := hp2.ptr_inv
  obtain ⟨cc, cv, k1, k2, k3, k4, k5, k6⟩ := cellAt hrel hst hb (off := 0) rfl
  obtain ⟨mb, hmb, rfl⟩ := ((At1.simple (v := .map m) rfl).1 k6).map_inv
  obtain ⟨mb', ces, clock, q1, q2, q3, q4, q5, q6⟩ := hrel.st m _ hst2
  obtain rfl : mb = mb' := by rw [hmb] at q1; exact Option.some.inj q1
  have u9 : Try.prog.underlying 9 = some .string := by kernel_rfl
  -- the keys
  have hkeys : ∀ (es : List (LVal × LVal)) (ks : List (List UInt8)), D.keysOf es = some ks → ks.length = es.length ∧ ∀ (i : Nat) (e : LVal × LVal), es[i]? = some e → ∃ s, ks[i]? = some s ∧ e.1 = .str s ∧ s.length ≤ 140737488355328 := by
    intro es
    induction es with
    | nil => intro ks h; simp [D.keysOf] at h; subst h; exact ⟨rfl, fun i e he => by simp at he⟩
    | cons e r ih =>
      intro ks h
      obtain ⟨k, v⟩ := e
      cases k <;> simp only [D.keysOf] at h <;> try cases h
      split at h
      · rename_i s hs
        simp only [Option.map_eq_some_iff] at h
        obtain ⟨l, hl, rfl⟩ := h
        obtain ⟨j1, j2⟩ := ih l hl
        refine ⟨by simp [j1], fun i e he => ?_⟩
        cases i with
        | zero => simp at he; subst he; exact ⟨s, rfl, rfl, hs⟩
        | succ i => simpa using j2 i e (by simpa using he)
      · cases h
  obtain ⟨hk1, hk2⟩ := hkeys es ks hks
  have hkey : ∀ (i : Nat) (x : MapEntry), ces[i]? = some x → ∃ s, ks[i]? = some s ∧ x.key = .string ⟨⟨s⟩⟩ ∧ s.length ≤ 140737488355328 := by
    intro i x hx
    have hlt : i < es.length := by rw [← q4]; exact (Array.getElem?_eq_some_iff.1 hx).1
    obtain ⟨s, r1, r2, r3⟩ := hk2 i es[i] (List.getElem?_eq_getElem hlt)
    obtain ⟨ce, p1, p2, _⟩ := q6 i es[i] (List.getElem?_eq_getElem hlt)
    rw [hx] at p1; injection p1 with p1; subst p1
    rw [r2] at p2
    exact ⟨s, r1, p2.str_inv, r3⟩
  let R : Value → Option (DataW Unit × List MemPlace) := fun _ => some (.nil, [])
  have hrd : ∀ (i : Nat) (x : MapEntry), ces[i]? = some x → ∃ s, ks[i]? = some s ∧ WideElems.rd Try.prog 9 R x = some (.string s, .nil) := by
    intro i x hx
    obtain ⟨s, r1, r2, r3⟩ := hkey i x hx
    refine ⟨s, r1, ?_⟩
    have hko : keyOf Try.prog 9 x.key = some (.string s) := by
      unfold keyOf
      rw [u9]
      dsimp only
      unfold mapKey
      rw [u9, r2]
      dsimp only
      rw [if_pos (by show s.length ≤ maxLen; unfold maxLen; omega)]
    unfold WideElems.rd
    rw [hko]
    rfl
  have hfit : Fit Try.prog 9 R ces clock := ⟨by unfold maxLen; omega, q5, fun x hx => by
    obtain ⟨i, hi, e⟩ := List.getElem_of_mem hx
    obtain ⟨s, _, r2⟩ := hrd i x (by rw [← e]; simp)
    exact ⟨_, r2⟩⟩
  have hown : w.ownsMap Try.prog 9 R mb es.length (.map ((ces.toList.map (rg Try.prog 9 R)).foldr DataW.insert [])) := ⟨ces, clock, q2, hfit, by omega, rfl⟩
  have hperm := WideShapes.sorted_perm (H := Unit) (ces.toList.map (rg Try.prog 9 R))
  have hsk : (strKeys (.map ((ces.toList.map (rg Try.prog 9 R)).foldr DataW.insert [])) : List (List UInt8)).Perm ks := by
    refine (hperm.map (fun p => strOf p.1)).trans ?_
    have : (ces.toList.map (rg Try.prog 9 R)).map (fun p => strOf p.1) = ks := by
      apply List.ext_getElem?
      intro i
      simp only [List.getElem?_map]
      cases hx : ces.toList[i]? with
      | none =>
        have : ces.size ≤ i := by simpa using hx
        simp
        omega
      | some x =>
        obtain ⟨s, r1, r2⟩ := hrd i x (by simpa using hx)
        rw [r1]
        simp [rg, r2, strOf]
    rw [this]
  have hsize : Maps.size (H := Unit) (.map ((ces.toList.map (rg Try.prog 9 R)).foldr DataW.insert [])) = es.length := by
    show ((ces.toList.map (rg Try.prog 9 R)).foldr DataW.insert []).length = _
    rw [hperm.length_eq]; simp [q4]
  refine (sorted_keys b mb es.length _ R w (hrel.rho id b hb) k5 hown (by rw [hsize]; unfold maxLen; omega) (by rw [hsize]; omega)).mono ?_
  rintro e w' ⟨v', ss, rfl, hss, hrow, hnil, hB⟩
  have hsort : ss.mergeSort (fun x y => decide (x ≤ y)) = D.sortK ks := sortK_merge (hss.trans hsk)
  rw [hsort] at hrow
  have hl : ss.length = es.length := by rw [(hss.trans hsk).length_eq, hk1]
  have hempty : ss = [] ↔ es = [] := by rw [← List.length_eq_zero_iff, hl, List.length_eq_zero_iff]
  refine ⟨v', rfl, CallPost.grown hrel hcell hB (by subst e1; split <;> rfl) ?_⟩
  by_cases he : es = []
  · have := hnil.2 (hempty.2 he)
    subst this; subst e1; subst he
    exact .nils
  · subst e1
    rw [if_neg (by simpa using he)]
    rcases hrow.2 with ⟨h1, h2⟩ | ⟨g, cap, cur, rfl, h2, h3, h4, h5, h6, h7⟩
    · exact absurd (hempty.1 (hnil.1 h1)) he
    · have hsl : (D.sortK ks).length = ss.length := by rw [(sortK_perm ks).length_eq, hk1, hl]
      have hll : ((D.sortK ks).map LVal.str).length = ss.length := by simp [hsl]
      rw [← hll]
      refine .vs (by rw [hll]; exact h4) h5 (by intro e; cases e) (fun x hx => by
        obtain ⟨s, _, rfl⟩ := List.mem_map.1 hx; rfl) (Cells.row ?_)
      have hfm : ((D.sortK ks).map LVal.str).flatMap LVal.cells = (D.sortK ks).map LVal.str := by
        generalize D.sortK ks = l
        induction l with
        | nil => rfl
        | cons a l ih => simp only [List.map_cons, List.flatMap_cons, ih]; rfl
      rw [hfm]
      intro j u hu
      simp only [List.getElem?_map, Option.map_eq_some_iff] at hu
      obtain ⟨s, hs1, rfl⟩ := hu
      have hgl : g < w'.heap.size := (Array.getElem?_eq_some_iff.1 h3).1
      have hj : j < ss.length := by rw [← hsl]; exact (List.getElem?_eq_some_iff.1 hs1).1
      refine ⟨.inr ⟨h2, hgl⟩, encStr s, ?_, ?_, rfl⟩
      · rw [cellOfHeap h3]
        have : (cur.toList.take (ss.length * 1))[j]? = some (encStr s) := by rw [h7]; simp [hs1]
        rw [List.getElem?_take, if_pos (by omega)] at this
        simpa using this
      · exact .str s
end Go.Proofs.Ytbljgbojkifoiaa
