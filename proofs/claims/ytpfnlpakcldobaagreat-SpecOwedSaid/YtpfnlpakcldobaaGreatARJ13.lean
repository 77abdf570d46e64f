/- Texts of the proof: RK2 RJ12 RP2 RJ13a RJ13b RJ13c RJ13. -/
import Derived.Test.YtpfnlpakcldobaaGreatARK1
import Derived.Test.YtpfnlpakcldobaaGreatARJ8
import Derived.Test.YtpfnlpakcldobaaGreatARJ9
import Derived.Test.YtpfnlpakcldobaaGreatARJ10
import Derived.Test.YtpfnlpakcldobaaGreatARJ2
import Derived.Test.YtpfnlpakcldobaaGreatARP1
set_option linter.unusedVariables false
set_option linter.unusedSimpArgs false
set_option linter.unusedSectionVars false
namespace Go.Proofs.YtpfnlpakcldobaaGreat
open Go Go.L
theorem st_len (st : List zt) (B : zt) : (st ++ [B])[st.length]? = some B := by simp
theorem nB (x : Int) : vX x = -1 ∨ vX x = 0 ∨ vX x = 1 ∨ vX x = 2 := by
 unfold vX; split
 ·exact .inr (.inl rfl)
 ·split
  ·exact .inr (.inr (.inl rfl))
  ·split
   ·exact .inr (.inr (.inr rfl))
   ·exact .inl rfl
set_option maxHeartbeats 80000000 in
theorem move_eq (st : List zt) (l : yp) (hw : Wb l.item.nil l.item.m l.item.data) :
 ∃ v, MoveV l v ∧ zq D.W 39 [.agg l.cells] st = some (v, some (st ++ [.cells 44 l.cells])) := by
 suffices h : Ret D.W 39 [.agg l.cells] st (fun v o => MoveV l v ∧ o = some (st ++ [.cells 44 l.cells])) by
  obtain ⟨v, o, k, hm, rfl⟩ := h
  exact ⟨v, hm, k⟩
 obtain ⟨kind, zd, ⟨dir, ip, inil, im, data⟩, vo⟩ := l
 obtain ⟨pl, k45⟩ := plain_ex ⟨kind, zd, ⟨dir, ip, inil, im, data⟩, vo⟩
 obtain ⟨my, k46, hmy⟩ := may_ex ⟨dir, ip, inil, im, data⟩
 have k44 := ta zd
 have e1 := zx data
 dsimp only [yp.cells, wN.cells] at *
 have a0 := st_len st (.cells 44 [.int .i64 kind, .int .i64 zd, .int .i64 dir, .int .i64 ip, .vs inil .sh im (zy data), .bool vo])
 have no : MoveV ⟨kind, zd, ⟨dir, ip, inil, im, data⟩, vo⟩ .yX := .inl rfl
 have turn : ∀ (i e : Nat) (z w : Int), z = i → w = e → kind ≠ 2 → i < 3 → (e = 0 ∨ e = 3 ∨ e = 4 ∨ (i = 0 ∧ (e = 1 ∨ e = 2))) → MoveV ⟨kind, zd, ⟨dir, ip, inil, im, data⟩, vo⟩ (.iface 100 (.agg [.int .i64 kind, .int .i64 z, .int .i64 w])) := fun i e z w hz hw a b c => .inr (.inr (.inr ⟨i, e, by rw [hz, hw], a, b, c⟩))
 cases pl with
 | false =>
  have F := an a0 (an e1 (an k45 k44))
  refine Ret.of wk ?_
  exact ⟨no, rfl⟩
 | true =>
 by_cases h2 : kind = 2
 ·subst h2
  by_cases hd : dir = 2
  ·subst hd
   cases my with
   | true =>
    obtain ⟨m1, m2, m3⟩ := hmy rfl
    have F := an a0 (an e1 (an k45 (an k44 k46)))
    refine Ret.of wk ?_
    exact ⟨.inr (.inl ⟨rfl, rfl, m1, m2, m3⟩), rfl⟩
   | false =>
    have F := an a0 (an e1 (an k45 (an k44 k46)))
    refine Ret.of wk ?_
    exact ⟨no, rfl⟩
  ·have F := an a0 (an e1 (an k45 (an k44 (an k46 hd))))
   refine Ret.of wk ?_
   exact ⟨no, rfl⟩
 by_cases h1 : kind = 1
 ·subst h1
  by_cases hd : dir = 1
  ·subst hd
   cases my with
   | true =>
    obtain ⟨m1, m2, m3⟩ := hmy rfl
    have F := an a0 (an e1 (an k45 (an k44 k46)))
    refine Ret.of wk ?_
    exact ⟨.inr (.inr (.inl ⟨rfl, rfl, m1, m2, m3⟩)), rfl⟩
   | false =>
    have F := an a0 (an e1 (an k45 (an k44 k46)))
    refine Ret.of wk ?_
    exact ⟨no, rfl⟩
  ·have F := an a0 (an e1 (an k45 (an k44 (an k46 hd))))
   refine Ret.of wk ?_
   exact ⟨no, rfl⟩
 by_cases h3 : kind = 3
 ·subst h3
  have F := an a0 (an e1 (an k45 (an k44 k46)))
  refine Ret.of wk ?_
  exact ⟨turn 0 1 0 1 rfl rfl (by decide) (by decide) (by decide), rfl⟩
 by_cases h4 : kind = 4
 ·subst h4
  have F := an a0 (an e1 (an k45 (an k44 k46)))
  refine Ret.of wk ?_
  exact ⟨turn 0 2 0 2 rfl rfl (by decide) (by decide) (by decide), rfl⟩
 by_cases h5 : kind = 5
 ·subst h5
  rcases nB zd with hl | hl | hl | hl
  all_goals rw [hl] at k44
  ·have F := an a0 (an e1 (an k45 (an k44 k46)))
   refine Ret.of wk ?_
   exact ⟨no, rfl⟩
  ·have F := an a0 (an e1 (an k45 (an k44 k46)))
   refine Ret.of wk ?_
   exact ⟨turn 0 3 0 3 rfl rfl (by decide) (by decide) (by decide), rfl⟩
  ·have F := an a0 (an e1 (an k45 (an k44 k46)))
   refine Ret.of wk ?_
   exact ⟨turn 1 3 1 3 rfl rfl (by decide) (by decide) (by decide), rfl⟩
  ·have F := an a0 (an e1 (an k45 (an k44 k46)))
   refine Ret.of wk ?_
   exact ⟨turn 2 3 2 3 rfl rfl (by decide) (by decide) (by decide), rfl⟩
 by_cases h6 : kind = 6
 ·subst h6
  rcases nB zd with hl | hl | hl | hl
  all_goals rw [hl] at k44
  ·have F := an a0 (an e1 (an k45 (an k44 k46)))
   refine Ret.of wk ?_
   exact ⟨no, rfl⟩
  ·have F := an a0 (an e1 (an k45 (an k44 k46)))
   refine Ret.of wk ?_
   exact ⟨turn 0 4 0 4 rfl rfl (by decide) (by decide) (by decide), rfl⟩
  ·have F := an a0 (an e1 (an k45 (an k44 k46)))
   refine Ret.of wk ?_
   exact ⟨turn 1 4 1 4 rfl rfl (by decide) (by decide) (by decide), rfl⟩
  ·have F := an a0 (an e1 (an k45 (an k44 k46)))
   refine Ret.of wk ?_
   exact ⟨turn 2 4 2 4 rfl rfl (by decide) (by decide) (by decide), rfl⟩
 by_cases h7 : kind = 7
 ·subst h7
  rcases nB zd with hl | hl | hl | hl
  all_goals rw [hl] at k44
  ·have F := an a0 (an e1 (an k45 (an k44 k46)))
   refine Ret.of wk ?_
   exact ⟨no, rfl⟩
  ·have F := an a0 (an e1 (an k45 (an k44 k46)))
   refine Ret.of wk ?_
   exact ⟨turn 0 0 0 0 rfl rfl (by decide) (by decide) (by decide), rfl⟩
  ·have F := an a0 (an e1 (an k45 (an k44 k46)))
   refine Ret.of wk ?_
   exact ⟨turn 1 0 1 0 rfl rfl (by decide) (by decide) (by decide), rfl⟩
  ·have F := an a0 (an e1 (an k45 (an k44 k46)))
   refine Ret.of wk ?_
   exact ⟨turn 2 0 2 0 rfl rfl (by decide) (by decide) (by decide), rfl⟩
 ·have F := an a0 (an e1 (an k45 (an k44 (an k46 (an h1 (an h2 (an h3 (an h4 (an h5 (an h6 h7))))))))))
  refine Ret.of wk ?_
  exact ⟨no, rfl⟩
end Go.Proofs.YtpfnlpakcldobaaGreat
namespace Go.Proofs.YtpfnlpakcldobaaGreat
open Go Go.L
def rq (a : AW) (l : yp) (q : Bool) (a' : AW) : Prop :=
 (l.kind = 2 ∧ ∃ d r, a.ds = d :: r ∧ OwedA a d r l.item q a') ∨ (l.kind = 2 ∧ a.ds = [] ∧ FreeA a l.item q a') ∨
 (l.kind ≠ 2 ∧ q = false ∧ a' = a) ∨ (l.kind ≠ 2 ∧ a.ds = [] ∧ HapA a l.item.zd a') ∨
 (l.kind ≠ 2 ∧ a.ds = [] ∧ ∃ i e : Nat, i < 3 ∧ (e = 0 ∨ e = 3 ∨ e = 4 ∨ (i = 0 ∧ (e = 1 ∨ e = 2))) ∧ a' = (s6 a i e).1)
def rS (a : AW) (l : yp) (q : Bool) (a' : AW) : Prop := (q = false ∧ a' = a) ∨ ∃ a1, rq a l q a1 ∧ a' = wg a1 a.net
theorem ansA_ok {a : AW} {j : Nat} (h : a.ok j) {k : Nat} {p : zE} (hp : p.wf 70000) {q : Bool} {a' : AW} (hn : 0 ≤ (a.link k).zT) (hA : xr a k p q a') : a'.ok j := by
 obtain ⟨l', rfl, h1, h2, h3, h4, _⟩ := hA
 obtain ⟨f1, f2, f3, f4, f5, f6⟩ := h.fit k
 have hm := h.mf
 refine oI h k l' ⟨by rw [h1]; exact f1, by rw [h1]; exact f2, by rw [h2]; exact f3, ?_, ?_, ?_⟩
 ·rcases h4 with h4 | h4 | h4 <;> rw [h4]
  ·exact f4
  ·have := hm.1; omega
  ·omega
 ·rcases h4 with h4 | h4 | h4 <;> rw [h4]
  ·exact f5
  ·exact hm.2
  ·omega
 ·rcases h3 with h3 | h3 <;> rw [h3]
  ·exact f6
  ·exact hp.2.2.2.2.2
theorem AW.ok.g' {a : AW} {k : Nat} (h : a.ok k) (g : zl) (hg : g.value.length ≤ 70000) : AW.ok { a with g := g } k := ⟨h.due, h.cel, h.mc, h.mt, h.mf, h.s1, h.s2, h.a0, h.a1, h.a2, hg, h.ds⟩
theorem AW.ok.app {a : AW} {k : Nat} (h : a.ok k) (ds : List yu) (hl : ds.length ≤ 1) (hd : ∀ d ∈ ds, d.data.length ≤ 70000 ∧ ((1 ≤ d.kind ∧ d.kind ≤ 8 ∧ (d.zd = 49185 ∨ d.zd = 32801 ∨ d.zd = 32855)) ∨ (9 ≤ d.kind ∧ d.kind ≤ 11 ∧ (d.zd = 49187 ∨ d.zd = 49699)))) : AW.ok { a with ds := a.ds ++ ds } (k + 1) := by
 have h1 := h.due
 have h2 := h.cel
 refine ⟨?_, ?_, h.mc, h.mt, h.mf, h.s1, h.s2, h.a0, h.a1, h.a2, h.g, ?_⟩
 ·simp only [List.length_append]; omega
 ·exact Nat.le_succ_of_le h2
 ·intro d hm
  rcases List.mem_append.1 hm with hm | hm
  ·exact h.ds d hm
  ·exact hd d hm
theorem cameA_ok {a : AW} {j : Nat} (h : a.ok j) (i : Nat) {a' : AW} (hA : qb a i a') : a'.ok (j + 3) := by
 rcases hA with hA | ⟨e, id, data, he, hd, hA⟩ | ⟨_, t, id, data, hd, hA⟩ | ⟨id, hA⟩ | ⟨_, id, hA⟩ | ⟨_, id, r, hr, hA⟩
 ·rw [hA]; exact h.mono (by omega)
 ·rw [hA]; exact xQ h i e (by omega) id data hd
 ·rw [hA]
  have h1 := xQ h 0 7 (by omega) id data hd
  exact h1.g' _ h1.g
 ·rcases hA with hA | ⟨e, he, hA⟩
  ·rw [hA]; exact h.mono (by omega)
  ·have hl : (a.xa i { a.link i with zm := true }).ok j := oI h i _ (h.fit i)
   have h1 := xQ hl i e (by omega) id [] (Nat.zero_le _)
   rcases hA with hA | ⟨_, _, t, hA⟩
   ·rw [hA]; exact h1
   ·rw [hA]; exact h1.g' _ h1.g
 ·rcases hA with hA | hA | hA | ⟨_, i, _, hA⟩
  ·rw [hA]; exact h.mono (by omega)
  ·rw [hA]; exact xQ h 0 14 (by omega) id [] (Nat.zero_le _)
  ·rw [hA]; exact xQ h 0 15 (by omega) id [] (Nat.zero_le _)
  ·rw [hA]; exact xQ h i 15 (by omega) id [] (Nat.zero_le _)
 ·rw [hA]; exact xQ h 0 16 (by omega) id r hr
theorem evA_lt (a : AW) (i e : Nat) (he : e < 17) : evA a i e < 17 := by
 unfold evA
 split
 ·exact ma _ _
 ·exact he
theorem oK {a : AW} {j : Nat} (h : a.ok j) (hn : ∀ i, 0 ≤ (a.link i).zT) {l : yp} {q : Bool} {a' : AW} (hM : rq a l q a') : a'.ok (j + 3) := by
 rcases hM with ⟨_, d, r, hds, hO⟩ | ⟨_, hds, hF⟩ | ⟨_, _, rfl⟩ | ⟨_, _, hH⟩ | ⟨_, _, i, e, hi, he, rfl⟩
 ·have ht := h.tail hds
  rcases hO with ⟨_, rfl⟩ | ⟨k, p, hk, _, _, hp, hA⟩ | ⟨_, _, g', hg, rfl⟩
  ·exact ht.mono (by omega)
  ·exact (ansA_ok ht hp (hn k) hA).mono (by omega)
  ·exact (ht.g' g' (by rw [hg]; exact h.g)).mono (by omega)
 ·obtain ⟨g', hg, rfl, _⟩ := hF
  exact (h.g' g' hg).mono (by omega)
 ·exact h.mono (by omega)
 ·rcases hH with rfl | ⟨i, _, _, hC⟩ | ⟨hx, hL⟩ | ⟨data, hd, rfl⟩
  ·exact h.mono (by omega)
  ·exact cameA_ok h i hC
  ·rcases hL with rfl | ⟨g', ds, hg, hh, rfl⟩
   ·exact h.mono (by omega)
   ·have h1 := h.g' g' (by rw [hg]; exact h.g)
    have h2 := h1.app ds (by rcases hh with rfl | ⟨d, rfl, _⟩ <;> simp) (by
     intro d hd
     rcases hh with rfl | ⟨d', rfl, hk, hp, hl⟩
     ·cases hd
     ·simp only [List.mem_singleton] at hd
      subst hd
      exact ⟨hl, .inr ⟨by omega, by omega, by rw [hp]; exact hx⟩⟩)
    exact h2.mono (by omega)
  ·exact (h.app [⟨8, 49185, 0, data⟩] (by simp) (by
    intro d hd'
    simp only [List.mem_singleton] at hd'
    subst hd'
    exact ⟨hd, .inl ⟨by dsimp only; omega, by dsimp only; omega, .inl rfl⟩⟩)).mono (by omega)
 ·unfold s6
  split
  ·exact h.mono (by omega)
  ·exact xQ h i _ (evA_lt a i e (by omega)) 0 [] (Nat.zero_le _)
end Go.Proofs.YtpfnlpakcldobaaGreat
namespace Go.Proofs.YtpfnlpakcldobaaGreat
open Go Go.L
variable {c : zg} {M : Int} {up : Bool} {a a' : AW} {k : Nat}
theorem Inv.gd (h : Inv c M up a) (g : zl) : Inv c M up { a with g := g } := h.rest g a.ds a.n
theorem ansA_inv (h : Inv c M up a) {j : Nat} {p : zE} (hA : xr a j p true a') : Inv c M up a' := by
 obtain ⟨l', rfl, h1, h2, _, _, h5⟩ := hA
 obtain ⟨k1, k2, k3, k4⟩ := h.k j
 have hmf : 0 ≤ c.mf := by omega
 refine h.xa j l' ⟨by rw [h2]; exact k1, by rw [h2]; exact k2, ?_, ?_⟩ (fun _ => by rw [h1])
 ·rcases h5 rfl with ⟨_, h⟩ | ⟨_, h, h'⟩ | ⟨_, h⟩
  ·rw [h, ‹Inv c M up a›.cc]; exact hmf
  ·exact h'
  ·rw [h]; exact k3
 ·rcases h5 rfl with ⟨_, h⟩ | ⟨_, h, h'⟩ | ⟨_, h⟩
  ·rw [h, ‹Inv c M up a›.cc]; omega
  ·rw [h]; omega
  ·rw [h]; exact k4
theorem cameA_inv (h : Inv c M up a) (ha : a.ok k) (i : Nat) (hA : qb a i a') : Inv c M up a' := by
 rcases hA with hA | ⟨e, id, data, he, hd, hA⟩ | ⟨_, t, id, data, hd, hA⟩ | ⟨id, hA⟩ | ⟨_, id, hA⟩ | ⟨_, id, r, hr, hA⟩
 ·rw [hA]; exact h
 ·rw [hA]; exact h.rD ha i e (by omega) (.inr (by omega)) id data
 ·rw [hA]; exact (h.rD ha 0 7 (by omega) (.inl rfl) id data).gd _
 ·rcases hA with hA | ⟨e, he, hA⟩
  ·rw [hA]; exact h
  ·have hl : (a.xa i { a.link i with zm := true }).ok k := oI ha i _ (ha.fit i)
   have hI : Inv c M up (a.xa i { a.link i with zm := true }) := h.xa i _ (h.k i) (fun _ => Iff.rfl)
   have h1 := hI.rD hl i e (by omega) (.inr (by omega)) id []
   rcases hA with hA | ⟨_, _, t, hA⟩
   ·rw [hA]; exact h1
   ·rw [hA]; exact h1.gd _
 ·rcases hA with hA | hA | hA | ⟨_, i, _, hA⟩
  ·rw [hA]; exact h
  ·rw [hA]; exact h.rD ha 0 14 (by omega) (.inl rfl) id []
  ·rw [hA]; exact h.rD ha 0 15 (by omega) (.inl rfl) id []
  ·rw [hA]; exact h.rD ha i 15 (by omega) (.inr (by omega)) id []
 ·rw [hA]; exact h.rD ha 0 16 (by omega) (.inl rfl) id r
theorem ld (s : Nat) (r : Int) : vH s r = 0 ∨ vH s r = 5 ∨ vH s r = 6 := by
 unfold vH
 by_cases h : 0 < r
 ·simp only [if_pos h]
  split
  ·exact .inr (.inl rfl)
  ·exact .inl rfl
 ·simp only [if_neg h]
  split
  ·exact .inr (.inr rfl)
  ·exact .inl rfl
theorem evA_cases (a : AW) (i e : Nat) (he : e = 0 ∨ e = 3 ∨ e = 4 ∨ (i = 0 ∧ (e = 1 ∨ e = 2))) : evA a i e = 0 ∨ evA a i e < 17 ∧ (i = 0 ∨ (evA a i e ≠ 1 ∧ evA a i e ≠ 2)) := by
 unfold evA
 split
 ·rcases ld (a.link i).st.toNat (a.link i).rest with h | h | h
  ·exact .inl h
  ·exact .inr (by omega)
  ·exact .inr (by omega)
 ·exact .inr (by omega)
theorem midA_inv (h : Inv c M up a) (ha : a.ok k) {l : yp} (hM : rq a l true a') : Inv c M up a' := by
 rcases hM with ⟨_, d, r, hds, hO⟩ | ⟨_, hds, hF⟩ | ⟨_, hq, _⟩ | ⟨_, _, hH⟩ | ⟨_, _, i, e, hi, he, rfl⟩
 ·have ht : Inv c M up { a with ds := r } := h.rest a.g r a.n
  rcases hO with ⟨hq, _⟩ | ⟨j, p, hk, _, _, hp, hA⟩ | ⟨_, _, g', hg, rfl⟩
  ·cases hq
  ·exact ansA_inv ht hA
  ·exact ht.gd g'
 ·obtain ⟨g', hg, rfl, _⟩ := hF
  exact h.gd g'
 ·cases hq
 ·rcases hH with rfl | ⟨i, _, _, hC⟩ | ⟨hx, hL⟩ | ⟨data, hd, rfl⟩
  ·exact h
  ·exact cameA_inv h ha i hC
  ·rcases hL with rfl | ⟨g', ds, hg, hh, rfl⟩
   ·exact h
   ·exact h.rest g' _ a.n
  ·exact h.rest a.g _ a.n
 ·unfold s6
  split
  ·exact h
  ·rcases evA_cases a i e he with h1 | ⟨h1, h2⟩
   ·contradiction
   ·exact h.rD ha i _ h1 h2 0 []
theorem stepA_inv {l : yp} (h : Inv c M a.net a) (ha : a.ok k) (hn : ∀ i, 0 ≤ (a.link i).zT) (hS : rS a l true a') : Inv c M a'.net a' ∧ a'.ok (k + 9) := by
 rcases hS with ⟨hq, _⟩ | ⟨a1, hM, rfl⟩
 ·cases hq
 ·have h1 := midA_inv h ha hM
  have h2 := oK ha hn hM
  rw [kN]
  exact ⟨kO h1 h2, spreadA_ok h2 a.net⟩
end Go.Proofs.YtpfnlpakcldobaaGreat
namespace Go.Proofs.YtpfnlpakcldobaaGreat
open Go Go.L
set_option maxHeartbeats 80000000 in
theorem step_nil {N K : Nat} {st : List zt} (hs : xA N K st) (a : AW) (ha : a.ok 80000) (hn : ∀ i, 0 ≤ (a.link i).zT) (dv cv : LVal) (hdv : zK dv a.ds) (hcv : zN cv a.n) (hK : st[K]? = some (a.mk' dv cv).obj) (l : yp) (hw : Wb l.item.nil l.item.m l.item.data) :
 Ret D.W 38 [.ptr K 0, .yX] st (fun v o => ∃ (a' : AW) (dv' cv' : LVal) (q : Bool), zK dv' a'.ds ∧ zN cv' a'.n ∧ o = some (st.set K (a'.mk' dv' cv').obj) ∧ v = .bool q ∧ rS a l q a') := by
 have F0 := sF hs
 have ha9 := ha.mono (m := 90000) (by omega)
 have e1 := zx l.item.data
 have al : ∀ (a : AW) (dv cv : LVal), zK dv a.ds → zN cv a.n → ∀ x ∈ stW st K (a.mk' dv cv).obj [], zt.within N x = true := fun a dv cv x y => xm hs (zw.within _ x y N)
 have i98 : D.W.impl 94 98 = true := rfl
 have i100 : D.W.impl 94 100 = true := rfl
 have hlen := xI a.ds
 have lk : List.lookup (100 : TypeId) [((98 : TypeId), (133 : FuncId)), (100, 167)] = some 167 := rfl
 obtain ⟨b', m', hda, hwd⟩ := pS hdv
 have k16 := rb a b' m'
 obtain ⟨dv1, cv1, hdv1, hcv1, hld⟩ : ∃ dv1 cv1, zK dv1 a.ds ∧ zN cv1 a.n ∧ ((dv.zr = true ∧ dv1 = dv.stay ∧ cv1 = cv.stay) ∨ (dv.zr = false ∧ dv1 = dv ∧ cv1 = cv)) := by
  cases h : dv.zr with
  | true => exact ⟨_, _, hdv.stay, hcv.stay, .inl ⟨rfl, rfl, rfl⟩⟩
  | false => exact ⟨_, _, hdv, hcv, .inr ⟨rfl, rfl, rfl⟩⟩
 have al1 := al a dv1 cv1 hdv1 hcv1
 rw [zC hK]
 unfold zD.cells at k16
 unfold AW.mk' zw.obj zw.cells zg.cells zA.cells zl.cells at *
 simp only [List.cons_append, List.nil_append] at *
 rcases hld with ⟨hio, rfl, rfl⟩ | ⟨hio, rfl, rfl⟩
 all_goals
  have F := an F0 (an e1 (an k16 (an hio (an hda (eq_true al1)))))
  refine Ret.of wk ?_
  exact ⟨a, _, _, _, hdv1, hcv1, by rw [zz hs], rfl, .inl ⟨rfl, rfl⟩⟩
set_option maxHeartbeats 80000000 in
theorem step_sent {N K : Nat} {st : List zt} (hs : xA N K st) (a : AW) (ha : a.ok 80000) (hn : ∀ i, 0 ≤ (a.link i).zT) (dv cv : LVal) (hdv : zK dv a.ds) (hcv : zN cv a.n) (hK : st[K]? = some (a.mk' dv cv).obj) (l : yp) (hw : Wb l.item.nil l.item.m l.item.data) (hk : l.kind = 2) (hxl : l.item.data.length ≤ 65531) :
 Ret D.W 38 [.ptr K 0, .iface 90 (.agg l.item.cells)] st (fun v o => ∃ (a' : AW) (dv' cv' : LVal) (q : Bool), zK dv' a'.ds ∧ zN cv' a'.n ∧ o = some (st.set K (a'.mk' dv' cv').obj) ∧ v = .bool q ∧ rS a l q a') := by
 have F0 := sF hs
 have ha9 := ha.mono (m := 90000) (by omega)
 have e1 := zx l.item.data
 have al : ∀ (a : AW) (dv cv : LVal), zK dv a.ds → zN cv a.n → ∀ x ∈ stW st K (a.mk' dv cv).obj [], zt.within N x = true := fun a dv cv x y => xm hs (zw.within _ x y N)
 have i98 : D.W.impl 94 98 = true := rfl
 have i100 : D.W.impl 94 100 = true := rfl
 have hlen := xI a.ds
 have lk : List.lookup (100 : TypeId) [((98 : TypeId), (133 : FuncId)), (100, 167)] = some 167 := rfl
 obtain ⟨B, hBe, hB, hB'⟩ : ∃ B, B = zt.cells 90 [.int .i64 l.item.dir, .int .i64 l.item.zd, .vs l.item.nil .sh l.item.m (zy l.item.data)] ∧ (∀ n, zt.within n B = true) ∧ B.settle = B := ⟨_, rfl, by intro n; simp [LVal.zb, LVal.within], by simp⟩
 have sp : ∀ (q : Bool) (a1 : AW) (dv' cv' : LVal), zK dv' a1.ds → zN cv' a1.n → rq a l q a1 → ∃ (a2 : AW) (dv2 cv2 : LVal), a2 = wg a1 a.net ∧ zK dv2 a2.ds ∧ zN cv2 a2.n ∧
  zq D.W 43 [.ptr K 0, .bool a.net] (stW st K (a1.mk' dv' cv').obj [B]) = some (.tup [], some (stW st K (a2.mk' dv2 cv2).obj [B])) ∧ (∀ x ∈ stW st K (a2.mk' dv2 cv2).obj [], zt.within N x = true) := by
  intro q a1 dv' cv' h1 h2 hM
  have hok := oK ha hn hM
  obtain ⟨dv2, cv2, x1, x2, k⟩ := pC (qp hs a1 dv' cv' h1 h2 [B] (by intro z hz; simp only [List.mem_singleton] at hz; subst hz; exact hB _) (by intro z hz; simp only [List.mem_singleton] at hz; subst hz; exact hB')) a1 (hok.mono (by omega)) (fun e he => (xQ hok 1 e he 0 [] (Nat.zero_le _)).mono (by omega)) dv' cv' h1 h2 (xM hs _ _) a.net
  rw [zz hs] at k
  exact ⟨_, dv2, cv2, rfl, x1, x2, k, al _ dv2 cv2 x1 x2⟩
 have hsB : ∀ (a : AW) (dv cv : LVal), zK dv a.ds → zN cv a.n → xA (N + 1) K (stW st K (a.mk' dv cv).obj [B]) := fun a dv cv x y => qp hs a dv cv x y [B] (by intro z hz; simp only [List.mem_singleton] at hz; subst hz; exact hB _) (by intro z hz; simp only [List.mem_singleton] at hz; subst hz; exact hB')
 rw [zC hK]
 rcases (show (dv = .vs true .sh 0 [] ∧ a.ds = []) ∨ (dv = .vs false .full 4 [] ∧ a.ds = []) ∨ ∃ x, dv = .vs false (.own 51 x) 4 (zL a.ds) from hdv) with ⟨rfl, h0⟩ | ⟨rfl, h0⟩ | ⟨x, rfl⟩
 ·have k16 := rb a true 0
  unfold zD.cells at k16
  have hd0 : zL a.ds = [] := by rw [h0]; rfl
  rw [hd0] at k16
  obtain ⟨v, a1, dv2, cv2, x1, x2, k, q, rfl, hF⟩ := lZ (hsB a _ _ hdv hcv) a ha9 _ _ hdv hcv (xM hs _ _) l.item hw hxl
  rw [zz hs] at k
  have hM : rq a l q a1 := .inr (.inl ⟨hk, h0, hF⟩)
  obtain ⟨a2, dv3, cv3, hA2, y1, y2, k43, al2⟩ := sp _ a1 dv2 cv2 x1 x2 hM
  generalize hW1 : (a1.mk' dv2 cv2).obj = W1 at *
  generalize hW2 : (a2.mk' dv3 cv3).obj = W2 at *
  clear sp hsB al
  subst hBe
  unfold AW.mk' zw.obj zw.cells zg.cells zA.cells zl.cells wN.cells at *
  simp only [List.cons_append, List.nil_append] at *
  have F := an F0 (an e1 (an k16 (an i98 (an i100 (an lk (an hlen (an k (an k43 (eq_true al2)))))))))
  refine Ret.of wk ?_
  exact ⟨a2, dv3, cv3, _, y1, y2, by rw [zz hs, ← hW2], rfl, .inr ⟨a1, hM, hA2⟩⟩
 ·have k16 := rb a false 4
  unfold zD.cells at k16
  have hd0 : zL a.ds = [] := by rw [h0]; rfl
  rw [hd0] at k16
  obtain ⟨v, a1, dv2, cv2, x1, x2, k, q, rfl, hF⟩ := lZ (hsB a _ _ hdv hcv) a ha9 _ _ hdv hcv (xM hs _ _) l.item hw hxl
  rw [zz hs] at k
  have hM : rq a l q a1 := .inr (.inl ⟨hk, h0, hF⟩)
  obtain ⟨a2, dv3, cv3, hA2, y1, y2, k43, al2⟩ := sp _ a1 dv2 cv2 x1 x2 hM
  generalize hW1 : (a1.mk' dv2 cv2).obj = W1 at *
  generalize hW2 : (a2.mk' dv3 cv3).obj = W2 at *
  clear sp hsB al
  subst hBe
  unfold AW.mk' zw.obj zw.cells zg.cells zA.cells zl.cells wN.cells at *
  simp only [List.cons_append, List.nil_append] at *
  have F := an F0 (an e1 (an k16 (an i98 (an i100 (an lk (an hlen (an k (an k43 (eq_true al2)))))))))
  refine Ret.of wk ?_
  exact ⟨a2, dv3, cv3, _, y1, y2, by rw [zz hs, ← hW2], rfl, .inr ⟨a1, hM, hA2⟩⟩
 ·rcases (show a.ds = [] ∨ ∃ d r, a.ds = d :: r by cases a.ds with | nil => exact .inl rfl | cons d r => exact .inr ⟨d, r, rfl⟩) with h0 | ⟨d, r, h0⟩
  ·have k16 := rb a false 4
   unfold zD.cells at k16
   have hl0 : a.ds.length = 0 := by rw [h0]; rfl
   obtain ⟨v, a1, dv2, cv2, x1, x2, k, q, rfl, hF⟩ := lZ (hsB a (.vs false (.own 51 false) 4 (zL a.ds)) _ hdv.stay hcv.stay) a ha9 (.vs false (.own 51 false) 4 (zL a.ds)) _ hdv.stay hcv.stay (xM hs _ _) l.item hw hxl
   rw [zz hs] at k
   have hM : rq a l q a1 := .inr (.inl ⟨hk, h0, hF⟩)
   obtain ⟨a2, dv3, cv3, hA2, y1, y2, k43, al2⟩ := sp _ a1 dv2 cv2 x1 x2 hM
   generalize hW1 : (a1.mk' dv2 cv2).obj = W1 at *
   generalize hW2 : (a2.mk' dv3 cv3).obj = W2 at *
   clear sp hsB al
   subst hBe
   unfold AW.mk' zw.obj zw.cells zg.cells zA.cells zl.cells wN.cells at *
   simp only [List.cons_append, List.nil_append] at *
   have F := an F0 (an e1 (an k16 (an i98 (an i100 (an lk (an hlen (an hl0 (an k (an k43 (eq_true al2))))))))))
   refine Ret.of wk ?_
   exact ⟨a2, dv3, cv3, _, y1, y2, by rw [zz hs, ← hW2], rfl, .inr ⟨a1, hM, hA2⟩⟩
  ·have k16 := rb a false 4
   unfold zD.cells at k16
   have hl0 : a.ds.length = r.length + 1 := by rw [h0]; rfl
   have hl1 : (0 : Int) < a.ds.length := by omega
   have hl2 : ¬ ((a.ds.length : Int) = 0) := by omega
   have hl3 : ¬ (a.ds.length = 0) := by omega
   have hl4 : ¬ a.ds = [] := by rw [h0]; simp
   have hl5 : ((a.ds.length : Int) == 0) = false := by simpa using hl3
   have hl6 : 0 < a.ds.length := by omega
   obtain ⟨v, a1, dv2, cv2, x1, x2, k, q, rfl, hF⟩ := owed_eq (hsB a (.vs false (.own 51 false) 4 (zL a.ds)) _ hdv.stay hcv.stay) a ha9 (.vs false (.own 51 false) 4 (zL a.ds)) _ hdv.stay hcv.stay (xM hs _ _) d r h0 l.item hw hxl
   rw [zz hs] at k
   have hM : rq a l q a1 := .inl ⟨hk, d, r, h0, hF⟩
   obtain ⟨a2, dv3, cv3, hA2, y1, y2, k43, al2⟩ := sp _ a1 dv2 cv2 x1 x2 hM
   generalize hW1 : (a1.mk' dv2 cv2).obj = W1 at *
   generalize hW2 : (a2.mk' dv3 cv3).obj = W2 at *
   clear sp hsB al
   subst hBe
   unfold AW.mk' zw.obj zw.cells zg.cells zA.cells zl.cells wN.cells at *
   simp only [List.cons_append, List.nil_append] at *
   have F := an F0 (an e1 (an k16 (an i98 (an i100 (an lk (an hlen (an hl1 (an hl2 (an hl3 (an hl4 (an hl5 (an hl6 (an k (an k43 (eq_true al2)))))))))))))))
   refine Ret.of wk ?_
   exact ⟨a2, dv3, cv3, _, y1, y2, by rw [zz hs, ← hW2], rfl, .inr ⟨a1, hM, hA2⟩⟩
end Go.Proofs.YtpfnlpakcldobaaGreat
namespace Go.Proofs.YtpfnlpakcldobaaGreat
open Go Go.L
set_option maxHeartbeats 80000000 in
theorem step_came {N K : Nat} {st : List zt} (hs : xA N K st) (a : AW) (ha : a.ok 80000) (hn : ∀ i, 0 ≤ (a.link i).zT) (dv cv : LVal) (hdv : zK dv a.ds) (hcv : zN cv a.n) (hK : st[K]? = some (a.mk' dv cv).obj) (l : yp) (hw : Wb l.item.nil l.item.m l.item.data) (hk1 : l.kind = 1) (hp1 : 1 ≤ l.item.zd) (hp2 : l.item.zd ≤ 65535) (hxl : l.item.data.length ≤ 65531) :
 Ret D.W 38 [.ptr K 0, .iface 98 (.agg [.int .i64 l.item.dir, .int .i64 l.item.zd, .vs l.item.nil .sh l.item.m (zy l.item.data), .bool l.vo])] st (fun v o => ∃ (a' : AW) (dv' cv' : LVal) (q : Bool), zK dv' a'.ds ∧ zN cv' a'.n ∧ o = some (st.set K (a'.mk' dv' cv').obj) ∧ v = .bool q ∧ rS a l q a') := by
 have F0 := sF hs
 have ha9 := ha.mono (m := 90000) (by omega)
 have e1 := zx l.item.data
 have al : ∀ (a : AW) (dv cv : LVal), zK dv a.ds → zN cv a.n → ∀ x ∈ stW st K (a.mk' dv cv).obj [], zt.within N x = true := fun a dv cv x y => xm hs (zw.within _ x y N)
 have i98 : D.W.impl 94 98 = true := rfl
 have i100 : D.W.impl 94 100 = true := rfl
 have hlen := xI a.ds
 have lk : List.lookup (100 : TypeId) [((98 : TypeId), (133 : FuncId)), (100, 167)] = some 167 := rfl
 have hk : l.kind ≠ 2 := by omega
 obtain ⟨B, hBe, hB, hB'⟩ : ∃ B, B = zt.cells 90 [.int .i64 0, .int .i64 0, .vs true .sh 0 []] ∧ (∀ n, zt.within n B = true) ∧ B.settle = B := ⟨_, rfl, by intro n; simp [LVal.zb, LVal.within], by simp⟩
 have sp : ∀ (q : Bool) (a1 : AW) (dv' cv' : LVal), zK dv' a1.ds → zN cv' a1.n → rq a l q a1 → ∃ (a2 : AW) (dv2 cv2 : LVal), a2 = wg a1 a.net ∧ zK dv2 a2.ds ∧ zN cv2 a2.n ∧
  zq D.W 43 [.ptr K 0, .bool a.net] (stW st K (a1.mk' dv' cv').obj [B]) = some (.tup [], some (stW st K (a2.mk' dv2 cv2).obj [B])) ∧ (∀ x ∈ stW st K (a2.mk' dv2 cv2).obj [], zt.within N x = true) := by
  intro q a1 dv' cv' h1 h2 hM
  have hok := oK ha hn hM
  obtain ⟨dv2, cv2, x1, x2, k⟩ := pC (qp hs a1 dv' cv' h1 h2 [B] (by intro z hz; simp only [List.mem_singleton] at hz; subst hz; exact hB _) (by intro z hz; simp only [List.mem_singleton] at hz; subst hz; exact hB')) a1 (hok.mono (by omega)) (fun e he => (xQ hok 1 e he 0 [] (Nat.zero_le _)).mono (by omega)) dv' cv' h1 h2 (xM hs _ _) a.net
  rw [zz hs] at k
  exact ⟨_, dv2, cv2, rfl, x1, x2, k, al _ dv2 cv2 x1 x2⟩
 have hsB : ∀ (a : AW) (dv cv : LVal), zK dv a.ds → zN cv a.n → xA (N + 1) K (stW st K (a.mk' dv cv).obj [B]) := fun a dv cv x y => qp hs a dv cv x y [B] (by intro z hz; simp only [List.mem_singleton] at hz; subst hz; exact hB _) (by intro z hz; simp only [List.mem_singleton] at hz; subst hz; exact hB')
 rw [zC hK]
 rcases (show (dv = .vs true .sh 0 [] ∧ a.ds = []) ∨ (dv = .vs false .full 4 [] ∧ a.ds = []) ∨ ∃ x, dv = .vs false (.own 51 x) 4 (zL a.ds) from hdv) with ⟨rfl, h0⟩ | ⟨rfl, h0⟩ | ⟨x, rfl⟩
 ·have k16 := rb a true 0
  unfold zD.cells at k16
  have hd0 : zL a.ds = [] := by rw [h0]; rfl
  rw [hd0] at k16
  obtain ⟨v, a1, dv2, cv2, x1, x2, k, ⟨q, rfl⟩, hF⟩ := ki (hsB a _ _ hdv hcv) a ha9 _ _ hdv hcv (xM hs _ _) l.item.dir l.item.zd hp1 hp2 l.item.nil l.item.m l.item.data hw hxl l.vo
  rw [zz hs] at k
  have hM : rq a l q a1 := .inr (.inr (.inr (.inl ⟨hk, h0, hF⟩)))
  obtain ⟨a2, dv3, cv3, hA2, y1, y2, k43, al2⟩ := sp _ a1 dv2 cv2 x1 x2 hM
  generalize hW1 : (a1.mk' dv2 cv2).obj = W1 at *
  generalize hW2 : (a2.mk' dv3 cv3).obj = W2 at *
  clear sp hsB al
  subst hBe
  unfold AW.mk' zw.obj zw.cells zg.cells zA.cells zl.cells at *
  simp only [List.cons_append, List.nil_append] at *
  have F := an F0 (an e1 (an k16 (an i98 (an i100 (an lk (an hlen (an k (an k43 (eq_true al2)))))))))
  refine Ret.of wk ?_
  exact ⟨a2, dv3, cv3, _, y1, y2, by rw [zz hs, ← hW2], rfl, .inr ⟨a1, hM, hA2⟩⟩
 ·have k16 := rb a false 4
  unfold zD.cells at k16
  have hd0 : zL a.ds = [] := by rw [h0]; rfl
  rw [hd0] at k16
  obtain ⟨v, a1, dv2, cv2, x1, x2, k, ⟨q, rfl⟩, hF⟩ := ki (hsB a _ _ hdv hcv) a ha9 _ _ hdv hcv (xM hs _ _) l.item.dir l.item.zd hp1 hp2 l.item.nil l.item.m l.item.data hw hxl l.vo
  rw [zz hs] at k
  have hM : rq a l q a1 := .inr (.inr (.inr (.inl ⟨hk, h0, hF⟩)))
  obtain ⟨a2, dv3, cv3, hA2, y1, y2, k43, al2⟩ := sp _ a1 dv2 cv2 x1 x2 hM
  generalize hW1 : (a1.mk' dv2 cv2).obj = W1 at *
  generalize hW2 : (a2.mk' dv3 cv3).obj = W2 at *
  clear sp hsB al
  subst hBe
  unfold AW.mk' zw.obj zw.cells zg.cells zA.cells zl.cells at *
  simp only [List.cons_append, List.nil_append] at *
  have F := an F0 (an e1 (an k16 (an i98 (an i100 (an lk (an hlen (an k (an k43 (eq_true al2)))))))))
  refine Ret.of wk ?_
  exact ⟨a2, dv3, cv3, _, y1, y2, by rw [zz hs, ← hW2], rfl, .inr ⟨a1, hM, hA2⟩⟩
 ·rcases (show a.ds = [] ∨ ∃ d r, a.ds = d :: r by cases a.ds with | nil => exact .inl rfl | cons d r => exact .inr ⟨d, r, rfl⟩) with h0 | ⟨d, r, h0⟩
  ·have k16 := rb a false 4
   unfold zD.cells at k16
   have hl0 : a.ds.length = 0 := by rw [h0]; rfl
   obtain ⟨v, a1, dv2, cv2, x1, x2, k, ⟨q, rfl⟩, hF⟩ := ki (hsB a (.vs false (.own 51 false) 4 (zL a.ds)) _ hdv.stay hcv.stay) a ha9 (.vs false (.own 51 false) 4 (zL a.ds)) _ hdv.stay hcv.stay (xM hs _ _) l.item.dir l.item.zd hp1 hp2 l.item.nil l.item.m l.item.data hw hxl l.vo
   rw [zz hs] at k
   have hM : rq a l q a1 := .inr (.inr (.inr (.inl ⟨hk, h0, hF⟩)))
   obtain ⟨a2, dv3, cv3, hA2, y1, y2, k43, al2⟩ := sp _ a1 dv2 cv2 x1 x2 hM
   generalize hW1 : (a1.mk' dv2 cv2).obj = W1 at *
   generalize hW2 : (a2.mk' dv3 cv3).obj = W2 at *
   clear sp hsB al
   subst hBe
   unfold AW.mk' zw.obj zw.cells zg.cells zA.cells zl.cells at *
   simp only [List.cons_append, List.nil_append] at *
   have F := an F0 (an e1 (an k16 (an i98 (an i100 (an lk (an hlen (an hl0 (an k (an k43 (eq_true al2))))))))))
   refine Ret.of wk ?_
   exact ⟨a2, dv3, cv3, _, y1, y2, by rw [zz hs, ← hW2], rfl, .inr ⟨a1, hM, hA2⟩⟩
  ·have k16 := rb a false 4
   unfold zD.cells at k16
   have hl0 : a.ds.length = r.length + 1 := by rw [h0]; rfl
   have hl1 : (0 : Int) < a.ds.length := by omega
   have hl2 : ¬ ((a.ds.length : Int) = 0) := by omega
   have hl3 : ¬ (a.ds.length = 0) := by omega
   have hl4 : ¬ a.ds = [] := by rw [h0]; simp
   have hl5 : ((a.ds.length : Int) == 0) = false := by simpa using hl3
   have hl6 : 0 < a.ds.length := by omega
   have hM : rq a l false a := .inr (.inr (.inl ⟨hk, rfl, rfl⟩))
   obtain ⟨a2, dv3, cv3, hA2, y1, y2, k43, al2⟩ := sp _ a (.vs false (.own 51 false) 4 (zL a.ds)) (cv.stay) hdv.stay hcv.stay hM
   generalize hW2 : (a2.mk' dv3 cv3).obj = W2 at *
   clear sp hsB al
   subst hBe
   unfold AW.mk' zw.obj zw.cells zg.cells zA.cells zl.cells at *
   simp only [List.cons_append, List.nil_append] at *
   have F := an F0 (an e1 (an k16 (an i98 (an i100 (an lk (an hlen (an hl1 (an hl2 (an hl3 (an hl4 (an hl5 (an hl6 (an k43 (eq_true al2))))))))))))))
   refine Ret.of wk ?_
   exact ⟨a2, dv3, cv3, _, y1, y2, by rw [zz hs, ← hW2], rfl, .inr ⟨a, hM, hA2⟩⟩
end Go.Proofs.YtpfnlpakcldobaaGreat
namespace Go.Proofs.YtpfnlpakcldobaaGreat
open Go Go.L
set_option maxHeartbeats 80000000 in
theorem kK {N K : Nat} {st : List zt} (hs : xA N K st) (a : AW) (ha : a.ok 80000) (hn : ∀ i, 0 ≤ (a.link i).zT) (dv cv : LVal) (hdv : zK dv a.ds) (hcv : zN cv a.n) (hK : st[K]? = some (a.mk' dv cv).obj) (l : yp) (hw : Wb l.item.nil l.item.m l.item.data) (i e : Nat) (hk : l.kind ≠ 2) (hi : i < 3) (he : e = 0 ∨ e = 3 ∨ e = 4 ∨ (i = 0 ∧ (e = 1 ∨ e = 2))) :
 Ret D.W 38 [.ptr K 0, .iface 100 (.agg [.int .i64 l.kind, .int .i64 i, .int .i64 e])] st (fun v o => ∃ (a' : AW) (dv' cv' : LVal) (q : Bool), zK dv' a'.ds ∧ zN cv' a'.n ∧ o = some (st.set K (a'.mk' dv' cv').obj) ∧ v = .bool q ∧ rS a l q a') := by
 have F0 := sF hs
 have ha9 := ha.mono (m := 90000) (by omega)
 have e1 := zx l.item.data
 have al : ∀ (a : AW) (dv cv : LVal), zK dv a.ds → zN cv a.n → ∀ x ∈ stW st K (a.mk' dv cv).obj [], zt.within N x = true := fun a dv cv x y => xm hs (zw.within _ x y N)
 have i98 : D.W.impl 94 98 = true := rfl
 have i100 : D.W.impl 94 100 = true := rfl
 have hlen := xI a.ds
 have lk : List.lookup (100 : TypeId) [((98 : TypeId), (133 : FuncId)), (100, 167)] = some 167 := rfl
 obtain ⟨B, hBe, hB, hB'⟩ : ∃ B, B = zt.cells 90 [.int .i64 0, .int .i64 0, .vs true .sh 0 []] ∧ (∀ n, zt.within n B = true) ∧ B.settle = B := ⟨_, rfl, by intro n; simp [LVal.zb, LVal.within], by simp⟩
 have sp : ∀ (q : Bool) (a1 : AW) (dv' cv' : LVal), zK dv' a1.ds → zN cv' a1.n → rq a l q a1 → ∃ (a2 : AW) (dv2 cv2 : LVal), a2 = wg a1 a.net ∧ zK dv2 a2.ds ∧ zN cv2 a2.n ∧
  zq D.W 43 [.ptr K 0, .bool a.net] (stW st K (a1.mk' dv' cv').obj [B]) = some (.tup [], some (stW st K (a2.mk' dv2 cv2).obj [B])) ∧ (∀ x ∈ stW st K (a2.mk' dv2 cv2).obj [], zt.within N x = true) := by
  intro q a1 dv' cv' h1 h2 hM
  have hok := oK ha hn hM
  obtain ⟨dv2, cv2, x1, x2, k⟩ := pC (qp hs a1 dv' cv' h1 h2 [B] (by intro z hz; simp only [List.mem_singleton] at hz; subst hz; exact hB _) (by intro z hz; simp only [List.mem_singleton] at hz; subst hz; exact hB')) a1 (hok.mono (by omega)) (fun e he => (xQ hok 1 e he 0 [] (Nat.zero_le _)).mono (by omega)) dv' cv' h1 h2 (xM hs _ _) a.net
  rw [zz hs] at k
  exact ⟨_, dv2, cv2, rfl, x1, x2, k, al _ dv2 cv2 x1 x2⟩
 have hsB : ∀ (a : AW) (dv cv : LVal), zK dv a.ds → zN cv a.n → xA (N + 1) K (stW st K (a.mk' dv cv).obj [B]) := fun a dv cv x y => qp hs a dv cv x y [B] (by intro z hz; simp only [List.mem_singleton] at hz; subst hz; exact hB _) (by intro z hz; simp only [List.mem_singleton] at hz; subst hz; exact hB')
 rw [zC hK]
 rcases (show (dv = .vs true .sh 0 [] ∧ a.ds = []) ∨ (dv = .vs false .full 4 [] ∧ a.ds = []) ∨ ∃ x, dv = .vs false (.own 51 x) 4 (zL a.ds) from hdv) with ⟨rfl, h0⟩ | ⟨rfl, h0⟩ | ⟨x, rfl⟩
 ·have k16 := rb a true 0
  unfold zD.cells at k16
  have hd0 : zL a.ds = [] := by rw [h0]; rfl
  rw [hd0] at k16
  obtain ⟨v, a1, dv2, cv2, x1, x2, k, rfl, hF⟩ := pb (hsB a _ _ hdv hcv) a ha9 _ _ hdv hcv (xM hs _ _) l.kind i hi e (by omega)
  rw [zz hs] at k
  have hM : rq a l (s6 a i e).2 a1 := .inr (.inr (.inr (.inr ⟨hk, h0, i, e, hi, he, hF⟩)))
  obtain ⟨a2, dv3, cv3, hA2, y1, y2, k43, al2⟩ := sp _ a1 dv2 cv2 x1 x2 hM
  generalize hW1 : (a1.mk' dv2 cv2).obj = W1 at *
  generalize hW2 : (a2.mk' dv3 cv3).obj = W2 at *
  clear sp hsB al
  subst hBe
  unfold AW.mk' zw.obj zw.cells zg.cells zA.cells zl.cells at *
  simp only [List.cons_append, List.nil_append] at *
  have F := an F0 (an e1 (an k16 (an i98 (an i100 (an lk (an hlen (an k (an k43 (eq_true al2)))))))))
  refine Ret.of wk ?_
  exact ⟨a2, dv3, cv3, _, y1, y2, by rw [zz hs, ← hW2], rfl, .inr ⟨a1, hM, hA2⟩⟩
 ·have k16 := rb a false 4
  unfold zD.cells at k16
  have hd0 : zL a.ds = [] := by rw [h0]; rfl
  rw [hd0] at k16
  obtain ⟨v, a1, dv2, cv2, x1, x2, k, rfl, hF⟩ := pb (hsB a _ _ hdv hcv) a ha9 _ _ hdv hcv (xM hs _ _) l.kind i hi e (by omega)
  rw [zz hs] at k
  have hM : rq a l (s6 a i e).2 a1 := .inr (.inr (.inr (.inr ⟨hk, h0, i, e, hi, he, hF⟩)))
  obtain ⟨a2, dv3, cv3, hA2, y1, y2, k43, al2⟩ := sp _ a1 dv2 cv2 x1 x2 hM
  generalize hW1 : (a1.mk' dv2 cv2).obj = W1 at *
  generalize hW2 : (a2.mk' dv3 cv3).obj = W2 at *
  clear sp hsB al
  subst hBe
  unfold AW.mk' zw.obj zw.cells zg.cells zA.cells zl.cells at *
  simp only [List.cons_append, List.nil_append] at *
  have F := an F0 (an e1 (an k16 (an i98 (an i100 (an lk (an hlen (an k (an k43 (eq_true al2)))))))))
  refine Ret.of wk ?_
  exact ⟨a2, dv3, cv3, _, y1, y2, by rw [zz hs, ← hW2], rfl, .inr ⟨a1, hM, hA2⟩⟩
 ·rcases (show a.ds = [] ∨ ∃ d r, a.ds = d :: r by cases a.ds with | nil => exact .inl rfl | cons d r => exact .inr ⟨d, r, rfl⟩) with h0 | ⟨d, r, h0⟩
  ·have k16 := rb a false 4
   unfold zD.cells at k16
   have hl0 : a.ds.length = 0 := by rw [h0]; rfl
   obtain ⟨v, a1, dv2, cv2, x1, x2, k, rfl, hF⟩ := pb (hsB a (.vs false (.own 51 false) 4 (zL a.ds)) _ hdv.stay hcv.stay) a ha9 (.vs false (.own 51 false) 4 (zL a.ds)) _ hdv.stay hcv.stay (xM hs _ _) l.kind i hi e (by omega)
   rw [zz hs] at k
   have hM : rq a l (s6 a i e).2 a1 := .inr (.inr (.inr (.inr ⟨hk, h0, i, e, hi, he, hF⟩)))
   obtain ⟨a2, dv3, cv3, hA2, y1, y2, k43, al2⟩ := sp _ a1 dv2 cv2 x1 x2 hM
   generalize hW1 : (a1.mk' dv2 cv2).obj = W1 at *
   generalize hW2 : (a2.mk' dv3 cv3).obj = W2 at *
   clear sp hsB al
   subst hBe
   unfold AW.mk' zw.obj zw.cells zg.cells zA.cells zl.cells at *
   simp only [List.cons_append, List.nil_append] at *
   have F := an F0 (an e1 (an k16 (an i98 (an i100 (an lk (an hlen (an hl0 (an k (an k43 (eq_true al2))))))))))
   refine Ret.of wk ?_
   exact ⟨a2, dv3, cv3, _, y1, y2, by rw [zz hs, ← hW2], rfl, .inr ⟨a1, hM, hA2⟩⟩
  ·have k16 := rb a false 4
   unfold zD.cells at k16
   have hl0 : a.ds.length = r.length + 1 := by rw [h0]; rfl
   have hl1 : (0 : Int) < a.ds.length := by omega
   have hl2 : ¬ ((a.ds.length : Int) = 0) := by omega
   have hl3 : ¬ (a.ds.length = 0) := by omega
   have hl4 : ¬ a.ds = [] := by rw [h0]; simp
   have hl5 : ((a.ds.length : Int) == 0) = false := by simpa using hl3
   have hl6 : 0 < a.ds.length := by omega
   have hM : rq a l false a := .inr (.inr (.inl ⟨hk, rfl, rfl⟩))
   obtain ⟨a2, dv3, cv3, hA2, y1, y2, k43, al2⟩ := sp _ a (.vs false (.own 51 false) 4 (zL a.ds)) (cv.stay) hdv.stay hcv.stay hM
   generalize hW2 : (a2.mk' dv3 cv3).obj = W2 at *
   clear sp hsB al
   subst hBe
   unfold AW.mk' zw.obj zw.cells zg.cells zA.cells zl.cells at *
   simp only [List.cons_append, List.nil_append] at *
   have F := an F0 (an e1 (an k16 (an i98 (an i100 (an lk (an hlen (an hl1 (an hl2 (an hl3 (an hl4 (an hl5 (an hl6 (an k43 (eq_true al2))))))))))))))
   refine Ret.of wk ?_
   exact ⟨a2, dv3, cv3, _, y1, y2, by rw [zz hs, ← hW2], rfl, .inr ⟨a, hM, hA2⟩⟩
end Go.Proofs.YtpfnlpakcldobaaGreat
namespace Go.Proofs.YtpfnlpakcldobaaGreat
open Go Go.L
theorem step_eq {N K : Nat} {st : List zt} (hs : xA N K st) (a : AW) (ha : a.ok 80000) (hn : ∀ i, 0 ≤ (a.link i).zT) (dv cv : LVal) (hdv : zK dv a.ds) (hcv : zN cv a.n) (hK : st[K]? = some (a.mk' dv cv).obj) (l : yp) (mv : LVal) (hm : MoveV l mv) (hw : Wb l.item.nil l.item.m l.item.data) :
 Leaves 38 [.ptr K 0, mv] st K (fun v a' => ∃ q : Bool, v = .bool q ∧ rS a l q a') := by
 suffices h : Ret D.W 38 [.ptr K 0, mv] st (fun v o => ∃ (a' : AW) (dv' cv' : LVal) (q : Bool), zK dv' a'.ds ∧ zN cv' a'.n ∧ o = some (st.set K (a'.mk' dv' cv').obj) ∧ v = .bool q ∧ rS a l q a') by
  obtain ⟨v, o, k, a', dv', cv', q, x1, x2, rfl, x3, x4⟩ := h
  exact ⟨v, a', dv', cv', x1, x2, k, q, x3, x4⟩
 rcases hm with rfl | ⟨rfl, hk, hp1, hp2, hxl⟩ | ⟨rfl, hk, hp1, hp2, hxl⟩ | ⟨i, e, rfl, hk, hi, he⟩
 ·exact step_nil hs a ha hn dv cv hdv hcv hK l hw
 ·exact step_sent hs a ha hn dv cv hdv hcv hK l hw hk hxl
 ·exact step_came hs a ha hn dv cv hdv hcv hK l hw hk hp1 hp2 hxl
 ·exact kK hs a ha hn dv cv hdv hcv hK l hw i e hk hi he
end Go.Proofs.YtpfnlpakcldobaaGreat
