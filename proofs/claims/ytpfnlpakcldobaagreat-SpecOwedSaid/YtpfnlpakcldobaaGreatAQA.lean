/- Texts of the proof: QA. -/
import Derived.Test.YtpfnlpakcldobaaGreatATbl
import Derived.Test.YtpfnlpakcldobaaGreatALF
import Derived.KernelRfl
set_option linter.unusedVariables false
set_option linter.unusedSimpArgs false
set_option linter.unusedSectionVars false
set_option maxRecDepth 1000000
namespace Go.Proofs.YtpfnlpakcldobaaGreat
open Go Go.L
def tX : List (List (Nat × List Nat × Bool)) := [
 [(0, [], false), (2, [], true), (0, [], false), (1, [3], true), (0, [], true), (0, [], false), (0, [], false), (0, [], false), (0, [], false), (0, [], false), (0, [], false), (0, [], false), (0, [], false), (0, [], false), (0, [], false), (0, [], false), (0, [], false)],
 [(0, [], false), (6, [5, 7], true), (0, [], false), (1, [], true), (0, [4], true), (0, [], false), (0, [], false), (0, [], false), (0, [], false), (0, [], false), (0, [], false), (0, [], false), (0, [], false), (0, [], false), (0, [], false), (0, [], false), (0, [], false)],
 [(0, [], false), (0, [], false), (0, [], true), (6, [5, 7], true), (2, [], true), (0, [], false), (0, [], false), (2, [11], true), (2, [11], true), (2, [11], true), (2, [11], true), (2, [11], true), (2, [], true), (2, [12], true), (2, [], true), (2, [4], true), (2, [], true)],
 [(0, [], false), (0, [], false), (1, [3], true), (3, [], true), (2, [], true), (0, [], false), (0, [], false), (8, [5, 7, 8], true), (6, [5, 7, 9], true), (3, [11], true), (3, [11], true), (3, [11], true), (3, [], true), (3, [12], true), (3, [], true), (3, [4], true), (3, [], true)],
 [(0, [], false), (0, [], false), (0, [], true), (5, [], true), (4, [], true), (4, [10], true), (2, [4], true), (4, [], true), (4, [], true), (4, [], true), (4, [], true), (4, [11], true), (2, [4], true), (4, [12], true), (4, [], true), (2, [4], true), (4, [], true)],
 [(0, [], false), (0, [], false), (1, [], true), (5, [], true), (4, [], true), (5, [10], true), (3, [4], true), (5, [], true), (5, [], true), (5, [], true), (5, [], true), (5, [11], true), (3, [4], true), (5, [12], true), (5, [], true), (3, [4], true), (5, [], true)],
 [(0, [], false), (0, [], false), (1, [], true), (6, [], true), (4, [5, 10], true), (6, [7], true), (3, [4], true), (8, [8], true), (6, [9], true), (7, [5], true), (6, [5, 7], true), (6, [11], true), (6, [], true), (6, [12], true), (6, [], true), (3, [4], true), (6, [], true)],
 [(0, [], false), (0, [], false), (1, [], true), (7, [], true), (4, [5, 10], true), (6, [7], true), (3, [4], true), (9, [8, 1], true), (7, [9], true), (6, [7], true), (6, [7], true), (6, [11], true), (6, [], true), (7, [12], true), (6, [], true), (3, [4], true), (7, [], true)],
 [(0, [], false), (0, [], false), (1, [], true), (8, [], true), (4, [5, 10], true), (8, [7], true), (3, [4], true), (8, [8], true), (6, [9], true), (9, [5, 1], true), (8, [5, 7], true), (6, [11], true), (8, [], true), (8, [12], true), (8, [], true), (3, [4], true), (8, [], true)],
 [(0, [], false), (0, [], false), (1, [2], true), (9, [], true), (4, [2, 5, 10], true), (0, [], false), (0, [], false), (8, [2, 7, 8], true), (6, [2, 7, 9], true), (6, [2, 7], true), (6, [2, 7], true), (5, [2, 6, 11], true), (6, [2, 7], true), (9, [12], true), (9, [], true), (5, [2, 5, 10], true), (9, [13], true)]]
def actsV (a : List Nat) : LVal := match a with
 | [] => .vs true .sh 0 []
 | _ => .vs false .sh 1 (a.map fun (n : Nat) => .int .i64 n)
def tk (r : Nat × List Nat × Bool) : LVal := .tup [.int .i64 r.1, actsV r.2.1, .bool r.2.2]
def look (s e : Nat) : Nat × List Nat × Bool := (tX.getD s []).getD e (0, [], false)
theorem look_row0 : (List.range 17).map (fun e : Nat => yG D.T 60 83 [.int .i64 0, .int .i64 e] []) = (tX.getD 0 []).map fun r => some (tk r, none) := by kernel_rfl
theorem look_row1 : (List.range 17).map (fun e : Nat => yG D.T 60 83 [.int .i64 1, .int .i64 e] []) = (tX.getD 1 []).map fun r => some (tk r, none) := by kernel_rfl
theorem look_row2 : (List.range 17).map (fun e : Nat => yG D.T 60 83 [.int .i64 2, .int .i64 e] []) = (tX.getD 2 []).map fun r => some (tk r, none) := by kernel_rfl
theorem look_row3 : (List.range 17).map (fun e : Nat => yG D.T 60 83 [.int .i64 3, .int .i64 e] []) = (tX.getD 3 []).map fun r => some (tk r, none) := by kernel_rfl
theorem look_row4 : (List.range 17).map (fun e : Nat => yG D.T 60 83 [.int .i64 4, .int .i64 e] []) = (tX.getD 4 []).map fun r => some (tk r, none) := by kernel_rfl
theorem look_row5 : (List.range 17).map (fun e : Nat => yG D.T 60 83 [.int .i64 5, .int .i64 e] []) = (tX.getD 5 []).map fun r => some (tk r, none) := by kernel_rfl
theorem look_row6 : (List.range 17).map (fun e : Nat => yG D.T 60 83 [.int .i64 6, .int .i64 e] []) = (tX.getD 6 []).map fun r => some (tk r, none) := by kernel_rfl
theorem look_row7 : (List.range 17).map (fun e : Nat => yG D.T 60 83 [.int .i64 7, .int .i64 e] []) = (tX.getD 7 []).map fun r => some (tk r, none) := by kernel_rfl
theorem look_row8 : (List.range 17).map (fun e : Nat => yG D.T 60 83 [.int .i64 8, .int .i64 e] []) = (tX.getD 8 []).map fun r => some (tk r, none) := by kernel_rfl
theorem look_row9 : (List.range 17).map (fun e : Nat => yG D.T 60 83 [.int .i64 9, .int .i64 e] []) = (tX.getD 9 []).map fun r => some (tk r, none) := by kernel_rfl
theorem uZ {s e : Nat} (hr : (List.range 17).map (fun e : Nat => yG D.T 60 83 [.int .i64 s, .int .i64 e] []) = (tX.getD s []).map fun r => some (tk r, none)) (he : e < 17) : zq D.T 83 [.int .i64 s, .int .i64 e] [] = some (tk (look s e), none) := by
 have h := congrArg (fun l : List (Option (LVal × Option (List zt))) => l[e]?) hr
 simp only [List.getElem?_map, List.getElem?_range he, Option.map_some] at h
 have hl : e < (tX.getD s []).length := by
  have := congrArg List.length hr
  simp only [List.length_map, List.length_range] at this
  omega
 rw [List.getElem?_eq_getElem hl, Option.map_some] at h
 injection h with h
 refine xJ.2 ⟨60, ?_⟩
 rw [h, look, List.getD_eq_getElem?_getD (l := tX.getD s []), List.getElem?_eq_getElem hl]
 rfl
theorem look_eq {s e : Nat} (hs : s < 10) (he : e < 17) : zq D.T 83 [.int .i64 s, .int .i64 e] [] = some (tk (look s e), none) := by
 match s, hs with
 | 0, _ => exact uZ look_row0 he
 | 1, _ => exact uZ look_row1 he
 | 2, _ => exact uZ look_row2 he
 | 3, _ => exact uZ look_row3 he
 | 4, _ => exact uZ look_row4 he
 | 5, _ => exact uZ look_row5 he
 | 6, _ => exact uZ look_row6 he
 | 7, _ => exact uZ look_row7 he
 | 8, _ => exact uZ look_row8 he
 | 9, _ => exact uZ look_row9 he
end Go.Proofs.YtpfnlpakcldobaaGreat
