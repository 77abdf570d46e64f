/- The interpreter's texts of this seat's functions, part C. -/
import Derived.Test.YtpfnlpakcldobaaGreatDumpB
set_option linter.unusedVariables false
namespace Go.Proofs.YtpfnlpakcldobaaGreat
open Go Go.L
namespace D
/-- slices.Chunk[[]byte,byte]$1 -/
def vm105 : List Nat := [0, 1, 2, 4, 5, 9, 30]
def b105_0 : LCode :=
  .fence [4, 5, 6] (
   .seq (
    .seq (
     .region 4 [⟨0, none, none, .mv (.var 3) true, false, []⟩,
       ⟨1, none, none, .load false 1 (.var 1) true, false, []⟩,
       ⟨2, none, none, .len 1 (.loc 1), false, []⟩,
       ⟨3, (some 5), none, .bin .lss (.loc 0) (.loc 2), false, []⟩] false) (
    .cond (.var 5) (
     .skip) (
     .exit 0))) (
   .seq (
    .block 1 (
     .seq (
      .region 7 [⟨0, none, none, .load false 1 (.var 2) false, false, []⟩,
        ⟨1, none, none, .load false 1 (.var 1) false, false, []⟩,
        ⟨2, none, none, .mv (.var 3) false, false, []⟩,
        ⟨3, none, none, .sliceVs 1 (.loc 1) (some (.loc 2)) none none, false, []⟩,
        ⟨4, none, none, .len 1 (.loc 3), false, []⟩,
        ⟨5, none, none, .minmax false (.loc 0) [(.loc 4)], false, []⟩,
        ⟨6, (some 4), none, .asg (.loc 5), false, []⟩] true) (
     .seq (
      .region 12 [⟨0, none, none, .mv (.var 0) false, false, []⟩,
        ⟨1, none, none, .load false 1 (.var 1) false, false, []⟩,
        ⟨2, none, none, .mv (.var 3) false, false, []⟩,
        ⟨3, none, none, .mv (.var 3) true, false, []⟩,
        ⟨4, none, none, .mv (.var 4) true, false, []⟩,
        ⟨5, none, none, .bin .add (.loc 3) (.loc 4), false, []⟩,
        ⟨6, none, none, .mv (.var 3) true, false, []⟩,
        ⟨7, none, none, .mv (.var 4) true, false, []⟩,
        ⟨8, none, none, .bin .add (.loc 6) (.loc 7), false, []⟩,
        ⟨9, none, none, .sliceVs 1 (.loc 1) (some (.loc 2)) (some (.loc 5)) (some (.loc 8)), false, []⟩,
        ⟨10, none, none, .callv (.loc 0) [(.loc 9)], false, []⟩,
        ⟨11, (some 6), none, .un .not (.loc 10), false, []⟩] false) (
     .cond (.var 6) (
      .ret) (
      .skip))))) (
   .region 4 [⟨0, none, none, .mv (.var 3) true, false, []⟩,
     ⟨1, none, none, .load false 1 (.var 2) true, false, []⟩,
     ⟨2, none, none, .bin .add (.loc 0) (.loc 1), false, []⟩,
     ⟨3, (some 3), none, .asg (.loc 2), false, []⟩] false)))
def c105 : LCode :=
  .seq (
   .region 1 [⟨0, (some 3), none, .asg (.const (.int .i64 0)), false, []⟩] false) (
  .fence [0, 1, 2, 3, 4, 5, 6] (
   .block 0 (
    .loop b105_0)))
def l105 : LFun := ⟨3, [(some 0), (some 1), (some 2), none, none, none, none], c105, [], .trim⟩
/-- umpire/terms.readers -/
def vm157 : List Nat := [0]
def c157 : LCode :=
  .seq (
   .region 1 [⟨0, (some 0), none, .asg (.const .nilmap), false, []⟩] false) (
  .seq (
   .region 10 [⟨0, none, none, .mkMap, false, []⟩,
     ⟨1, (some 1), none, .mapUpdate (.i .i64) (.loc 0) (.const (.int .i64 1)) (.const (.func 158 [])), false, []⟩,
     ⟨2, (some 1), none, .mapUpdate (.i .i64) (.loc 0) (.const (.int .i64 2)) (.const (.func 160 [])), false, []⟩,
     ⟨3, (some 1), none, .mapUpdate (.i .i64) (.loc 0) (.const (.int .i64 3)) (.const (.func 162 [])), false, []⟩,
     ⟨4, (some 1), none, .mapUpdate (.i .i64) (.loc 0) (.const (.int .i64 4)) (.const (.func 163 [])), false, []⟩,
     ⟨5, (some 1), none, .mapUpdate (.i .i64) (.loc 0) (.const (.int .i64 5)) (.const (.func 164 [])), false, []⟩,
     ⟨6, (some 1), none, .mapUpdate (.i .i64) (.loc 0) (.const (.int .i64 7)) (.const (.func 165 [])), false, []⟩,
     ⟨7, (some 1), none, .mapUpdate (.i .i64) (.loc 0) (.const (.int .i64 8)) (.const (.func 166 [])), false, []⟩,
     ⟨8, none, none, .mv (.loc 0) false, false, []⟩,
     ⟨9, (some 0), none, .asg (.loc 8), false, []⟩] false) (
  .ret))
def l157 : LFun := ⟨0, [none], c157, [.var 0], .keep⟩
/-- umpire/terms.readers$1 -/
def vm158 : List Nat := [0, 1, 4, 5, 6]
def c158 : LCode :=
  .seq (
   .region 1 [⟨0, (some 2), none, .asg (.const (.bool false)), false, []⟩] false) (
  .seq (
   .region 7 [⟨0, none, none, .mv (.var 1) false, false, []⟩,
     ⟨1, none, none, .callp 159 [(.loc 0), (.const (.int .i64 2))], false, []⟩,
     ⟨2, none, none, .mv (.loc 1) false, false, []⟩,
     ⟨3, none, none, .extract (.loc 2) 0, false, []⟩,
     ⟨4, none, none, .extract (.loc 2) 1, false, []⟩,
     ⟨5, (some 3), none, .asg (.loc 3), false, []⟩,
     ⟨6, (some 4), none, .asg (.loc 4), false, []⟩] false) (
  .seq (
   .region 10 [⟨0, none, none, .mv (.var 0) true, false, []⟩,
     ⟨1, none, none, .mv (.var 0) true, false, []⟩,
     ⟨2, none, none, .mv (.var 3) true, false, []⟩,
     ⟨3, none, none, .cvInt .i64 (.loc 2), false, []⟩,
     ⟨4, none, none, .nilCheck (.loc 0), false, []⟩,
     ⟨5, none, none, .fieldAddr 0 1 false (.loc 4), false, []⟩,
     ⟨6, (some 5), none, .store 1 (.loc 5) (.const (.bool true)), false, []⟩,
     ⟨7, none, none, .nilCheck (.loc 1), false, []⟩,
     ⟨8, none, none, .fieldAddr 1 1 false (.loc 7), false, []⟩,
     ⟨9, (some 5), none, .store 1 (.loc 8) (.loc 3), false, []⟩] false) (
  .seq (
   .region 2 [⟨0, none, none, .mv (.var 4) false, false, []⟩,
     ⟨1, (some 2), none, .asg (.loc 0), false, []⟩] false) (
  .ret))))
def l158 : LFun := ⟨2, [(some 0), (some 1), none, none, none], c158, [.var 2], .trim⟩
/-- umpire/terms.readers$2 -/
def vm160 : List Nat := [0, 1, 4, 5, 6]
def c160 : LCode :=
  .seq (
   .region 1 [⟨0, (some 2), none, .asg (.const (.bool false)), false, []⟩] false) (
  .seq (
   .region 7 [⟨0, none, none, .mv (.var 1) false, false, []⟩,
     ⟨1, none, none, .callp 161 [(.loc 0)], false, []⟩,
     ⟨2, none, none, .mv (.loc 1) false, false, []⟩,
     ⟨3, none, none, .extract (.loc 2) 0, false, []⟩,
     ⟨4, none, none, .extract (.loc 2) 1, false, []⟩,
     ⟨5, (some 3), none, .asg (.loc 3), false, []⟩,
     ⟨6, (some 4), none, .asg (.loc 4), false, []⟩] false) (
  .seq (
   .region 9 [⟨0, none, none, .mv (.var 0) true, false, []⟩,
     ⟨1, none, none, .mv (.var 0) true, false, []⟩,
     ⟨2, none, none, .mv (.var 3) false, false, []⟩,
     ⟨3, none, none, .nilCheck (.loc 0), false, []⟩,
     ⟨4, none, none, .fieldAddr 2 1 false (.loc 3), false, []⟩,
     ⟨5, (some 5), none, .store 1 (.loc 4) (.const (.bool true)), false, []⟩,
     ⟨6, none, none, .nilCheck (.loc 1), false, []⟩,
     ⟨7, none, none, .fieldAddr 3 1 false (.loc 6), false, []⟩,
     ⟨8, (some 5), none, .store 1 (.loc 7) (.loc 2), false, []⟩] false) (
  .seq (
   .region 2 [⟨0, none, none, .mv (.var 4) false, false, []⟩,
     ⟨1, (some 2), none, .asg (.loc 0), false, []⟩] false) (
  .ret))))
def l160 : LFun := ⟨2, [(some 0), (some 1), none, none, none], c160, [.var 2], .trim⟩
/-- umpire/terms.readers$3 -/
def vm162 : List Nat := [0, 1, 4]
def c162 : LCode :=
  .seq (
   .region 1 [⟨0, (some 2), none, .asg (.const (.bool false)), false, []⟩] false) (
  .seq (
   .region 6 [⟨0, none, none, .mv (.var 0) true, false, []⟩,
     ⟨1, none, none, .mv (.var 1) false, false, []⟩,
     ⟨2, none, none, .callp 156 [(.loc 1)], false, []⟩,
     ⟨3, none, none, .nilCheck (.loc 0), false, []⟩,
     ⟨4, none, none, .fieldAddr 4 1 false (.loc 3), false, []⟩,
     ⟨5, (some 3), none, .store 1 (.loc 4) (.loc 2), false, []⟩] false) (
  .seq (
   .region 6 [⟨0, none, none, .mv (.var 0) true, false, []⟩,
     ⟨1, none, none, .nilCheck (.loc 0), false, []⟩,
     ⟨2, none, none, .fieldAddr 4 1 false (.loc 1), false, []⟩,
     ⟨3, none, none, .load false 1 (.loc 2) true, false, []⟩,
     ⟨4, none, none, .bin .neq (.loc 3) (.const (.int .i64 0)), false, []⟩,
     ⟨5, (some 2), none, .asg (.loc 4), false, []⟩] false) (
  .ret)))
def l162 : LFun := ⟨2, [(some 0), (some 1), none], c162, [.var 2], .trim⟩
/-- umpire/terms.readers$4 -/
def vm163 : List Nat := [0, 1, 4]
def c163 : LCode :=
  .seq (
   .region 1 [⟨0, (some 2), none, .asg (.const (.bool false)), false, []⟩] false) (
  .seq (
   .region 4 [⟨0, none, none, .mv (.var 0) true, false, []⟩,
     ⟨1, none, none, .nilCheck (.loc 0), false, []⟩,
     ⟨2, none, none, .fieldAddr 5 1 false (.loc 1), false, []⟩,
     ⟨3, (some 3), none, .store 1 (.loc 2) (.const (.bool true)), false, []⟩] false) (
  .seq (
   .region 4 [⟨0, none, none, .mv (.var 1) true, false, []⟩,
     ⟨1, none, none, .len 1 (.loc 0), false, []⟩,
     ⟨2, none, none, .bin .geq (.loc 1) (.const (.int .i64 2)), false, []⟩,
     ⟨3, (some 2), none, .asg (.loc 2), false, []⟩] false) (
  .ret)))
def l163 : LFun := ⟨2, [(some 0), (some 1), none], c163, [.var 2], .trim⟩
/-- umpire/terms.readers$5 -/
def vm164 : List Nat := [0, 1, 4, 5, 6]
def c164 : LCode :=
  .seq (
   .region 1 [⟨0, (some 2), none, .asg (.const (.bool false)), false, []⟩] false) (
  .seq (
   .region 7 [⟨0, none, none, .mv (.var 1) false, false, []⟩,
     ⟨1, none, none, .callp 159 [(.loc 0), (.const (.int .i64 4))], false, []⟩,
     ⟨2, none, none, .mv (.loc 1) false, false, []⟩,
     ⟨3, none, none, .extract (.loc 2) 0, false, []⟩,
     ⟨4, none, none, .extract (.loc 2) 1, false, []⟩,
     ⟨5, (some 3), none, .asg (.loc 3), false, []⟩,
     ⟨6, (some 4), none, .asg (.loc 4), false, []⟩] false) (
  .seq (
   .region 10 [⟨0, none, none, .mv (.var 0) true, false, []⟩,
     ⟨1, none, none, .mv (.var 0) true, false, []⟩,
     ⟨2, none, none, .mv (.var 3) true, false, []⟩,
     ⟨3, none, none, .cvInt .u32 (.loc 2), false, []⟩,
     ⟨4, none, none, .nilCheck (.loc 0), false, []⟩,
     ⟨5, none, none, .fieldAddr 6 1 false (.loc 4), false, []⟩,
     ⟨6, (some 5), none, .store 1 (.loc 5) (.const (.bool true)), false, []⟩,
     ⟨7, none, none, .nilCheck (.loc 1), false, []⟩,
     ⟨8, none, none, .fieldAddr 7 1 false (.loc 7), false, []⟩,
     ⟨9, (some 5), none, .store 1 (.loc 8) (.loc 3), false, []⟩] false) (
  .seq (
   .region 6 [⟨0, none, none, .mv (.var 4) false, false, []⟩,
     ⟨1, none, none, .mv (.loc 0) false, false, []⟩,
     ⟨2, none, (some ((.loc 1), true)), .mv (.var 3) true, false, []⟩,
     ⟨3, none, (some ((.loc 1), true)), .bin .neq (.loc 2) (.const (.int .u64 0)), false, []⟩,
     ⟨4, none, none, .pick (.loc 1) (.loc 3) (.const (.bool false)), false, []⟩,
     ⟨5, (some 2), none, .asg (.loc 4), false, []⟩] false) (
  .ret))))
def l164 : LFun := ⟨2, [(some 0), (some 1), none, none, none], c164, [.var 2], .trim⟩
/-- umpire/terms.readers$6 -/
def vm165 : List Nat := [0, 1, 4]
def c165 : LCode :=
  .seq (
   .region 1 [⟨0, (some 2), none, .asg (.const (.bool false)), false, []⟩] false) (
  .seq (
   .region 4 [⟨0, none, none, .mv (.var 0) true, false, []⟩,
     ⟨1, none, none, .nilCheck (.loc 0), false, []⟩,
     ⟨2, none, none, .fieldAddr 8 1 false (.loc 1), false, []⟩,
     ⟨3, (some 3), none, .store 1 (.loc 2) (.const (.bool true)), false, []⟩] false) (
  .seq (
   .region 4 [⟨0, none, none, .mv (.var 1) true, false, []⟩,
     ⟨1, none, none, .len 1 (.loc 0), false, []⟩,
     ⟨2, none, none, .bin .eql (.loc 1) (.const (.int .i64 0)), false, []⟩,
     ⟨3, (some 2), none, .asg (.loc 2), false, []⟩] false) (
  .ret)))
def l165 : LFun := ⟨2, [(some 0), (some 1), none], c165, [.var 2], .trim⟩
/-- umpire/terms.readers$7 -/
def vm166 : List Nat := [0, 1, 4]
def c166 : LCode :=
  .seq (
   .region 1 [⟨0, (some 2), none, .asg (.const (.bool false)), false, []⟩] false) (
  .seq (
   .region 4 [⟨0, none, none, .mv (.var 0) true, false, []⟩,
     ⟨1, none, none, .nilCheck (.loc 0), false, []⟩,
     ⟨2, none, none, .fieldAddr 9 1 false (.loc 1), false, []⟩,
     ⟨3, (some 3), none, .store 1 (.loc 2) (.const (.bool true)), false, []⟩] false) (
  .seq (
   .region 4 [⟨0, none, none, .mv (.var 1) true, false, []⟩,
     ⟨1, none, none, .len 1 (.loc 0), false, []⟩,
     ⟨2, none, none, .bin .eql (.loc 1) (.const (.int .i64 0)), false, []⟩,
     ⟨3, (some 2), none, .asg (.loc 2), false, []⟩] false) (
  .ret)))
def l166 : LFun := ⟨2, [(some 0), (some 1), none], c166, [.var 2], .trim⟩
/-- umpire/terms.number -/
def vm159 : List Nat := [0, 1, 4, 5, 9]
def c159 : LCode :=
  .seq (
   .region 2 [⟨0, (some 2), none, .asg (.const (.int .u64 0)), false, []⟩,
     ⟨1, (some 3), none, .asg (.const (.bool false)), false, []⟩] false) (
  .seq (
   .seq (
    .region 4 [⟨0, none, none, .mv (.var 0) true, false, []⟩,
      ⟨1, none, none, .len 1 (.loc 0), false, []⟩,
      ⟨2, none, none, .mv (.var 1) true, false, []⟩,
      ⟨3, (some 4), none, .bin .neq (.loc 1) (.loc 2), false, []⟩] false) (
   .cond (.var 4) (
    .seq (
     .region 2 [⟨0, (some 2), none, .asg (.const (.int .u64 0)), false, []⟩,
       ⟨1, (some 3), none, .asg (.const (.bool false)), false, []⟩] false) (
    .ret)) (
    .skip))) (
  .seq (
   .region 6 [⟨0, none, none, .mv (.var 0) false, false, []⟩,
     ⟨1, none, none, .callp 80 [(.loc 0), (.const (.bool true))], false, []⟩,
     ⟨2, none, none, .extract (.loc 1) 0, false, []⟩,
     ⟨3, none, none, .extract (.loc 1) 1, false, []⟩,
     ⟨4, (some 2), none, .asg (.loc 2), false, []⟩,
     ⟨5, (some 3), none, .asg (.loc 3), false, []⟩] false) (
  .ret)))
def l159 : LFun := ⟨2, [(some 0), (some 1), none, none, none], c159, [.var 2, .var 3], .pure⟩
/-- umpire/accm.Get -/
def vm161 : List Nat := [0, 2, 3, 4, 5, 8]
def c161 : LCode :=
  .seq (
   .region 2 [⟨0, (some 1), none, .asg (.const (.int .u32 0)), false, []⟩,
     ⟨1, (some 2), none, .asg (.const (.bool false)), false, []⟩] false) (
  .seq (
   .seq (
    .region 3 [⟨0, none, none, .mv (.var 0) true, false, []⟩,
      ⟨1, none, none, .len 1 (.loc 0), false, []⟩,
      ⟨2, (some 5), none, .bin .neq (.loc 1) (.const (.int .i64 4)), false, []⟩] false) (
   .cond (.var 5) (
    .seq (
     .region 2 [⟨0, (some 1), none, .asg (.const (.int .u32 0)), false, []⟩,
       ⟨1, (some 2), none, .asg (.const (.bool false)), false, []⟩] false) (
    .ret)) (
    .skip))) (
  .seq (
   .region 7 [⟨0, none, none, .mv (.var 0) false, false, []⟩,
     ⟨1, none, none, .callp 80 [(.loc 0), (.const (.bool true))], false, []⟩,
     ⟨2, none, none, .mv (.loc 1) false, false, []⟩,
     ⟨3, none, none, .extract (.loc 2) 0, false, []⟩,
     ⟨4, none, none, .extract (.loc 2) 1, false, []⟩,
     ⟨5, (some 3), none, .asg (.loc 3), false, []⟩,
     ⟨6, (some 4), none, .asg (.loc 4), false, []⟩] false) (
  .seq (
   .region 5 [⟨0, none, none, .mv (.var 3) true, false, []⟩,
     ⟨1, none, none, .cvInt .u32 (.loc 0), false, []⟩,
     ⟨2, none, none, .mv (.var 4) false, false, []⟩,
     ⟨3, (some 1), none, .asg (.loc 1), false, []⟩,
     ⟨4, (some 2), none, .asg (.loc 2), false, []⟩] false) (
  .ret))))
def l161 : LFun := ⟨1, [(some 0), none, none, none, none, none], c161, [.var 1, .var 2], .pure⟩
end D
end Go.Proofs.YtpfnlpakcldobaaGreat
