/- The interpreter's texts of this seat's functions. -/
import Derived.Test.YtbljgbojkifoiaaKLG
set_option linter.unusedVariables false
namespace Go.Proofs.Ytbljgbojkifoiaa
open Go Go.L
namespace D
/-- umpire/umpirelaw23.SetsKeeps -/
def vm7 : List Nat := [0, 1, 4, 5, 6, 7, 8, 9, 10, 11, 12, 24, 48, 55, 65]
def b7_0 : LCode :=
  .fence [0, 1, 2, 10, 11, 12, 13, 14] (
   .seq (
    .seq (
     .region 4 [⟨0, none, none, .mv (.var 9) true, false, []⟩,
       ⟨1, none, none, .mv (.var 7) true, false, []⟩,
       ⟨2, none, none, .len 1 (.loc 1), false, []⟩,
       ⟨3, (some 13), none, .bin .lss (.loc 0) (.loc 2), false, []⟩] false) (
    .cond (.var 13) (
     .skip) (
     .exit 0))) (
   .seq (
    .block 1 (
     .region 5 [⟨0, none, none, .mv (.var 7) false, false, []⟩,
       ⟨1, none, none, .mv (.var 9) false, false, []⟩,
       ⟨2, none, none, .build [(.int .i64 0), (.int .i64 0), (.int .i64 0), (.bool false), (.bool false), (.int .i64 0), (.str []), (.int .i64 0), (.int .i64 0), (.int .i64 0), (.bool false), (.bool false), (.int .i64 0), (.str []), (.int .i64 0), (.int .i64 0), (.int .i64 0), (.bool false), (.bool false), (.int .i64 0), (.str []), (.int .i64 0), (.int .i64 0), (.bool false), (.bool false), (.bool false), (.int .i64 0), (.str []), (.bool false), (.int .i64 0), (.vs true .sh 0 [])] [], false, []⟩,
       ⟨3, none, none, .idxAddrVs 31 (.loc 0) (.loc 1), false, []⟩,
       ⟨4, (some 15), none, .store 31 (.loc 3) (.loc 2), false, []⟩] false)) (
   .region 3 [⟨0, none, none, .mv (.var 9) true, false, []⟩,
     ⟨1, none, none, .bin .add (.loc 0) (.const (.int .i64 1)), false, []⟩,
     ⟨2, (some 9), none, .asg (.loc 1), false, []⟩] false)))
def b7_1 : LCode :=
  .fence [0, 1, 2, 7, 9, 11, 12, 13, 14] (
   .seq (
    .seq (
     .region 4 [⟨0, none, none, .mv (.var 10) true, false, []⟩,
       ⟨1, none, none, .mv (.var 3) true, false, []⟩,
       ⟨2, none, none, .len 1 (.loc 1), false, []⟩,
       ⟨3, (some 14), none, .bin .lss (.loc 0) (.loc 2), false, []⟩] false) (
    .cond (.var 14) (
     .skip) (
     .exit 2))) (
   .seq (
    .block 3 (
     .region 5 [⟨0, none, none, .mv (.var 3) false, false, []⟩,
       ⟨1, none, none, .mv (.var 10) false, false, []⟩,
       ⟨2, none, none, .build [(.int .i64 0), (.int .i64 0), (.int .i64 0), (.bool false), (.bool false), (.int .i64 0), (.str []), (.int .i64 0), (.int .i64 0), (.int .i64 0), (.bool false), (.bool false), (.int .i64 0), (.str []), (.int .i64 0), (.int .i64 0), (.int .i64 0), (.bool false), (.bool false), (.int .i64 0), (.str []), (.int .i64 0), (.int .i64 0), (.bool false), (.bool false), (.bool false), (.int .i64 0), (.str []), (.bool false), (.int .i64 0), (.vs true .sh 0 [])] [], false, []⟩,
       ⟨3, none, none, .idxAddrVs 31 (.loc 0) (.loc 1), false, []⟩,
       ⟨4, (some 15), none, .store 31 (.loc 3) (.loc 2), false, []⟩] false)) (
   .region 3 [⟨0, none, none, .mv (.var 10) true, false, []⟩,
     ⟨1, none, none, .bin .add (.loc 0) (.const (.int .i64 1)), false, []⟩,
     ⟨2, (some 10), none, .asg (.loc 1), false, []⟩] false)))
def c7 : LCode :=
  .seq (
   .region 1 [⟨0, (some 2), none, .asg (.const (.bool false)), false, []⟩] false) (
  .seq (
   .seq (
    .region 12 [⟨0, none, none, .callp 8 [], false, []⟩,
      ⟨1, none, none, .un .not (.loc 0), false, []⟩,
      ⟨2, none, none, .mv (.loc 1) false, false, []⟩,
      ⟨3, none, (some ((.loc 2), false)), .mv (.var 0) false, false, []⟩,
      ⟨4, none, (some ((.loc 2), false)), .callp 9 [(.loc 3)], false, []⟩,
      ⟨5, none, (some ((.loc 2), false)), .un .not (.loc 4), false, []⟩,
      ⟨6, none, none, .pick (.loc 2) (.const (.bool true)) (.loc 5), false, []⟩,
      ⟨7, none, none, .mv (.loc 6) false, false, []⟩,
      ⟨8, none, (some ((.loc 7), false)), .mv (.var 1) false, false, []⟩,
      ⟨9, none, (some ((.loc 7), false)), .callp 9 [(.loc 8)], false, []⟩,
      ⟨10, none, (some ((.loc 7), false)), .un .not (.loc 9), false, []⟩,
      ⟨11, (some 11), none, .pick (.loc 7) (.const (.bool true)) (.loc 10), false, []⟩] false) (
   .cond (.var 11) (
    .seq (
     .region 2 [⟨0, none, none, .callp 8 [], false, []⟩,
       ⟨1, (some 2), none, .asg (.loc 0), false, []⟩] false) (
    .ret)) (
    .skip))) (
  .seq (
   .region 4 [⟨0, none, none, .mkslice (.agg [(.int .i64 0), (.int .i64 0), (.int .i64 0), (.bool false), (.bool false), (.int .i64 0), (.str []), (.int .i64 0), (.int .i64 0), (.int .i64 0), (.bool false), (.bool false), (.int .i64 0), (.str []), (.int .i64 0), (.int .i64 0), (.int .i64 0), (.bool false), (.bool false), (.int .i64 0), (.str []), (.int .i64 0), (.int .i64 0), (.bool false), (.bool false), (.bool false), (.int .i64 0), (.str []), (.bool false), (.int .i64 0), (.vs true .sh 0 [])]) 31 0 [], false, []⟩,
     ⟨1, none, none, .mv (.var 0) true, false, []⟩,
     ⟨2, none, none, .append 31 31 256 (.loc 0) (.loc 1), false, []⟩,
     ⟨3, (some 3), none, .asgT (.loc 2) 31 true, false, []⟩] false) (
  .seq (
   .region 3 [⟨0, none, none, .mv (.var 3) false, false, []⟩,
     ⟨1, none, none, .call 15 [(.loc 0)], false, []⟩,
     ⟨2, (some 4), none, .asg (.loc 1), false, []⟩] false) (
  .seq (
   .region 3 [⟨0, none, none, .mv (.var 1) false, false, []⟩,
     ⟨1, none, none, .callp 13 [(.loc 0)], false, []⟩,
     ⟨2, (some 5), none, .asg (.loc 1), false, []⟩] false) (
  .seq (
   .region 4 [⟨0, none, none, .mkslice (.agg [(.int .i64 0), (.int .i64 0), (.int .i64 0), (.bool false), (.bool false), (.int .i64 0), (.str []), (.int .i64 0), (.int .i64 0), (.int .i64 0), (.bool false), (.bool false), (.int .i64 0), (.str []), (.int .i64 0), (.int .i64 0), (.int .i64 0), (.bool false), (.bool false), (.int .i64 0), (.str []), (.int .i64 0), (.int .i64 0), (.bool false), (.bool false), (.bool false), (.int .i64 0), (.str []), (.bool false), (.int .i64 0), (.vs true .sh 0 [])]) 31 0 [], false, []⟩,
     ⟨1, none, none, .mv (.var 5) true, false, []⟩,
     ⟨2, none, none, .append 31 31 256 (.loc 0) (.loc 1), false, []⟩,
     ⟨3, (some 6), none, .asg (.loc 2), false, []⟩] false) (
  .seq (
   .region 4 [⟨0, none, none, .mv (.var 5) false, false, []⟩,
     ⟨1, none, none, .mv (.var 4) false, false, []⟩,
     ⟨2, none, none, .callp 17 [(.loc 0), (.loc 1)], false, []⟩,
     ⟨3, (some 7), none, .asgT (.loc 2) 31 true, false, []⟩] false) (
  .seq (
   .seq (
    .region 10 [⟨0, none, none, .mv (.var 3) false, false, []⟩,
      ⟨1, none, none, .mv (.var 0) false, false, []⟩,
      ⟨2, none, none, .call 14 [(.loc 0), (.loc 1)], false, []⟩,
      ⟨3, none, none, .un .not (.loc 2), false, []⟩,
      ⟨4, none, none, .mv (.loc 3) false, false, []⟩,
      ⟨5, none, (some ((.loc 4), false)), .mv (.var 5) false, false, []⟩,
      ⟨6, none, (some ((.loc 4), false)), .mv (.var 6) false, false, []⟩,
      ⟨7, none, (some ((.loc 4), false)), .call 14 [(.loc 5), (.loc 6)], false, []⟩,
      ⟨8, none, (some ((.loc 4), false)), .un .not (.loc 7), false, []⟩,
      ⟨9, (some 12), none, .pick (.loc 4) (.const (.bool true)) (.loc 8), false, []⟩] false) (
   .cond (.var 12) (
    .seq (
     .region 1 [⟨0, (some 2), none, .asg (.const (.bool false)), false, []⟩] false) (
    .ret)) (
    .skip))) (
  .seq (
   .region 4 [⟨0, none, none, .mkslice (.agg [(.int .i64 0), (.int .i64 0), (.int .i64 0), (.bool false), (.bool false), (.int .i64 0), (.str []), (.int .i64 0), (.int .i64 0), (.int .i64 0), (.bool false), (.bool false), (.int .i64 0), (.str []), (.int .i64 0), (.int .i64 0), (.int .i64 0), (.bool false), (.bool false), (.int .i64 0), (.str []), (.int .i64 0), (.int .i64 0), (.bool false), (.bool false), (.bool false), (.int .i64 0), (.str []), (.bool false), (.int .i64 0), (.vs true .sh 0 [])]) 31 0 [], false, []⟩,
     ⟨1, none, none, .mv (.var 4) true, false, []⟩,
     ⟨2, none, none, .append 31 31 256 (.loc 0) (.loc 1), false, []⟩,
     ⟨3, (some 8), none, .asg (.loc 2), false, []⟩] false) (
  .seq (
   .seq (
    .region 1 [⟨0, (some 9), none, .asg (.const (.int .i64 0)), false, []⟩] false) (
   .fence [0, 1, 2, 7, 9, 10, 11, 12, 13, 14] (
    .block 0 (
     .loop b7_0)))) (
  .seq (
   .seq (
    .region 1 [⟨0, (some 10), none, .asg (.const (.int .i64 0)), false, []⟩] false) (
   .fence [0, 1, 2, 3, 7, 9, 10, 11, 12, 13, 14] (
    .block 2 (
     .loop b7_1)))) (
  .seq (
   .region 9 [⟨0, none, none, .mv (.var 4) false, false, []⟩,
     ⟨1, none, none, .mv (.var 8) false, false, []⟩,
     ⟨2, none, none, .call 14 [(.loc 0), (.loc 1)], false, []⟩,
     ⟨3, none, none, .mv (.loc 2) false, false, []⟩,
     ⟨4, none, (some ((.loc 3), true)), .mv (.var 5) false, false, []⟩,
     ⟨5, none, (some ((.loc 3), true)), .mv (.var 6) false, false, []⟩,
     ⟨6, none, (some ((.loc 3), true)), .call 14 [(.loc 4), (.loc 5)], false, []⟩,
     ⟨7, none, none, .pick (.loc 3) (.loc 6) (.const (.bool false)), false, []⟩,
     ⟨8, (some 2), none, .asg (.loc 7), false, []⟩] false) (
  .ret))))))))))))
def l7 : LFun := ⟨2, [(some 0), (some 1), none, none, none, none, none, none, none, none, none, none, none, none, none], c7, [.var 2], .pure⟩
/-- umpire/umpirelaw23.awake -/
def vm8 : List Nat := [0, 1, 2, 3, 4]
def r8_0 : LCode :=
  .region 48 [⟨0, none, none, .mv (.var 3) true, false, []⟩,
    ⟨1, none, none, .len 0 (.loc 0), false, []⟩,
    ⟨2, none, none, .bin .gtr (.loc 1) (.const (.int .i64 14)), false, []⟩,
    ⟨3, none, none, .mv (.loc 2) false, false, []⟩,
    ⟨4, none, (some ((.loc 3), true)), .mv (.var 3) false, false, []⟩,
    ⟨5, none, (some ((.loc 3), true)), .sliceStr (.loc 4) none (some (.const (.int .i64 14))), false, []⟩,
    ⟨6, none, (some ((.loc 3), true)), .bin .eql (.loc 5) (.const (.str [48, 44, 48, 44, 48, 44, 48, 44, 48, 44, 48, 44, 44, 48])), false, []⟩,
    ⟨7, none, none, .pick (.loc 3) (.loc 6) (.const (.bool false)), false, []⟩,
    ⟨8, none, none, .mv (.loc 7) false, false, []⟩,
    ⟨9, none, (some ((.loc 8), true)), .load true 31 (.var 2) false, false, []⟩,
    ⟨10, none, (some ((.loc 8), true)), .callp 10 [(.loc 9)], false, []⟩,
    ⟨11, none, (some ((.loc 8), true)), .bin .eql (.loc 10) (.const (.str [48, 44, 48, 44, 48, 44, 48, 44, 48, 44, 48, 44, 44, 48, 44, 48, 44, 48, 44, 48, 44, 48, 44, 48, 44, 44, 48, 44, 48, 44, 48, 44, 48, 44, 48, 44, 48, 44, 44, 48, 44, 48, 44, 48, 44, 48, 44, 48, 44, 45, 53, 44, 44, 48, 44, 48, 44, 49, 44, 50, 44, 48, 44, 48, 44, 55, 97, 44])), false, []⟩,
    ⟨12, none, none, .pick (.loc 8) (.loc 11) (.const (.bool false)), false, []⟩,
    ⟨13, none, none, .mv (.loc 12) false, false, []⟩,
    ⟨14, none, (some ((.loc 13), true)), .mv (.var 4) true, false, []⟩,
    ⟨15, none, (some ((.loc 13), true)), .len 1 (.loc 14), false, []⟩,
    ⟨16, none, (some ((.loc 13), true)), .bin .eql (.loc 15) (.const (.int .i64 2)), false, []⟩,
    ⟨17, none, none, .pick (.loc 13) (.loc 16) (.const (.bool false)), false, []⟩,
    ⟨18, none, none, .mv (.loc 17) false, false, []⟩,
    ⟨19, none, (some ((.loc 18), true)), .mv (.var 4) false, false, []⟩,
    ⟨20, none, (some ((.loc 18), true)), .callp 16 [(.loc 19)], false, []⟩,
    ⟨21, none, none, .pick (.loc 18) (.loc 20) (.const (.bool false)), false, []⟩,
    ⟨22, none, none, .mv (.loc 21) false, false, []⟩,
    ⟨23, none, (some ((.loc 22), true)), .load true 31 (.var 1) false, false, []⟩,
    ⟨24, none, (some ((.loc 22), true)), .load true 31 (.var 1) false, false, []⟩,
    ⟨25, none, (some ((.loc 22), true)), .mkslice (.agg [(.int .i64 0), (.int .i64 0), (.int .i64 0), (.bool false), (.bool false), (.int .i64 0), (.str []), (.int .i64 0), (.int .i64 0), (.int .i64 0), (.bool false), (.bool false), (.int .i64 0), (.str []), (.int .i64 0), (.int .i64 0), (.int .i64 0), (.bool false), (.bool false), (.int .i64 0), (.str []), (.int .i64 0), (.int .i64 0), (.bool false), (.bool false), (.bool false), (.int .i64 0), (.str []), (.bool false), (.int .i64 0), (.vs true .sh 0 [])]) 31 2 [(0, (.loc 23)), (1, (.loc 24))], false, []⟩,
    ⟨26, none, (some ((.loc 22), true)), .callp 16 [(.loc 25)], false, []⟩,
    ⟨27, none, (some ((.loc 22), true)), .un .not (.loc 26), false, []⟩,
    ⟨28, none, none, .pick (.loc 22) (.loc 27) (.const (.bool false)), false, []⟩,
    ⟨29, none, none, .mv (.loc 28) false, false, []⟩,
    ⟨30, none, (some ((.loc 29), true)), .mv (.var 4) false, false, []⟩,
    ⟨31, none, (some ((.loc 29), true)), .load true 31 (.var 1) false, false, []⟩,
    ⟨32, none, (some ((.loc 29), true)), .callp 18 [(.loc 30), (.loc 31)], false, []⟩,
    ⟨33, none, none, .pick (.loc 29) (.loc 32) (.const (.bool false)), false, []⟩,
    ⟨34, none, none, .mv (.loc 33) false, false, []⟩,
    ⟨35, none, (some ((.loc 34), true)), .load true 31 (.var 1) false, false, []⟩,
    ⟨36, none, (some ((.loc 34), true)), .callp 18 [(.const (.vs true .sh 0 [])), (.loc 35)], false, []⟩,
    ⟨37, none, (some ((.loc 34), true)), .un .not (.loc 36), false, []⟩,
    ⟨38, none, none, .pick (.loc 34) (.loc 37) (.const (.bool false)), false, []⟩,
    ⟨39, none, none, .mv (.loc 38) false, false, []⟩,
    ⟨40, none, (some ((.loc 39), true)), .mv (.var 4) false, false, []⟩,
    ⟨41, none, (some ((.loc 39), true)), .mv (.var 4) false, false, []⟩,
    ⟨42, none, (some ((.loc 39), true)), .sliceVs 31 (.loc 41) none (some (.const (.int .i64 1))) none, false, []⟩,
    ⟨43, none, (some ((.loc 39), true)), .callp 17 [(.loc 40), (.loc 42)], false, []⟩,
    ⟨44, none, (some ((.loc 39), true)), .len 1 (.loc 43), false, []⟩,
    ⟨45, none, (some ((.loc 39), true)), .bin .eql (.loc 44) (.const (.int .i64 2)), false, []⟩,
    ⟨46, none, none, .pick (.loc 39) (.loc 45) (.const (.bool false)), false, []⟩,
    ⟨47, (some 0), none, .asg (.loc 46), false, []⟩] false
def c8 : LCode :=
  .seq (
   .region 1 [⟨0, (some 0), none, .asg (.const (.bool false)), false, []⟩] false) (
  .seq (
   .region 3 [⟨0, none, none, .build [(.int .i64 0), (.int .i64 0), (.int .i64 0), (.bool false), (.bool false), (.int .i64 0), (.str []), (.int .i64 0), (.int .i64 0), (.int .i64 0), (.bool false), (.bool false), (.int .i64 0), (.str []), (.int .i64 0), (.int .i64 0), (.int .i64 0), (.bool false), (.bool false), (.int .i64 0), (.str []), (.int .i64 0), (.int .i64 0), (.bool false), (.bool false), (.bool false), (.int .i64 0), (.str []), (.bool false), (.int .i64 0), (.vs true .sh 0 [])] [], false, []⟩,
     ⟨1, (some 1), none, .alloc 31 [(.int .i64 0), (.int .i64 0), (.int .i64 0), (.bool false), (.bool false), (.int .i64 0), (.str []), (.int .i64 0), (.int .i64 0), (.int .i64 0), (.bool false), (.bool false), (.int .i64 0), (.str []), (.int .i64 0), (.int .i64 0), (.int .i64 0), (.bool false), (.bool false), (.int .i64 0), (.str []), (.int .i64 0), (.int .i64 0), (.bool false), (.bool false), (.bool false), (.int .i64 0), (.str []), (.bool false), (.int .i64 0), (.vs true .sh 0 [])], false, []⟩,
     ⟨2, (some 5), none, .store 31 (.var 1) (.loc 0), false, []⟩] false) (
  .seq (
   .region 3 [⟨0, none, none, .build [(.int .i64 0), (.int .i64 0), (.int .i64 0), (.bool false), (.bool false), (.int .i64 0), (.str []), (.int .i64 0), (.int .i64 0), (.int .i64 0), (.bool false), (.bool false), (.int .i64 0), (.str []), (.int .i64 0), (.int .i64 0), (.int .i64 0), (.bool false), (.bool false), (.int .i64 0), (.str []), (.int .i64 0), (.int .i64 0), (.bool false), (.bool false), (.bool false), (.int .i64 0), (.str []), (.bool false), (.int .i64 0), (.vs true .sh 0 [])] [], false, []⟩,
     ⟨1, (some 2), none, .alloc 31 [(.int .i64 0), (.int .i64 0), (.int .i64 0), (.bool false), (.bool false), (.int .i64 0), (.str []), (.int .i64 0), (.int .i64 0), (.int .i64 0), (.bool false), (.bool false), (.int .i64 0), (.str []), (.int .i64 0), (.int .i64 0), (.int .i64 0), (.bool false), (.bool false), (.int .i64 0), (.str []), (.int .i64 0), (.int .i64 0), (.bool false), (.bool false), (.bool false), (.int .i64 0), (.str []), (.bool false), (.int .i64 0), (.vs true .sh 0 [])], false, []⟩,
     ⟨2, (some 5), none, .store 31 (.var 2) (.loc 0), false, []⟩] false) (
  .seq (
   .region 3 [⟨0, none, none, .fieldAddr 21 9 true (.var 2), false, []⟩,
     ⟨1, none, none, .fieldAddr 5 1 false (.loc 0), false, []⟩,
     ⟨2, (some 5), none, .store 1 (.loc 1) (.const (.int .i64 (-5))), false, []⟩] false) (
  .seq (
   .region 4 [⟨0, none, none, .build [(.int .i64 0), (.int .i64 0), (.int .i64 0), (.str [])] [(0, 1, (.const (.int .i64 2))), (3, 1, (.const (.str [122])))], false, []⟩,
     ⟨1, none, none, .mkslice (.agg [(.int .i64 0), (.int .i64 0), (.int .i64 0), (.str [])]) 4 1 [(0, (.loc 0))], false, []⟩,
     ⟨2, none, none, .fieldAddr 30 1 false (.var 2), false, []⟩,
     ⟨3, (some 5), none, .store 1 (.loc 2) (.loc 1), false, []⟩] false) (
  .seq (
   .region 3 [⟨0, none, none, .load true 31 (.var 1) false, false, []⟩,
     ⟨1, none, none, .callp 10 [(.loc 0)], false, []⟩,
     ⟨2, (some 3), none, .asg (.loc 1), false, []⟩] false) (
  .seq (
   .region 6 [⟨0, none, none, .load true 31 (.var 2) false, false, []⟩,
     ⟨1, none, none, .load true 31 (.var 1) false, false, []⟩,
     ⟨2, none, none, .load true 31 (.var 2) false, false, []⟩,
     ⟨3, none, none, .mkslice (.agg [(.int .i64 0), (.int .i64 0), (.int .i64 0), (.bool false), (.bool false), (.int .i64 0), (.str []), (.int .i64 0), (.int .i64 0), (.int .i64 0), (.bool false), (.bool false), (.int .i64 0), (.str []), (.int .i64 0), (.int .i64 0), (.int .i64 0), (.bool false), (.bool false), (.int .i64 0), (.str []), (.int .i64 0), (.int .i64 0), (.bool false), (.bool false), (.bool false), (.int .i64 0), (.str []), (.bool false), (.int .i64 0), (.vs true .sh 0 [])]) 31 3 [(0, (.loc 0)), (1, (.loc 1)), (2, (.loc 2))], false, []⟩,
     ⟨4, none, none, .call 15 [(.loc 3)], false, []⟩,
     ⟨5, (some 4), none, .asg (.loc 4), false, []⟩] false) (
  .seq (
   r8_0) (
  .ret))))))))
def l8 : LFun := ⟨0, [none, none, none, none, none], c8, [.var 0], .pure⟩
/-- umpire/umpireref23.Few -/
def vm9 : List Nat := [0, 2, 3, 4, 5, 13, 54, 59, 69]
def r9_0 : LCode :=
  .region 35 [⟨0, none, none, .fieldAddr 30 1 false (.var 3), false, []⟩,
    ⟨1, none, none, .load false 1 (.loc 0) true, false, []⟩,
    ⟨2, none, none, .len 1 (.loc 1), false, []⟩,
    ⟨3, none, none, .bin .gtr (.loc 2) (.const (.int .i64 20)), false, []⟩,
    ⟨4, none, none, .mv (.loc 3) false, false, []⟩,
    ⟨5, none, (some ((.loc 4), false)), .fieldAddr 21 9 true (.var 3), false, []⟩,
    ⟨6, none, (some ((.loc 4), false)), .fieldAddr 6 1 false (.loc 5), false, []⟩,
    ⟨7, none, (some ((.loc 4), false)), .load false 1 (.loc 6) true, false, []⟩,
    ⟨8, none, (some ((.loc 4), false)), .len 0 (.loc 7), false, []⟩,
    ⟨9, none, (some ((.loc 4), false)), .bin .gtr (.loc 8) (.const (.int .i64 500)), false, []⟩,
    ⟨10, none, none, .pick (.loc 4) (.const (.bool true)) (.loc 9), false, []⟩,
    ⟨11, none, none, .mv (.loc 10) false, false, []⟩,
    ⟨12, none, (some ((.loc 11), false)), .fieldAddr 0 21 true (.var 3), false, []⟩,
    ⟨13, none, (some ((.loc 11), false)), .idxAddrArr 3 7 true (.loc 12) (.const (.int .i64 0)), false, []⟩,
    ⟨14, none, (some ((.loc 11), false)), .fieldAddr 6 1 false (.loc 13), false, []⟩,
    ⟨15, none, (some ((.loc 11), false)), .load false 1 (.loc 14) true, false, []⟩,
    ⟨16, none, (some ((.loc 11), false)), .len 0 (.loc 15), false, []⟩,
    ⟨17, none, (some ((.loc 11), false)), .bin .gtr (.loc 16) (.const (.int .i64 500)), false, []⟩,
    ⟨18, none, none, .pick (.loc 11) (.const (.bool true)) (.loc 17), false, []⟩,
    ⟨19, none, none, .mv (.loc 18) false, false, []⟩,
    ⟨20, none, (some ((.loc 19), false)), .fieldAddr 0 21 true (.var 3), false, []⟩,
    ⟨21, none, (some ((.loc 19), false)), .idxAddrArr 3 7 true (.loc 20) (.const (.int .i64 1)), false, []⟩,
    ⟨22, none, (some ((.loc 19), false)), .fieldAddr 6 1 false (.loc 21), false, []⟩,
    ⟨23, none, (some ((.loc 19), false)), .load false 1 (.loc 22) true, false, []⟩,
    ⟨24, none, (some ((.loc 19), false)), .len 0 (.loc 23), false, []⟩,
    ⟨25, none, (some ((.loc 19), false)), .bin .gtr (.loc 24) (.const (.int .i64 500)), false, []⟩,
    ⟨26, none, none, .pick (.loc 19) (.const (.bool true)) (.loc 25), false, []⟩,
    ⟨27, none, none, .mv (.loc 26) false, false, []⟩,
    ⟨28, none, (some ((.loc 27), false)), .fieldAddr 0 21 true (.var 3), false, []⟩,
    ⟨29, none, (some ((.loc 27), false)), .idxAddrArr 3 7 true (.loc 28) (.const (.int .i64 2)), false, []⟩,
    ⟨30, none, (some ((.loc 27), false)), .fieldAddr 6 1 false (.loc 29), false, []⟩,
    ⟨31, none, (some ((.loc 27), false)), .load false 1 (.loc 30) true, false, []⟩,
    ⟨32, none, (some ((.loc 27), false)), .len 0 (.loc 31), false, []⟩,
    ⟨33, none, (some ((.loc 27), false)), .bin .gtr (.loc 32) (.const (.int .i64 500)), false, []⟩,
    ⟨34, (some 6), none, .pick (.loc 27) (.const (.bool true)) (.loc 33), false, []⟩] false
def b9_1 : LCode :=
  .fence [1, 5, 6, 7, 8] (
   .seq (
    .seq (
     .region 5 [⟨0, none, none, .mv (.var 4) true, false, []⟩,
       ⟨1, none, none, .fieldAddr 30 1 false (.var 3), false, []⟩,
       ⟨2, none, none, .load false 1 (.loc 1) true, false, []⟩,
       ⟨3, none, none, .len 1 (.loc 2), false, []⟩,
       ⟨4, (some 7), none, .bin .lss (.loc 0) (.loc 3), false, []⟩] false) (
    .cond (.var 7) (
     .skip) (
     .exit 2))) (
   .seq (
    .block 3 (
     .seq (
      .region 8 [⟨0, none, none, .fieldAddr 30 1 false (.var 3), false, []⟩,
        ⟨1, none, none, .load false 1 (.loc 0) false, false, []⟩,
        ⟨2, none, none, .mv (.var 4) false, false, []⟩,
        ⟨3, none, none, .idxAddrVs 4 (.loc 1) (.loc 2), false, []⟩,
        ⟨4, none, none, .fieldAddr 3 1 false (.loc 3), false, []⟩,
        ⟨5, none, none, .load false 1 (.loc 4) true, false, []⟩,
        ⟨6, none, none, .len 0 (.loc 5), false, []⟩,
        ⟨7, (some 8), none, .bin .gtr (.loc 6) (.const (.int .i64 500)), false, []⟩] false) (
     .cond (.var 8) (
      .seq (
       .region 1 [⟨0, (some 1), none, .asg (.const (.bool false)), false, []⟩] false) (
      .ret)) (
      .skip)))) (
   .region 3 [⟨0, none, none, .mv (.var 4) true, false, []⟩,
     ⟨1, none, none, .bin .add (.loc 0) (.const (.int .i64 1)), false, []⟩,
     ⟨2, (some 4), none, .asg (.loc 1), false, []⟩] false)))
def b9_2 : LCode :=
  .fence [1, 3, 4, 5, 6, 7, 8] (
   .seq (
    .seq (
     .region 8 [⟨0, none, none, .mv (.var 2) true, false, []⟩,
       ⟨1, none, none, .mv (.var 0) true, false, []⟩,
       ⟨2, none, none, .len 1 (.loc 1), false, []⟩,
       ⟨3, none, none, .bin .lss (.loc 0) (.loc 2), false, []⟩,
       ⟨4, none, none, .mv (.loc 3) false, false, []⟩,
       ⟨5, none, (some ((.loc 4), true)), .mv (.var 2) true, false, []⟩,
       ⟨6, none, (some ((.loc 4), true)), .bin .lss (.loc 5) (.const (.int .i64 100)), false, []⟩,
       ⟨7, (some 5), none, .pick (.loc 4) (.loc 6) (.const (.bool false)), false, []⟩] false) (
    .cond (.var 5) (
     .skip) (
     .exit 0))) (
   .seq (
    .block 1 (
     .seq (
      .region 6 [⟨0, none, none, .mv (.var 0) false, false, []⟩,
        ⟨1, none, none, .mv (.var 2) false, false, []⟩,
        ⟨2, none, none, .idxAddrVs 31 (.loc 0) (.loc 1), false, []⟩,
        ⟨3, none, none, .load true 31 (.loc 2) false, false, []⟩,
        ⟨4, (some 3), none, .alloc 31 [(.int .i64 0), (.int .i64 0), (.int .i64 0), (.bool false), (.bool false), (.int .i64 0), (.str []), (.int .i64 0), (.int .i64 0), (.int .i64 0), (.bool false), (.bool false), (.int .i64 0), (.str []), (.int .i64 0), (.int .i64 0), (.int .i64 0), (.bool false), (.bool false), (.int .i64 0), (.str []), (.int .i64 0), (.int .i64 0), (.bool false), (.bool false), (.bool false), (.int .i64 0), (.str []), (.bool false), (.int .i64 0), (.vs true .sh 0 [])], false, []⟩,
        ⟨5, (some 9), none, .store 31 (.var 3) (.loc 3), false, []⟩] false) (
     .seq (
      .seq (
       r9_0) (
      .cond (.var 6) (
       .seq (
        .region 1 [⟨0, (some 1), none, .asg (.const (.bool false)), false, []⟩] false) (
       .ret)) (
       .skip))) (
     .seq (
      .region 1 [⟨0, (some 4), none, .asg (.const (.int .i64 0)), false, []⟩] false) (
     .fence [1, 3, 4, 5, 6, 7, 8] (
      .block 2 (
       .loop b9_1))))))) (
   .region 3 [⟨0, none, none, .mv (.var 2) true, false, []⟩,
     ⟨1, none, none, .bin .add (.loc 0) (.const (.int .i64 1)), false, []⟩,
     ⟨2, (some 2), none, .asg (.loc 1), false, []⟩] false)))
def c9 : LCode :=
  .seq (
   .region 1 [⟨0, (some 1), none, .asg (.const (.bool false)), false, []⟩] false) (
  .seq (
   .seq (
    .region 1 [⟨0, (some 2), none, .asg (.const (.int .i64 0)), false, []⟩] false) (
   .fence [1, 2, 3, 4, 5, 6, 7, 8] (
    .block 0 (
     .loop b9_2)))) (
  .seq (
   .region 4 [⟨0, none, none, .mv (.var 0) true, false, []⟩,
     ⟨1, none, none, .len 1 (.loc 0), false, []⟩,
     ⟨2, none, none, .bin .leq (.loc 1) (.const (.int .i64 40)), false, []⟩,
     ⟨3, (some 1), none, .asg (.loc 2), false, []⟩] false) (
  .ret)))
def l9 : LFun := ⟨1, [(some 0), none, none, none, none, none, none, none, none], c9, [.var 1], .pure⟩
/-- umpire/sets.Of -/
def vm15 : List Nat := [0, 2, 3, 5, 9, 10, 11, 12]
def b15_0 : LCode :=
  .fence [0, 1, 3, 7] (
   .seq (
    .region 1 [⟨0, (some 7), none, .bin .lss (.var 6) (.var 5), false, []⟩] false) (
   .seq (
    .cond (.var 7) (
     .skip) (
     .exit 0)) (
   .seq (
    .block 1 (
     .seq (
      .region 4 [⟨0, none, none, .idxAddrVs 31 (.var 4) (.var 6), false, []⟩,
        ⟨1, none, none, .load true 31 (.loc 0) false, false, []⟩,
        ⟨2, (some 3), none, .alloc 31 [(.int .i64 0), (.int .i64 0), (.int .i64 0), (.bool false), (.bool false), (.int .i64 0), (.str []), (.int .i64 0), (.int .i64 0), (.int .i64 0), (.bool false), (.bool false), (.int .i64 0), (.str []), (.int .i64 0), (.int .i64 0), (.int .i64 0), (.bool false), (.bool false), (.int .i64 0), (.str []), (.int .i64 0), (.int .i64 0), (.bool false), (.bool false), (.bool false), (.int .i64 0), (.str []), (.bool false), (.int .i64 0), (.vs true .sh 0 [])], false, []⟩,
        ⟨3, (some 8), none, .store 31 (.var 3) (.loc 1), false, []⟩] false) (
     .region 5 [⟨0, none, none, .mv (.var 2) false, false, []⟩,
       ⟨1, none, none, .load true 31 (.var 3) false, false, []⟩,
       ⟨2, none, none, .callp 10 [(.loc 1)], false, []⟩,
       ⟨3, none, none, .load true 31 (.var 3) false, false, []⟩,
       ⟨4, (some 8), none, .mapUpdate .s (.loc 0) (.loc 2) (.loc 3), false, []⟩] true))) (
   .region 2 [⟨0, none, none, .bin .add (.var 6) (.const (.int .i64 1)), false, []⟩,
     ⟨1, (some 6), none, .mv (.loc 0) false, false, []⟩] false))))
def c15 : LCode :=
  .seq (
   .region 1 [⟨0, (some 1), none, .asg (.const (.vs true .sh 0 [])), false, []⟩] false) (
  .seq (
   .region 4 [⟨0, none, none, .mv (.var 0) true, false, []⟩,
     ⟨1, none, none, .len 1 (.loc 0), false, []⟩,
     ⟨2, none, none, .mkMapR (.loc 1), false, []⟩,
     ⟨3, (some 2), none, .asg (.loc 2), false, []⟩] false) (
  .seq (
   .seq (
    .region 3 [⟨0, (some 4), none, .mv (.var 0) false, false, []⟩,
      ⟨1, (some 5), none, .len 1 (.var 4), false, []⟩,
      ⟨2, (some 6), none, .mv (.const (.int .i64 0)) false, false, []⟩] false) (
   .fence [0, 1, 3, 4, 5, 6, 7] (
    .block 0 (
     .loop b15_0)))) (
  .seq (
   .region 3 [⟨0, none, none, .mv (.var 2) false, false, []⟩,
     ⟨1, none, none, .call 29 [(.loc 0)], false, []⟩,
     ⟨2, (some 1), none, .asg (.loc 1), false, []⟩] false) (
  .ret))))
def l15 : LFun := ⟨1, [(some 0), none, none, none, none, none, none, none], c15, [.var 1], .trim⟩
/-- umpire/umpireref23.Of -/
def vm13 : List Nat := [0, 2, 3, 4, 8]
def b13_0 : LCode :=
  .fence [1, 4] (
   .seq (
    .seq (
     .region 4 [⟨0, none, none, .mv (.var 3) true, false, []⟩,
       ⟨1, none, none, .mv (.var 0) true, false, []⟩,
       ⟨2, none, none, .len 1 (.loc 1), false, []⟩,
       ⟨3, (some 4), none, .bin .lss (.loc 0) (.loc 2), false, []⟩] false) (
    .cond (.var 4) (
     .skip) (
     .exit 0))) (
   .seq (
    .block 1 (
     .region 7 [⟨0, none, none, .mv (.var 2) false, false, []⟩,
       ⟨1, none, none, .mv (.var 0) false, false, []⟩,
       ⟨2, none, none, .mv (.var 3) false, false, []⟩,
       ⟨3, none, none, .idxAddrVs 31 (.loc 1) (.loc 2), false, []⟩,
       ⟨4, none, none, .load true 31 (.loc 3) false, false, []⟩,
       ⟨5, none, none, .callp 28 [(.loc 0), (.loc 4)], false, []⟩,
       ⟨6, (some 2), none, .asg (.loc 5), false, []⟩] false)) (
   .region 3 [⟨0, none, none, .mv (.var 3) true, false, []⟩,
     ⟨1, none, none, .bin .add (.loc 0) (.const (.int .i64 1)), false, []⟩,
     ⟨2, (some 3), none, .asg (.loc 1), false, []⟩] false)))
def c13 : LCode :=
  .seq (
   .region 1 [⟨0, (some 1), none, .asg (.const (.vs true .sh 0 [])), false, []⟩] false) (
  .seq (
   .region 1 [⟨0, (some 2), none, .asg (.const (.vs true .sh 0 [])), false, []⟩] false) (
  .seq (
   .seq (
    .region 1 [⟨0, (some 3), none, .asg (.const (.int .i64 0)), false, []⟩] false) (
   .fence [0, 1, 3, 4] (
    .block 0 (
     .loop b13_0)))) (
  .seq (
   .region 2 [⟨0, none, none, .mv (.var 2) false, false, []⟩,
     ⟨1, (some 1), none, .asg (.loc 0), false, []⟩] false) (
  .ret))))
def l13 : LFun := ⟨1, [(some 0), none, none, none, none], c13, [.var 1], .pure⟩
/-- umpire/sets.Join -/
def vm17 : List Nat := [0, 1, 4]
def c17 : LCode :=
  .seq (
   .region 1 [⟨0, (some 2), none, .asg (.const (.vs true .sh 0 [])), false, []⟩] false) (
  .seq (
   .region 6 [⟨0, none, none, .mv (.var 0) false, false, []⟩,
     ⟨1, none, none, .mv (.var 1) false, false, []⟩,
     ⟨2, none, none, .mkslice (.vs true .sh 0 []) 1 2 [(0, (.loc 0)), (1, (.loc 1))], false, []⟩,
     ⟨3, none, none, .callp 30 [(.loc 2)], false, []⟩,
     ⟨4, none, none, .call 15 [(.loc 3)], false, []⟩,
     ⟨5, (some 2), none, .asg (.loc 4), false, []⟩] false) (
  .ret))
def l17 : LFun := ⟨2, [(some 0), (some 1), none], c17, [.var 2], .pure⟩
/-- umpire/umpireref23.Same -/
def vm14 : List Nat := [0, 1, 4, 5, 10, 14, 26]
def b14_0 : LCode :=
  .fence [2, 4, 5, 6] (
   .seq (
    .seq (
     .region 4 [⟨0, none, none, .mv (.var 3) true, false, []⟩,
       ⟨1, none, none, .mv (.var 0) true, false, []⟩,
       ⟨2, none, none, .len 1 (.loc 1), false, []⟩,
       ⟨3, (some 5), none, .bin .lss (.loc 0) (.loc 2), false, []⟩] false) (
    .cond (.var 5) (
     .skip) (
     .exit 0))) (
   .seq (
    .block 1 (
     .seq (
      .region 10 [⟨0, none, none, .mv (.var 0) false, false, []⟩,
        ⟨1, none, none, .mv (.var 3) false, false, []⟩,
        ⟨2, none, none, .idxAddrVs 31 (.loc 0) (.loc 1), false, []⟩,
        ⟨3, none, none, .load true 31 (.loc 2) false, false, []⟩,
        ⟨4, none, none, .mv (.var 1) false, false, []⟩,
        ⟨5, none, none, .mv (.var 3) false, false, []⟩,
        ⟨6, none, none, .idxAddrVs 31 (.loc 4) (.loc 5), false, []⟩,
        ⟨7, none, none, .load true 31 (.loc 6) false, false, []⟩,
        ⟨8, none, none, .callp 12 [(.loc 3), (.loc 7)], false, []⟩,
        ⟨9, (some 6), none, .un .not (.loc 8), false, []⟩] true) (
     .cond (.var 6) (
      .seq (
       .region 1 [⟨0, (some 2), none, .asg (.const (.bool false)), false, []⟩] false) (
      .ret)) (
      .skip)))) (
   .region 3 [⟨0, none, none, .mv (.var 3) true, false, []⟩,
     ⟨1, none, none, .bin .add (.loc 0) (.const (.int .i64 1)), false, []⟩,
     ⟨2, (some 3), none, .asg (.loc 1), false, []⟩] false)))
def c14 : LCode :=
  .seq (
   .region 1 [⟨0, (some 2), none, .asg (.const (.bool false)), false, []⟩] false) (
  .seq (
   .seq (
    .region 5 [⟨0, none, none, .mv (.var 0) true, false, []⟩,
      ⟨1, none, none, .len 1 (.loc 0), false, []⟩,
      ⟨2, none, none, .mv (.var 1) true, false, []⟩,
      ⟨3, none, none, .len 1 (.loc 2), false, []⟩,
      ⟨4, (some 4), none, .bin .neq (.loc 1) (.loc 3), false, []⟩] false) (
   .cond (.var 4) (
    .seq (
     .region 1 [⟨0, (some 2), none, .asg (.const (.bool false)), false, []⟩] false) (
    .ret)) (
    .skip))) (
  .seq (
   .seq (
    .region 1 [⟨0, (some 3), none, .asg (.const (.int .i64 0)), false, []⟩] false) (
   .fence [0, 1, 2, 3, 4, 5, 6] (
    .block 0 (
     .loop b14_0)))) (
  .seq (
   .region 1 [⟨0, (some 2), none, .asg (.const (.bool true)), false, []⟩] false) (
  .ret))))
def l14 : LFun := ⟨2, [(some 0), (some 1), none, none, none, none, none], c14, [.var 2], .trim⟩
/-- umpire/sets.Key -/
def vm10 : List Nat := [0, 1, 2, 3, 5, 6, 8, 10, 11, 12, 72, 73, 74, 75]
def b10_0 : LCode :=
  .fence [0, 2, 4, 5, 6, 9, 10, 11, 12, 13] (
   .seq (
    .region 1 [⟨0, (some 9), none, .bin .lss (.var 8) (.const (.int .i64 3)), false, []⟩] false) (
   .seq (
    .cond (.var 9) (
     .skip) (
     .exit 0)) (
   .seq (
    .block 1 (
     .seq (
      .region 3 [⟨0, none, none, .idxArr 3 7 true (.var 7) (.var 8), false, []⟩,
        ⟨1, (some 4), none, .alloc 25 [(.int .i64 0), (.int .i64 0), (.int .i64 0), (.bool false), (.bool false), (.int .i64 0), (.str [])], false, []⟩,
        ⟨2, (some 14), none, .store 7 (.var 4) (.loc 0), false, []⟩] false) (
     .seq (
      .region 4 [⟨0, none, none, .fieldAddr 0 2 true (.var 4), false, []⟩,
        ⟨1, none, none, .fieldAddr 0 1 false (.loc 0), false, []⟩,
        ⟨2, none, none, .load false 1 (.loc 1) false, false, []⟩,
        ⟨3, none, none, .call 20 [(.var 3), (.loc 2)], false, []⟩] false) (
     .seq (
      .region 4 [⟨0, none, none, .fieldAddr 0 2 true (.var 4), false, []⟩,
        ⟨1, none, none, .fieldAddr 1 1 false (.loc 0), false, []⟩,
        ⟨2, none, none, .load false 1 (.loc 1) false, false, []⟩,
        ⟨3, none, none, .call 20 [(.var 3), (.loc 2)], false, []⟩] false) (
     .seq (
      .region 3 [⟨0, none, none, .fieldAddr 2 1 false (.var 4), false, []⟩,
        ⟨1, none, none, .load false 1 (.loc 0) false, false, []⟩,
        ⟨2, none, none, .call 20 [(.var 3), (.loc 1)], false, []⟩] false) (
     .seq (
      .region 3 [⟨0, none, none, .fieldAddr 3 1 false (.var 4), false, []⟩,
        ⟨1, none, none, .load false 1 (.loc 0) false, false, []⟩,
        ⟨2, none, none, .call 21 [(.var 3), (.loc 1)], false, []⟩] false) (
     .seq (
      .region 3 [⟨0, none, none, .fieldAddr 4 1 false (.var 4), false, []⟩,
        ⟨1, none, none, .load false 1 (.loc 0) false, false, []⟩,
        ⟨2, none, none, .call 21 [(.var 3), (.loc 1)], false, []⟩] false) (
     .seq (
      .region 3 [⟨0, none, none, .fieldAddr 5 1 false (.var 4), false, []⟩,
        ⟨1, none, none, .load false 1 (.loc 0) false, false, []⟩,
        ⟨2, none, none, .call 20 [(.var 3), (.loc 1)], false, []⟩] false) (
     .region 3 [⟨0, none, none, .fieldAddr 6 1 false (.var 4), false, []⟩,
       ⟨1, none, none, .load false 1 (.loc 0) false, false, []⟩,
       ⟨2, none, none, .call 22 [(.var 3), (.loc 1)], false, []⟩] false))))))))) (
   .region 2 [⟨0, none, none, .bin .add (.var 8) (.const (.int .i64 1)), false, []⟩,
     ⟨1, (some 8), none, .mv (.loc 0) false, false, []⟩] false))))
def b10_1 : LCode :=
  .fence [0, 1, 2, 4, 5, 6, 7, 8, 9, 13] (
   .seq (
    .region 1 [⟨0, (some 13), none, .bin .lss (.var 12) (.var 11), false, []⟩] false) (
   .seq (
    .cond (.var 13) (
     .skip) (
     .exit 2)) (
   .seq (
    .block 3 (
     .seq (
      .region 4 [⟨0, none, none, .idxAddrVs 4 (.var 10) (.var 12), false, []⟩,
        ⟨1, none, none, .load true 4 (.loc 0) false, false, []⟩,
        ⟨2, (some 6), none, .alloc 43 [(.int .i64 0), (.int .i64 0), (.int .i64 0), (.str [])], false, []⟩,
        ⟨3, (some 14), none, .store 4 (.var 6) (.loc 1), false, []⟩] false) (
     .seq (
      .region 3 [⟨0, none, none, .fieldAddr 0 1 false (.var 6), false, []⟩,
        ⟨1, none, none, .load false 1 (.loc 0) false, false, []⟩,
        ⟨2, none, none, .call 20 [(.var 3), (.loc 1)], false, []⟩] false) (
     .seq (
      .region 3 [⟨0, none, none, .fieldAddr 1 1 false (.var 6), false, []⟩,
        ⟨1, none, none, .load false 1 (.loc 0) false, false, []⟩,
        ⟨2, none, none, .call 20 [(.var 3), (.loc 1)], false, []⟩] false) (
     .seq (
      .region 3 [⟨0, none, none, .fieldAddr 2 1 false (.var 6), false, []⟩,
        ⟨1, none, none, .load false 1 (.loc 0) false, false, []⟩,
        ⟨2, none, none, .call 20 [(.var 3), (.loc 1)], false, []⟩] false) (
     .region 3 [⟨0, none, none, .fieldAddr 3 1 false (.var 6), false, []⟩,
       ⟨1, none, none, .load false 1 (.loc 0) false, false, []⟩,
       ⟨2, none, none, .call 22 [(.var 3), (.loc 1)], false, []⟩] false)))))) (
   .region 2 [⟨0, none, none, .bin .add (.var 12) (.const (.int .i64 1)), false, []⟩,
     ⟨1, (some 12), none, .mv (.loc 0) false, false, []⟩] false))))
def c10 : LCode :=
  .seq (
   .region 2 [⟨0, (some 1), none, .box 31 (.var 0), false, []⟩,
     ⟨1, (some 2), none, .asg (.const (.str [])), false, []⟩] false) (
  .seq (
   .region 1 [⟨0, (some 3), none, .alloc 49 [.nilptr, (.vs true .sh 0 [])], false, []⟩] false) (
  .seq (
   .seq (
    .region 3 [⟨0, none, none, .fieldAddr 0 21 true (.var 1), false, []⟩,
      ⟨1, (some 7), none, .load true 21 (.loc 0) false, false, []⟩,
      ⟨2, (some 8), none, .mv (.const (.int .i64 0)) false, false, []⟩] false) (
   .fence [0, 2, 4, 5, 6, 7, 8, 9, 10, 11, 12, 13] (
    .block 0 (
     .loop b10_0)))) (
  .seq (
   .region 4 [⟨0, none, none, .fieldAddr 21 9 true (.var 1), false, []⟩,
     ⟨1, none, none, .load true 9 (.loc 0) false, false, []⟩,
     ⟨2, (some 5), none, .alloc 28 [(.int .i64 0), (.int .i64 0), (.bool false), (.bool false), (.bool false), (.int .i64 0), (.str []), (.bool false), (.int .i64 0)], false, []⟩,
     ⟨3, (some 14), none, .store 9 (.var 5) (.loc 1), false, []⟩] false) (
  .seq (
   .region 3 [⟨0, none, none, .fieldAddr 0 1 false (.var 5), false, []⟩,
     ⟨1, none, none, .load false 1 (.loc 0) false, false, []⟩,
     ⟨2, none, none, .call 20 [(.var 3), (.loc 1)], false, []⟩] false) (
  .seq (
   .region 3 [⟨0, none, none, .fieldAddr 1 1 false (.var 5), false, []⟩,
     ⟨1, none, none, .load false 1 (.loc 0) false, false, []⟩,
     ⟨2, none, none, .call 20 [(.var 3), (.loc 1)], false, []⟩] false) (
  .seq (
   .region 3 [⟨0, none, none, .fieldAddr 2 1 false (.var 5), false, []⟩,
     ⟨1, none, none, .load false 1 (.loc 0) false, false, []⟩,
     ⟨2, none, none, .call 21 [(.var 3), (.loc 1)], false, []⟩] false) (
  .seq (
   .region 3 [⟨0, none, none, .fieldAddr 3 1 false (.var 5), false, []⟩,
     ⟨1, none, none, .load false 1 (.loc 0) false, false, []⟩,
     ⟨2, none, none, .call 21 [(.var 3), (.loc 1)], false, []⟩] false) (
  .seq (
   .region 3 [⟨0, none, none, .fieldAddr 4 1 false (.var 5), false, []⟩,
     ⟨1, none, none, .load false 1 (.loc 0) false, false, []⟩,
     ⟨2, none, none, .call 21 [(.var 3), (.loc 1)], false, []⟩] false) (
  .seq (
   .region 3 [⟨0, none, none, .fieldAddr 5 1 false (.var 5), false, []⟩,
     ⟨1, none, none, .load false 1 (.loc 0) false, false, []⟩,
     ⟨2, none, none, .call 20 [(.var 3), (.loc 1)], false, []⟩] false) (
  .seq (
   .region 3 [⟨0, none, none, .fieldAddr 6 1 false (.var 5), false, []⟩,
     ⟨1, none, none, .load false 1 (.loc 0) false, false, []⟩,
     ⟨2, none, none, .call 22 [(.var 3), (.loc 1)], false, []⟩] false) (
  .seq (
   .region 3 [⟨0, none, none, .fieldAddr 7 1 false (.var 5), false, []⟩,
     ⟨1, none, none, .load false 1 (.loc 0) false, false, []⟩,
     ⟨2, none, none, .call 21 [(.var 3), (.loc 1)], false, []⟩] false) (
  .seq (
   .region 3 [⟨0, none, none, .fieldAddr 8 1 false (.var 5), false, []⟩,
     ⟨1, none, none, .load false 1 (.loc 0) false, false, []⟩,
     ⟨2, none, none, .call 20 [(.var 3), (.loc 1)], false, []⟩] false) (
  .seq (
   .region 4 [⟨0, none, none, .fieldAddr 30 1 false (.var 1), false, []⟩,
     ⟨1, none, none, .load false 1 (.loc 0) true, false, []⟩,
     ⟨2, none, none, .len 1 (.loc 1), false, []⟩,
     ⟨3, none, none, .call 20 [(.var 3), (.loc 2)], false, []⟩] false) (
  .seq (
   .seq (
    .region 4 [⟨0, none, none, .fieldAddr 30 1 false (.var 1), false, []⟩,
      ⟨1, (some 10), none, .load false 1 (.loc 0) false, false, []⟩,
      ⟨2, (some 11), none, .len 1 (.var 10), false, []⟩,
      ⟨3, (some 12), none, .mv (.const (.int .i64 0)) false, false, []⟩] false) (
   .fence [0, 1, 2, 4, 5, 6, 7, 8, 9, 10, 11, 12, 13] (
    .block 2 (
     .loop b10_1)))) (
  .seq (
   .region 3 [⟨0, none, none, .fieldAddr 0 2 true (.var 3), false, []⟩,
     ⟨1, none, none, .call 23 [(.loc 0)], false, []⟩,
     ⟨2, (some 2), none, .asg (.loc 1), false, []⟩] false) (
  .ret))))))))))))))))
def l10 : LFun := ⟨1, [(some 0), none, none, none, none, none, none, none, none, none, none, none, none, none], c10, [.var 2], .pure⟩
/-- umpire/sets.Is -/
def vm16 : List Nat := [0, 2, 3, 7, 21]
def b16_0 : LCode :=
  .fence [1, 3, 4] (
   .seq (
    .seq (
     .region 4 [⟨0, none, none, .mv (.var 2) true, false, []⟩,
       ⟨1, none, none, .mv (.var 0) true, false, []⟩,
       ⟨2, none, none, .len 1 (.loc 1), false, []⟩,
       ⟨3, (some 3), none, .bin .lss (.loc 0) (.loc 2), false, []⟩] false) (
    .cond (.var 3) (
     .skip) (
     .exit 0))) (
   .seq (
    .block 1 (
     .seq (
      .region 12 [⟨0, none, none, .mv (.var 0) false, false, []⟩,
        ⟨1, none, none, .mv (.var 2) false, false, []⟩,
        ⟨2, none, none, .bin .sub (.loc 1) (.const (.int .i64 1)), false, []⟩,
        ⟨3, none, none, .idxAddrVs 31 (.loc 0) (.loc 2), false, []⟩,
        ⟨4, none, none, .load true 31 (.loc 3) false, false, []⟩,
        ⟨5, none, none, .callp 10 [(.loc 4)], false, []⟩,
        ⟨6, none, none, .mv (.var 0) false, false, []⟩,
        ⟨7, none, none, .mv (.var 2) false, false, []⟩,
        ⟨8, none, none, .idxAddrVs 31 (.loc 6) (.loc 7), false, []⟩,
        ⟨9, none, none, .load true 31 (.loc 8) false, false, []⟩,
        ⟨10, none, none, .callp 10 [(.loc 9)], false, []⟩,
        ⟨11, (some 4), none, .bin .geq (.loc 5) (.loc 10), false, []⟩] true) (
     .cond (.var 4) (
      .seq (
       .region 1 [⟨0, (some 1), none, .asg (.const (.bool false)), false, []⟩] false) (
      .ret)) (
      .skip)))) (
   .region 3 [⟨0, none, none, .mv (.var 2) true, false, []⟩,
     ⟨1, none, none, .bin .add (.loc 0) (.const (.int .i64 1)), false, []⟩,
     ⟨2, (some 2), none, .asg (.loc 1), false, []⟩] false)))
def c16 : LCode :=
  .seq (
   .region 1 [⟨0, (some 1), none, .asg (.const (.bool false)), false, []⟩] false) (
  .seq (
   .seq (
    .region 1 [⟨0, (some 2), none, .asg (.const (.int .i64 1)), false, []⟩] false) (
   .fence [0, 1, 2, 3, 4] (
    .block 0 (
     .loop b16_0)))) (
  .seq (
   .region 1 [⟨0, (some 1), none, .asg (.const (.bool true)), false, []⟩] false) (
  .ret)))
def l16 : LFun := ⟨1, [(some 0), none, none, none, none], c16, [.var 1], .pure⟩
/-- umpire/sets.Has -/
def vm18 : List Nat := [0, 1, 3, 4, 5, 6]
def c18 : LCode :=
  .seq (
   .region 2 [⟨0, (some 2), none, .box 31 (.var 1), false, []⟩,
     ⟨1, (some 3), none, .asg (.const (.bool false)), false, []⟩] false) (
  .seq (
   .region 9 [⟨0, none, none, .mv (.var 0) false, false, []⟩,
     ⟨1, none, none, .load true 31 (.var 2) false, false, []⟩,
     ⟨2, none, none, .callp 10 [(.loc 1)], false, []⟩,
     ⟨3, none, none, .call 31 [(.loc 0), (.loc 2), (.const (.func 32 []))], false, []⟩,
     ⟨4, none, none, .mv (.loc 3) false, false, []⟩,
     ⟨5, none, none, .extract (.loc 4) 0, false, []⟩,
     ⟨6, none, none, .extract (.loc 4) 1, false, []⟩,
     ⟨7, (some 4), none, .asg (.loc 5), false, []⟩,
     ⟨8, (some 5), none, .asg (.loc 6), false, []⟩] false) (
  .seq (
   .region 2 [⟨0, none, none, .mv (.var 5) false, false, []⟩,
     ⟨1, (some 3), none, .asg (.loc 0), false, []⟩] false) (
  .ret)))
def l18 : LFun := ⟨2, [(some 0), (some 1), none, none, none, none], c18, [.var 3], .pure⟩
/-- umpire/sets.byKey -/
def vm29 : List Nat := [0, 2, 3, 5, 8, 9, 10, 11]
def b29_0 : LCode :=
  .fence [1, 3, 7] (
   .seq (
    .region 1 [⟨0, (some 7), none, .bin .lss (.var 6) (.var 5), false, []⟩] false) (
   .seq (
    .cond (.var 7) (
     .skip) (
     .exit 0)) (
   .seq (
    .block 1 (
     .seq (
      .region 3 [⟨0, none, none, .idxAddrVs 1 (.var 4) (.var 6), false, []⟩,
        ⟨1, none, none, .load false 1 (.loc 0) false, false, []⟩,
        ⟨2, (some 3), none, .asg (.loc 1), false, []⟩] false) (
     .region 7 [⟨0, none, none, .mv (.var 2) true, false, []⟩,
       ⟨1, none, none, .mv (.var 0) false, false, []⟩,
       ⟨2, none, none, .mv (.var 3) false, false, []⟩,
       ⟨3, none, none, .lookup .s (.agg [(.int .i64 0), (.int .i64 0), (.int .i64 0), (.bool false), (.bool false), (.int .i64 0), (.str []), (.int .i64 0), (.int .i64 0), (.int .i64 0), (.bool false), (.bool false), (.int .i64 0), (.str []), (.int .i64 0), (.int .i64 0), (.int .i64 0), (.bool false), (.bool false), (.int .i64 0), (.str []), (.int .i64 0), (.int .i64 0), (.bool false), (.bool false), (.bool false), (.int .i64 0), (.str []), (.bool false), (.int .i64 0), (.vs true .sh 0 [])]) (.loc 1) (.loc 2) false, false, []⟩,
       ⟨4, none, none, .mkslice (.agg [(.int .i64 0), (.int .i64 0), (.int .i64 0), (.bool false), (.bool false), (.int .i64 0), (.str []), (.int .i64 0), (.int .i64 0), (.int .i64 0), (.bool false), (.bool false), (.int .i64 0), (.str []), (.int .i64 0), (.int .i64 0), (.int .i64 0), (.bool false), (.bool false), (.int .i64 0), (.str []), (.int .i64 0), (.int .i64 0), (.bool false), (.bool false), (.bool false), (.int .i64 0), (.str []), (.bool false), (.int .i64 0), (.vs true .sh 0 [])]) 31 1 [(0, (.loc 3))], false, []⟩,
       ⟨5, none, none, .append 31 31 256 (.loc 0) (.loc 4), false, []⟩,
       ⟨6, (some 2), none, .asg (.loc 5), false, []⟩] false))) (
   .region 2 [⟨0, none, none, .bin .add (.var 6) (.const (.int .i64 1)), false, []⟩,
     ⟨1, (some 6), none, .mv (.loc 0) false, false, []⟩] false))))
def c29 : LCode :=
  .seq (
   .region 1 [⟨0, (some 1), none, .asg (.const (.vs true .sh 0 [])), false, []⟩] false) (
  .seq (
   .region 1 [⟨0, (some 2), none, .asg (.const (.vs true .sh 0 [])), false, []⟩] false) (
  .seq (
   .seq (
    .region 5 [⟨0, none, none, .mv (.var 0) false, false, []⟩,
      ⟨1, none, none, .call 41 [(.loc 0)], false, []⟩,
      ⟨2, (some 4), none, .call 40 [(.loc 1)], false, []⟩,
      ⟨3, (some 5), none, .len 1 (.var 4), false, []⟩,
      ⟨4, (some 6), none, .mv (.const (.int .i64 0)) false, false, []⟩] false) (
   .fence [0, 1, 3, 4, 5, 6, 7] (
    .block 0 (
     .loop b29_0)))) (
  .seq (
   .region 2 [⟨0, none, none, .out 2, false, []⟩,
     ⟨1, (some 1), none, .asg (.loc 0), false, []⟩] false) (
  .ret))))
def l29 : LFun := ⟨1, [(some 0), none, none, none, none, none, none, none], c29, [.var 1], .trim⟩
/-- umpire/umpireref23.With -/
def vm28 : List Nat := [0, 1, 3, 4, 5, 6, 7, 8, 9, 15, 25, 33, 46]
def b28_0 : LCode :=
  .fence [1, 3, 8, 9, 10, 11, 12] (
   .seq (
    .seq (
     .region 4 [⟨0, none, none, .mv (.var 7) true, false, []⟩,
       ⟨1, none, none, .mv (.var 0) true, false, []⟩,
       ⟨2, none, none, .len 1 (.loc 1), false, []⟩,
       ⟨3, (some 9), none, .bin .lss (.loc 0) (.loc 2), false, []⟩] false) (
    .cond (.var 9) (
     .skip) (
     .exit 0))) (
   .seq (
    .block 1 (
     .seq (
      .region 6 [⟨0, none, none, .mv (.var 0) false, false, []⟩,
        ⟨1, none, none, .mv (.var 7) false, false, []⟩,
        ⟨2, none, none, .idxAddrVs 31 (.loc 0) (.loc 1), false, []⟩,
        ⟨3, none, none, .load true 31 (.loc 2) false, false, []⟩,
        ⟨4, none, none, .callp 11 [(.loc 3)], false, []⟩,
        ⟨5, (some 8), none, .asg (.loc 4), false, []⟩] false) (
     .seq (
      .seq (
       .region 3 [⟨0, none, none, .mv (.var 8) true, false, []⟩,
         ⟨1, none, none, .mv (.var 5) true, false, []⟩,
         ⟨2, (some 10), none, .bin .eql (.loc 0) (.loc 1), false, []⟩] false) (
      .cond (.var 10) (
       .seq (
        .region 2 [⟨0, none, none, .mv (.var 0) false, false, []⟩,
          ⟨1, (some 3), none, .asg (.loc 0), false, []⟩] false) (
       .ret)) (
       .skip))) (
     .seq (
      .seq (
       .region 7 [⟨0, none, none, .mv (.var 6) true, false, []⟩,
         ⟨1, none, none, .un .not (.loc 0), false, []⟩,
         ⟨2, none, none, .mv (.loc 1) false, false, []⟩,
         ⟨3, none, (some ((.loc 2), true)), .mv (.var 8) true, false, []⟩,
         ⟨4, none, (some ((.loc 2), true)), .mv (.var 5) true, false, []⟩,
         ⟨5, none, (some ((.loc 2), true)), .bin .gtr (.loc 3) (.loc 4), false, []⟩,
         ⟨6, (some 11), none, .pick (.loc 2) (.loc 5) (.const (.bool false)), false, []⟩] false) (
      .cond (.var 11) (
       .seq (
        .region 5 [⟨0, none, none, .mv (.var 4) true, false, []⟩,
          ⟨1, none, none, .load true 31 (.var 2) false, false, []⟩,
          ⟨2, none, none, .mkslice (.agg [(.int .i64 0), (.int .i64 0), (.int .i64 0), (.bool false), (.bool false), (.int .i64 0), (.str []), (.int .i64 0), (.int .i64 0), (.int .i64 0), (.bool false), (.bool false), (.int .i64 0), (.str []), (.int .i64 0), (.int .i64 0), (.int .i64 0), (.bool false), (.bool false), (.int .i64 0), (.str []), (.int .i64 0), (.int .i64 0), (.bool false), (.bool false), (.bool false), (.int .i64 0), (.str []), (.bool false), (.int .i64 0), (.vs true .sh 0 [])]) 31 1 [(0, (.loc 1))], false, []⟩,
          ⟨3, none, none, .append 31 31 256 (.loc 0) (.loc 2), false, []⟩,
          ⟨4, (some 4), none, .asg (.loc 3), false, []⟩] false) (
       .region 1 [⟨0, (some 6), none, .asg (.const (.bool true)), false, []⟩] false)) (
       .skip))) (
     .region 8 [⟨0, none, none, .mv (.var 4) true, false, []⟩,
       ⟨1, none, none, .mv (.var 0) false, false, []⟩,
       ⟨2, none, none, .mv (.var 7) false, false, []⟩,
       ⟨3, none, none, .idxAddrVs 31 (.loc 1) (.loc 2), false, []⟩,
       ⟨4, none, none, .load true 31 (.loc 3) false, false, []⟩,
       ⟨5, none, none, .mkslice (.agg [(.int .i64 0), (.int .i64 0), (.int .i64 0), (.bool false), (.bool false), (.int .i64 0), (.str []), (.int .i64 0), (.int .i64 0), (.int .i64 0), (.bool false), (.bool false), (.int .i64 0), (.str []), (.int .i64 0), (.int .i64 0), (.int .i64 0), (.bool false), (.bool false), (.int .i64 0), (.str []), (.int .i64 0), (.int .i64 0), (.bool false), (.bool false), (.bool false), (.int .i64 0), (.str []), (.bool false), (.int .i64 0), (.vs true .sh 0 [])]) 31 1 [(0, (.loc 4))], false, []⟩,
       ⟨6, none, none, .append 31 31 256 (.loc 0) (.loc 5), false, []⟩,
       ⟨7, (some 4), none, .asg (.loc 6), false, []⟩] false))))) (
   .region 3 [⟨0, none, none, .mv (.var 7) true, false, []⟩,
     ⟨1, none, none, .bin .add (.loc 0) (.const (.int .i64 1)), false, []⟩,
     ⟨2, (some 7), none, .asg (.loc 1), false, []⟩] false)))
def c28 : LCode :=
  .seq (
   .region 2 [⟨0, (some 2), none, .box 31 (.var 1), false, []⟩,
     ⟨1, (some 3), none, .asg (.const (.vs true .sh 0 [])), false, []⟩] false) (
  .seq (
   .region 1 [⟨0, (some 4), none, .asg (.const (.vs true .sh 0 [])), false, []⟩] false) (
  .seq (
   .region 3 [⟨0, none, none, .load true 31 (.var 2) false, false, []⟩,
     ⟨1, none, none, .callp 11 [(.loc 0)], false, []⟩,
     ⟨2, (some 5), none, .asg (.loc 1), false, []⟩] false) (
  .seq (
   .region 1 [⟨0, (some 6), none, .asg (.const (.bool false)), false, []⟩] false) (
  .seq (
   .seq (
    .region 1 [⟨0, (some 7), none, .asg (.const (.int .i64 0)), false, []⟩] false) (
   .fence [0, 1, 3, 5, 7, 8, 9, 10, 11, 12] (
    .block 0 (
     .loop b28_0)))) (
  .seq (
   .seq (
    .region 2 [⟨0, none, none, .mv (.var 6) true, false, []⟩,
      ⟨1, (some 12), none, .un .not (.loc 0), false, []⟩] false) (
   .cond (.var 12) (
    .region 5 [⟨0, none, none, .mv (.var 4) true, false, []⟩,
      ⟨1, none, none, .load true 31 (.var 2) false, false, []⟩,
      ⟨2, none, none, .mkslice (.agg [(.int .i64 0), (.int .i64 0), (.int .i64 0), (.bool false), (.bool false), (.int .i64 0), (.str []), (.int .i64 0), (.int .i64 0), (.int .i64 0), (.bool false), (.bool false), (.int .i64 0), (.str []), (.int .i64 0), (.int .i64 0), (.int .i64 0), (.bool false), (.bool false), (.int .i64 0), (.str []), (.int .i64 0), (.int .i64 0), (.bool false), (.bool false), (.bool false), (.int .i64 0), (.str []), (.bool false), (.int .i64 0), (.vs true .sh 0 [])]) 31 1 [(0, (.loc 1))], false, []⟩,
      ⟨3, none, none, .append 31 31 256 (.loc 0) (.loc 2), false, []⟩,
      ⟨4, (some 4), none, .asg (.loc 3), false, []⟩] false) (
    .skip))) (
  .seq (
   .region 2 [⟨0, none, none, .mv (.var 4) false, false, []⟩,
     ⟨1, (some 3), none, .asg (.loc 0), false, []⟩] false) (
  .ret)))))))
def l28 : LFun := ⟨2, [(some 0), (some 1), none, none, none, none, none, none, none, none, none, none, none], c28, [.var 3], .pure⟩
/-- slices.Concat[[]umpire/api.State,umpire/api.State] -/
def vm30 : List Nat := [0, 2, 3, 5, 6, 8, 9, 10, 11, 12, 20, 25, 26, 27, 28]
def b30_0 : LCode :=
  .fence [1, 3, 4, 5, 9, 10, 11, 12, 13, 14] (
   .seq (
    .region 1 [⟨0, (some 9), none, .bin .lss (.var 8) (.var 7), false, []⟩] false) (
   .seq (
    .cond (.var 9) (
     .skip) (
     .exit 0)) (
   .seq (
    .block 1 (
     .seq (
      .region 3 [⟨0, none, none, .idxAddrVs 1 (.var 6) (.var 8), false, []⟩,
        ⟨1, none, none, .load false 1 (.loc 0) false, false, []⟩,
        ⟨2, (some 3), none, .asg (.loc 1), false, []⟩] false) (
     .seq (
      .region 5 [⟨0, none, none, .mv (.var 2) true, false, []⟩,
        ⟨1, none, none, .mv (.var 3) true, false, []⟩,
        ⟨2, none, none, .len 1 (.loc 1), false, []⟩,
        ⟨3, none, none, .bin .add (.loc 0) (.loc 2), false, []⟩,
        ⟨4, (some 2), none, .asg (.loc 3), false, []⟩] false) (
     .seq (
      .region 2 [⟨0, none, none, .mv (.var 2) true, false, []⟩,
        ⟨1, (some 10), none, .bin .lss (.loc 0) (.const (.int .i64 0)), false, []⟩] false) (
     .cond (.var 10) (
      .region 2 [⟨0, none, none, .mkIface 9 (.const (.str [108, 101, 110, 32, 111, 117, 116, 32, 111, 102, 32, 114, 97, 110, 103, 101])), false, []⟩,
        ⟨1, (some 15), none, .fail, false, []⟩] false) (
      .skip)))))) (
   .region 2 [⟨0, none, none, .bin .add (.var 8) (.const (.int .i64 1)), false, []⟩,
     ⟨1, (some 8), none, .mv (.loc 0) false, false, []⟩] false))))
def b30_1 : LCode :=
  .fence [0, 1, 2, 3, 5, 6, 7, 8, 9, 10, 14] (
   .seq (
    .region 1 [⟨0, (some 14), none, .bin .lss (.var 13) (.var 12), false, []⟩] false) (
   .seq (
    .cond (.var 14) (
     .skip) (
     .exit 2)) (
   .seq (
    .block 3 (
     .seq (
      .region 3 [⟨0, none, none, .idxAddrVs 1 (.var 11) (.var 13), false, []⟩,
        ⟨1, none, none, .load false 1 (.loc 0) false, false, []⟩,
        ⟨2, (some 5), none, .asg (.loc 1), false, []⟩] false) (
     .region 4 [⟨0, none, none, .mv (.var 4) true, false, []⟩,
       ⟨1, none, none, .mv (.var 5) true, false, []⟩,
       ⟨2, none, none, .append 31 31 256 (.loc 0) (.loc 1), false, []⟩,
       ⟨3, (some 4), none, .asg (.loc 2), false, []⟩] false))) (
   .region 2 [⟨0, none, none, .bin .add (.var 13) (.const (.int .i64 1)), false, []⟩,
     ⟨1, (some 13), none, .mv (.loc 0) false, false, []⟩] false))))
def c30 : LCode :=
  .seq (
   .region 1 [⟨0, (some 1), none, .asg (.const (.vs true .sh 0 [])), false, []⟩] false) (
  .seq (
   .region 1 [⟨0, (some 2), none, .asg (.const (.int .i64 0)), false, []⟩] false) (
  .seq (
   .seq (
    .region 3 [⟨0, (some 6), none, .mv (.var 0) false, false, []⟩,
      ⟨1, (some 7), none, .len 1 (.var 6), false, []⟩,
      ⟨2, (some 8), none, .mv (.const (.int .i64 0)) false, false, []⟩] false) (
   .fence [1, 3, 4, 5, 6, 7, 8, 9, 10, 11, 12, 13, 14] (
    .block 0 (
     .loop b30_0)))) (
  .seq (
   .region 3 [⟨0, none, none, .mv (.var 2) false, false, []⟩,
     ⟨1, none, none, .call 42 [(.const (.vs true .sh 0 [])), (.loc 0)], false, []⟩,
     ⟨2, (some 4), none, .asg (.loc 1), false, []⟩] false) (
  .seq (
   .seq (
    .region 3 [⟨0, (some 11), none, .mv (.var 0) false, false, []⟩,
      ⟨1, (some 12), none, .len 1 (.var 11), false, []⟩,
      ⟨2, (some 13), none, .mv (.const (.int .i64 0)) false, false, []⟩] false) (
   .fence [0, 1, 2, 3, 5, 6, 7, 8, 9, 10, 11, 12, 13, 14] (
    .block 2 (
     .loop b30_1)))) (
  .seq (
   .region 2 [⟨0, none, none, .mv (.var 4) false, false, []⟩,
     ⟨1, (some 1), none, .asg (.loc 0), false, []⟩] false) (
  .ret))))))
def l30 : LFun := ⟨1, [(some 0), none, none, none, none, none, none, none, none, none, none, none, none, none, none], c30, [.var 1], .pure⟩
/-- umpire/umpireref22.Same -/
def vm12 : List Nat := [0, 1, 2, 3, 4]
def r12_0 : LCode :=
  .region 20 [⟨0, none, none, .fieldAddr 0 21 true (.var 2), false, []⟩,
    ⟨1, none, none, .load true 21 (.loc 0) true, false, []⟩,
    ⟨2, none, none, .fieldAddr 0 21 true (.var 3), false, []⟩,
    ⟨3, none, none, .load true 21 (.loc 2) true, false, []⟩,
    ⟨4, none, none, .eqAgg false [(.i .i64), (.i .i64), (.i .i64), .b, .b, (.i .i64), .s, (.i .i64), (.i .i64), (.i .i64), .b, .b, (.i .i64), .s, (.i .i64), (.i .i64), (.i .i64), .b, .b, (.i .i64), .s] (.loc 1) (.loc 3), false, []⟩,
    ⟨5, none, none, .mv (.loc 4) false, false, []⟩,
    ⟨6, none, (some ((.loc 5), true)), .fieldAddr 21 9 true (.var 2), false, []⟩,
    ⟨7, none, (some ((.loc 5), true)), .load true 9 (.loc 6) true, false, []⟩,
    ⟨8, none, (some ((.loc 5), true)), .fieldAddr 21 9 true (.var 3), false, []⟩,
    ⟨9, none, (some ((.loc 5), true)), .load true 9 (.loc 8) true, false, []⟩,
    ⟨10, none, (some ((.loc 5), true)), .eqAgg false [(.i .i64), (.i .i64), .b, .b, .b, (.i .i64), .s, .b, (.i .i64)] (.loc 7) (.loc 9), false, []⟩,
    ⟨11, none, none, .pick (.loc 5) (.loc 10) (.const (.bool false)), false, []⟩,
    ⟨12, none, none, .mv (.loc 11) false, false, []⟩,
    ⟨13, none, (some ((.loc 12), true)), .fieldAddr 30 1 false (.var 2), false, []⟩,
    ⟨14, none, (some ((.loc 12), true)), .load false 1 (.loc 13) false, false, []⟩,
    ⟨15, none, (some ((.loc 12), true)), .fieldAddr 30 1 false (.var 3), false, []⟩,
    ⟨16, none, (some ((.loc 12), true)), .load false 1 (.loc 15) false, false, []⟩,
    ⟨17, none, (some ((.loc 12), true)), .callp 27 [(.loc 14), (.loc 16)], false, []⟩,
    ⟨18, none, none, .pick (.loc 12) (.loc 17) (.const (.bool false)), false, []⟩,
    ⟨19, (some 4), none, .asg (.loc 18), false, []⟩] false
def c12 : LCode :=
  .seq (
   .region 3 [⟨0, (some 2), none, .box 31 (.var 0), false, []⟩,
     ⟨1, (some 3), none, .box 31 (.var 1), false, []⟩,
     ⟨2, (some 4), none, .asg (.const (.bool false)), false, []⟩] false) (
  .seq (
   r12_0) (
  .ret))
def l12 : LFun := ⟨2, [(some 0), (some 1), none, none, none], c12, [.var 4], .pure⟩
/-- (*umpire/sets.key).num -/
def vm20 : List Nat := [0, 1, 4, 8]
def c20 : LCode :=
  .seq (
   .region 3 [⟨0, none, none, .mv (.var 1) true, false, []⟩,
     ⟨1, none, none, .cvInt .u64 (.loc 0), false, []⟩,
     ⟨2, (some 2), none, .asg (.loc 1), false, []⟩] false) (
  .seq (
   .seq (
    .region 2 [⟨0, none, none, .mv (.var 1) true, false, []⟩,
      ⟨1, (some 3), none, .bin .lss (.loc 0) (.const (.int .i64 0)), false, []⟩] false) (
   .cond (.var 3) (
    .seq (
     .region 4 [⟨0, none, none, .mv (.var 0) true, false, []⟩,
       ⟨1, none, none, .nilCheck (.loc 0), false, []⟩,
       ⟨2, none, none, .fieldAddr 0 2 true (.loc 1), false, []⟩,
       ⟨3, none, none, .call 34 [(.loc 2), (.const (.int .u8 45))], false, []⟩] false) (
    .region 3 [⟨0, none, none, .mv (.var 2) true, false, []⟩,
      ⟨1, none, none, .un .neg (.loc 0), false, []⟩,
      ⟨2, (some 2), none, .asg (.loc 1), false, []⟩] false)) (
    .skip))) (
  .seq (
   .region 6 [⟨0, none, none, .mv (.var 0) false, false, []⟩,
     ⟨1, none, none, .nilCheck (.loc 0), false, []⟩,
     ⟨2, none, none, .fieldAddr 0 2 true (.loc 1), false, []⟩,
     ⟨3, none, none, .mv (.var 2) false, false, []⟩,
     ⟨4, none, none, .callp 36 [(.loc 3)], false, []⟩,
     ⟨5, none, none, .call 35 [(.loc 2), (.loc 4)], false, []⟩] true) (
  .region 4 [⟨0, none, none, .mv (.var 0) true, false, []⟩,
    ⟨1, none, none, .nilCheck (.loc 0), false, []⟩,
    ⟨2, none, none, .fieldAddr 0 2 true (.loc 1), false, []⟩,
    ⟨3, none, none, .call 34 [(.loc 2), (.const (.int .u8 44))], false, []⟩] false)))
def l20 : LFun := ⟨2, [(some 0), (some 1), none, none], c20, [], .trim⟩
/-- (*umpire/sets.key).truth -/
def vm21 : List Nat := [0, 1, 4, 5]
def c21 : LCode :=
  .seq (
   .region 1 [⟨0, (some 2), none, .asg (.const (.int .i64 0)), false, []⟩] false) (
  .seq (
   .seq (
    .region 1 [⟨0, (some 3), none, .mv (.var 1) false, false, []⟩] false) (
   .cond (.var 3) (
    .region 1 [⟨0, (some 2), none, .asg (.const (.int .i64 1)), false, []⟩] false) (
    .skip))) (
  .region 3 [⟨0, none, none, .mv (.var 0) false, false, []⟩,
    ⟨1, none, none, .mv (.var 2) false, false, []⟩,
    ⟨2, none, none, .call 20 [(.loc 0), (.loc 1)], false, []⟩] false))
def l21 : LFun := ⟨2, [(some 0), (some 1), none, none], c21, [], .trim⟩
/-- (*umpire/sets.key).text -/
def vm22 : List Nat := [0, 1]
def c22 : LCode :=
  .seq (
   .region 7 [⟨0, none, none, .mv (.var 0) false, false, []⟩,
     ⟨1, none, none, .nilCheck (.loc 0), false, []⟩,
     ⟨2, none, none, .fieldAddr 0 2 true (.loc 1), false, []⟩,
     ⟨3, none, none, .mv (.var 1) false, false, []⟩,
     ⟨4, none, none, .cvBytes (.loc 3), false, []⟩,
     ⟨5, none, none, .callp 37 [(.loc 4)], false, []⟩,
     ⟨6, none, none, .call 35 [(.loc 2), (.loc 5)], false, []⟩] true) (
  .region 4 [⟨0, none, none, .mv (.var 0) true, false, []⟩,
    ⟨1, none, none, .nilCheck (.loc 0), false, []⟩,
    ⟨2, none, none, .fieldAddr 0 2 true (.loc 1), false, []⟩,
    ⟨3, none, none, .call 34 [(.loc 2), (.const (.int .u8 44))], false, []⟩] false)
def l22 : LFun := ⟨2, [(some 0), (some 1)], c22, [], .trim⟩
/-- slices.BinarySearchFunc[[]umpire/api.State,umpire/api.State,string] -/
def vm31 : List Nat := [0, 1, 2, 6, 7, 8, 9, 10, 11, 17, 31]
def b31_0 : LCode :=
  .fence [3, 4, 8, 9, 10] (
   .seq (
    .seq (
     .region 3 [⟨0, none, none, .mv (.var 6) true, false, []⟩,
       ⟨1, none, none, .mv (.var 7) true, false, []⟩,
       ⟨2, (some 9), none, .bin .lss (.loc 0) (.loc 1), false, []⟩] false) (
    .cond (.var 9) (
     .skip) (
     .exit 0))) (
   .block 1 (
    .seq (
     .region 7 [⟨0, none, none, .mv (.var 6) true, false, []⟩,
       ⟨1, none, none, .mv (.var 7) true, false, []⟩,
       ⟨2, none, none, .bin .add (.loc 0) (.loc 1), false, []⟩,
       ⟨3, none, none, .cvInt .u64 (.loc 2), false, []⟩,
       ⟨4, none, none, .bin .shr (.loc 3) (.const (.int .u64 1)), false, []⟩,
       ⟨5, none, none, .cvInt .i64 (.loc 4), false, []⟩,
       ⟨6, (some 8), none, .asg (.loc 5), false, []⟩] false) (
    .seq (
     .region 8 [⟨0, none, none, .mv (.var 2) false, false, []⟩,
       ⟨1, none, none, .mv (.var 0) false, false, []⟩,
       ⟨2, none, none, .mv (.var 8) false, false, []⟩,
       ⟨3, none, none, .idxAddrVs 31 (.loc 1) (.loc 2), false, []⟩,
       ⟨4, none, none, .load true 31 (.loc 3) false, false, []⟩,
       ⟨5, none, none, .mv (.var 1) false, false, []⟩,
       ⟨6, none, none, .callv (.loc 0) [(.loc 4), (.loc 5)], false, []⟩,
       ⟨7, (some 10), none, .bin .lss (.loc 6) (.const (.int .i64 0)), false, []⟩] false) (
    .cond (.var 10) (
     .region 3 [⟨0, none, none, .mv (.var 8) true, false, []⟩,
       ⟨1, none, none, .bin .add (.loc 0) (.const (.int .i64 1)), false, []⟩,
       ⟨2, (some 6), none, .asg (.loc 1), false, []⟩] false) (
     .region 2 [⟨0, none, none, .mv (.var 8) false, false, []⟩,
       ⟨1, (some 7), none, .asg (.loc 0), false, []⟩] false))))))
def r31_1 : LCode :=
  .region 16 [⟨0, none, none, .mv (.var 6) false, false, []⟩,
    ⟨1, none, none, .mv (.var 6) true, false, []⟩,
    ⟨2, none, none, .mv (.var 5) true, false, []⟩,
    ⟨3, none, none, .bin .lss (.loc 1) (.loc 2), false, []⟩,
    ⟨4, none, none, .mv (.loc 3) false, false, []⟩,
    ⟨5, none, (some ((.loc 4), true)), .mv (.var 2) false, false, []⟩,
    ⟨6, none, (some ((.loc 4), true)), .mv (.var 0) false, false, []⟩,
    ⟨7, none, (some ((.loc 4), true)), .mv (.var 6) false, false, []⟩,
    ⟨8, none, (some ((.loc 4), true)), .idxAddrVs 31 (.loc 6) (.loc 7), false, []⟩,
    ⟨9, none, (some ((.loc 4), true)), .load true 31 (.loc 8) false, false, []⟩,
    ⟨10, none, (some ((.loc 4), true)), .mv (.var 1) false, false, []⟩,
    ⟨11, none, (some ((.loc 4), true)), .callv (.loc 5) [(.loc 9), (.loc 10)], false, []⟩,
    ⟨12, none, (some ((.loc 4), true)), .bin .eql (.loc 11) (.const (.int .i64 0)), false, []⟩,
    ⟨13, none, none, .pick (.loc 4) (.loc 12) (.const (.bool false)), false, []⟩,
    ⟨14, (some 3), none, .asg (.loc 0), false, []⟩,
    ⟨15, (some 4), none, .asg (.loc 13), false, []⟩] false
def c31 : LCode :=
  .seq (
   .region 2 [⟨0, (some 3), none, .asg (.const (.int .i64 0)), false, []⟩,
     ⟨1, (some 4), none, .asg (.const (.bool false)), false, []⟩] false) (
  .seq (
   .region 3 [⟨0, none, none, .mv (.var 0) true, false, []⟩,
     ⟨1, none, none, .len 1 (.loc 0), false, []⟩,
     ⟨2, (some 5), none, .asg (.loc 1), false, []⟩] false) (
  .seq (
   .region 3 [⟨0, none, none, .mv (.var 5) false, false, []⟩,
     ⟨1, (some 6), none, .asg (.const (.int .i64 0)), false, []⟩,
     ⟨2, (some 7), none, .asg (.loc 0), false, []⟩] false) (
  .seq (
   .fence [3, 4, 7, 8, 9, 10] (
    .block 0 (
     .loop b31_0))) (
  .seq (
   r31_1) (
  .ret)))))
def l31 : LFun := ⟨3, [(some 0), (some 1), (some 2), none, none, none, none, none, none, none, none], c31, [.var 3, .var 4], .trim⟩
/-- umpire/sets.Has$1 -/
def vm32 : List Nat := [0, 1, 2, 4]
def c32 : LCode :=
  .seq (
   .region 2 [⟨0, (some 2), none, .box 31 (.var 0), false, []⟩,
     ⟨1, (some 3), none, .asg (.const (.int .i64 0)), false, []⟩] false) (
  .seq (
   .region 5 [⟨0, none, none, .load true 31 (.var 2) false, false, []⟩,
     ⟨1, none, none, .callp 10 [(.loc 0)], false, []⟩,
     ⟨2, none, none, .mv (.var 1) false, false, []⟩,
     ⟨3, none, none, .callp 33 [(.loc 1), (.loc 2)], false, []⟩,
     ⟨4, (some 3), none, .asg (.loc 3), false, []⟩] false) (
  .ret))
def l32 : LFun := ⟨2, [(some 0), (some 1), none, none], c32, [.var 3], .pure⟩
/-- maps.Keys[map[string]umpire/api.State,string,umpire/api.State] -/
def vm41 : List Nat := [0, 1, 2]
def c41 : LCode :=
  .seq (
   .region 2 [⟨0, (some 1), none, .box 59 (.var 0), false, []⟩,
     ⟨1, (some 2), none, .asg (.const .nilfunc), false, []⟩] false) (
  .seq (
   .region 2 [⟨0, none, none, .mkFunc 49 [(.var 1)], false, []⟩,
     ⟨1, (some 2), none, .asg (.loc 0), false, []⟩] false) (
  .ret))
def l41 : LFun := ⟨1, [(some 0), none, none], c41, [.var 2], .keep⟩
/-- umpire/umpireref23.Key -/
def vm11 : List Nat := [0, 1, 2, 3, 4, 5, 6, 7, 8, 10, 96]
def r11_0 : LCode :=
  .region 32 [⟨0, none, none, .mv (.var 3) false, false, []⟩,
    ⟨1, none, none, .fieldAddr 0 2 true (.var 5), false, []⟩,
    ⟨2, none, none, .fieldAddr 0 1 false (.loc 1), false, []⟩,
    ⟨3, none, none, .load false 1 (.loc 2) false, false, []⟩,
    ⟨4, none, none, .callp 24 [(.loc 3)], false, []⟩,
    ⟨5, none, none, .bin .add (.loc 0) (.loc 4), false, []⟩,
    ⟨6, none, none, .fieldAddr 0 2 true (.var 5), false, []⟩,
    ⟨7, none, none, .fieldAddr 1 1 false (.loc 6), false, []⟩,
    ⟨8, none, none, .load false 1 (.loc 7) false, false, []⟩,
    ⟨9, none, none, .callp 24 [(.loc 8)], false, []⟩,
    ⟨10, none, none, .bin .add (.loc 5) (.loc 9), false, []⟩,
    ⟨11, none, none, .fieldAddr 2 1 false (.var 5), false, []⟩,
    ⟨12, none, none, .load false 1 (.loc 11) false, false, []⟩,
    ⟨13, none, none, .callp 24 [(.loc 12)], false, []⟩,
    ⟨14, none, none, .bin .add (.loc 10) (.loc 13), false, []⟩,
    ⟨15, none, none, .fieldAddr 3 1 false (.var 5), false, []⟩,
    ⟨16, none, none, .load false 1 (.loc 15) false, false, []⟩,
    ⟨17, none, none, .callp 25 [(.loc 16)], false, []⟩,
    ⟨18, none, none, .bin .add (.loc 14) (.loc 17), false, []⟩,
    ⟨19, none, none, .fieldAddr 4 1 false (.var 5), false, []⟩,
    ⟨20, none, none, .load false 1 (.loc 19) false, false, []⟩,
    ⟨21, none, none, .callp 25 [(.loc 20)], false, []⟩,
    ⟨22, none, none, .bin .add (.loc 18) (.loc 21), false, []⟩,
    ⟨23, none, none, .fieldAddr 5 1 false (.var 5), false, []⟩,
    ⟨24, none, none, .load false 1 (.loc 23) false, false, []⟩,
    ⟨25, none, none, .callp 24 [(.loc 24)], false, []⟩,
    ⟨26, none, none, .bin .add (.loc 22) (.loc 25), false, []⟩,
    ⟨27, none, none, .fieldAddr 6 1 false (.var 5), false, []⟩,
    ⟨28, none, none, .load false 1 (.loc 27) false, false, []⟩,
    ⟨29, none, none, .callp 26 [(.loc 28)], false, []⟩,
    ⟨30, none, none, .bin .add (.loc 26) (.loc 29), false, []⟩,
    ⟨31, (some 3), none, .asg (.loc 30), false, []⟩] true
def b11_1 : LCode :=
  .fence [0, 2, 5, 6, 7, 8, 9, 10] (
   .seq (
    .seq (
     .region 2 [⟨0, none, none, .mv (.var 4) true, false, []⟩,
       ⟨1, (some 9), none, .bin .lss (.loc 0) (.const (.int .i64 3)), false, []⟩] false) (
    .cond (.var 9) (
     .skip) (
     .exit 0))) (
   .seq (
    .block 1 (
     .seq (
      .region 6 [⟨0, none, none, .mv (.var 4) false, false, []⟩,
        ⟨1, none, none, .fieldAddr 0 21 true (.var 1), false, []⟩,
        ⟨2, none, none, .idxAddrArr 3 7 true (.loc 1) (.loc 0), false, []⟩,
        ⟨3, none, none, .load true 7 (.loc 2) false, false, []⟩,
        ⟨4, (some 5), none, .alloc 25 [(.int .i64 0), (.int .i64 0), (.int .i64 0), (.bool false), (.bool false), (.int .i64 0), (.str [])], false, []⟩,
        ⟨5, (some 11), none, .store 7 (.var 5) (.loc 3), false, []⟩] false) (
     r11_0))) (
   .region 3 [⟨0, none, none, .mv (.var 4) true, false, []⟩,
     ⟨1, none, none, .bin .add (.loc 0) (.const (.int .i64 1)), false, []⟩,
     ⟨2, (some 4), none, .asg (.loc 1), false, []⟩] false)))
def r11_2 : LCode :=
  .region 43 [⟨0, none, none, .mv (.var 3) false, false, []⟩,
    ⟨1, none, none, .fieldAddr 0 1 false (.var 6), false, []⟩,
    ⟨2, none, none, .load false 1 (.loc 1) false, false, []⟩,
    ⟨3, none, none, .callp 24 [(.loc 2)], false, []⟩,
    ⟨4, none, none, .bin .add (.loc 0) (.loc 3), false, []⟩,
    ⟨5, none, none, .fieldAddr 1 1 false (.var 6), false, []⟩,
    ⟨6, none, none, .load false 1 (.loc 5) false, false, []⟩,
    ⟨7, none, none, .callp 24 [(.loc 6)], false, []⟩,
    ⟨8, none, none, .bin .add (.loc 4) (.loc 7), false, []⟩,
    ⟨9, none, none, .fieldAddr 2 1 false (.var 6), false, []⟩,
    ⟨10, none, none, .load false 1 (.loc 9) false, false, []⟩,
    ⟨11, none, none, .callp 25 [(.loc 10)], false, []⟩,
    ⟨12, none, none, .bin .add (.loc 8) (.loc 11), false, []⟩,
    ⟨13, none, none, .fieldAddr 3 1 false (.var 6), false, []⟩,
    ⟨14, none, none, .load false 1 (.loc 13) false, false, []⟩,
    ⟨15, none, none, .callp 25 [(.loc 14)], false, []⟩,
    ⟨16, none, none, .bin .add (.loc 12) (.loc 15), false, []⟩,
    ⟨17, none, none, .fieldAddr 4 1 false (.var 6), false, []⟩,
    ⟨18, none, none, .load false 1 (.loc 17) false, false, []⟩,
    ⟨19, none, none, .callp 25 [(.loc 18)], false, []⟩,
    ⟨20, none, none, .bin .add (.loc 16) (.loc 19), false, []⟩,
    ⟨21, none, none, .fieldAddr 5 1 false (.var 6), false, []⟩,
    ⟨22, none, none, .load false 1 (.loc 21) false, false, []⟩,
    ⟨23, none, none, .callp 24 [(.loc 22)], false, []⟩,
    ⟨24, none, none, .bin .add (.loc 20) (.loc 23), false, []⟩,
    ⟨25, none, none, .fieldAddr 6 1 false (.var 6), false, []⟩,
    ⟨26, none, none, .load false 1 (.loc 25) false, false, []⟩,
    ⟨27, none, none, .callp 26 [(.loc 26)], false, []⟩,
    ⟨28, none, none, .bin .add (.loc 24) (.loc 27), false, []⟩,
    ⟨29, none, none, .fieldAddr 7 1 false (.var 6), false, []⟩,
    ⟨30, none, none, .load false 1 (.loc 29) false, false, []⟩,
    ⟨31, none, none, .callp 25 [(.loc 30)], false, []⟩,
    ⟨32, none, none, .bin .add (.loc 28) (.loc 31), false, []⟩,
    ⟨33, none, none, .fieldAddr 8 1 false (.var 6), false, []⟩,
    ⟨34, none, none, .load false 1 (.loc 33) false, false, []⟩,
    ⟨35, none, none, .callp 24 [(.loc 34)], false, []⟩,
    ⟨36, none, none, .bin .add (.loc 32) (.loc 35), false, []⟩,
    ⟨37, none, none, .fieldAddr 30 1 false (.var 1), false, []⟩,
    ⟨38, none, none, .load false 1 (.loc 37) false, false, []⟩,
    ⟨39, none, none, .len 1 (.loc 38), false, []⟩,
    ⟨40, none, none, .callp 24 [(.loc 39)], false, []⟩,
    ⟨41, none, none, .bin .add (.loc 36) (.loc 40), false, []⟩,
    ⟨42, (some 3), none, .asg (.loc 41), false, []⟩] true
def r11_3 : LCode :=
  .region 18 [⟨0, none, none, .mv (.var 3) false, false, []⟩,
    ⟨1, none, none, .fieldAddr 0 1 false (.var 8), false, []⟩,
    ⟨2, none, none, .load false 1 (.loc 1) false, false, []⟩,
    ⟨3, none, none, .callp 24 [(.loc 2)], false, []⟩,
    ⟨4, none, none, .bin .add (.loc 0) (.loc 3), false, []⟩,
    ⟨5, none, none, .fieldAddr 1 1 false (.var 8), false, []⟩,
    ⟨6, none, none, .load false 1 (.loc 5) false, false, []⟩,
    ⟨7, none, none, .callp 24 [(.loc 6)], false, []⟩,
    ⟨8, none, none, .bin .add (.loc 4) (.loc 7), false, []⟩,
    ⟨9, none, none, .fieldAddr 2 1 false (.var 8), false, []⟩,
    ⟨10, none, none, .load false 1 (.loc 9) false, false, []⟩,
    ⟨11, none, none, .callp 24 [(.loc 10)], false, []⟩,
    ⟨12, none, none, .bin .add (.loc 8) (.loc 11), false, []⟩,
    ⟨13, none, none, .fieldAddr 3 1 false (.var 8), false, []⟩,
    ⟨14, none, none, .load false 1 (.loc 13) false, false, []⟩,
    ⟨15, none, none, .callp 26 [(.loc 14)], false, []⟩,
    ⟨16, none, none, .bin .add (.loc 12) (.loc 15), false, []⟩,
    ⟨17, (some 3), none, .asg (.loc 16), false, []⟩] true
def b11_4 : LCode :=
  .fence [0, 2, 4, 5, 6, 8, 9, 10] (
   .seq (
    .seq (
     .region 5 [⟨0, none, none, .mv (.var 7) true, false, []⟩,
       ⟨1, none, none, .fieldAddr 30 1 false (.var 1), false, []⟩,
       ⟨2, none, none, .load false 1 (.loc 1) true, false, []⟩,
       ⟨3, none, none, .len 1 (.loc 2), false, []⟩,
       ⟨4, (some 10), none, .bin .lss (.loc 0) (.loc 3), false, []⟩] false) (
    .cond (.var 10) (
     .skip) (
     .exit 2))) (
   .seq (
    .block 3 (
     .seq (
      .region 7 [⟨0, none, none, .fieldAddr 30 1 false (.var 1), false, []⟩,
        ⟨1, none, none, .load false 1 (.loc 0) false, false, []⟩,
        ⟨2, none, none, .mv (.var 7) false, false, []⟩,
        ⟨3, none, none, .idxAddrVs 4 (.loc 1) (.loc 2), false, []⟩,
        ⟨4, none, none, .load true 4 (.loc 3) false, false, []⟩,
        ⟨5, (some 8), none, .alloc 43 [(.int .i64 0), (.int .i64 0), (.int .i64 0), (.str [])], false, []⟩,
        ⟨6, (some 11), none, .store 4 (.var 8) (.loc 4), false, []⟩] false) (
     r11_3))) (
   .region 3 [⟨0, none, none, .mv (.var 7) true, false, []⟩,
     ⟨1, none, none, .bin .add (.loc 0) (.const (.int .i64 1)), false, []⟩,
     ⟨2, (some 7), none, .asg (.loc 1), false, []⟩] false)))
def c11 : LCode :=
  .seq (
   .region 2 [⟨0, (some 1), none, .box 31 (.var 0), false, []⟩,
     ⟨1, (some 2), none, .asg (.const (.str [])), false, []⟩] false) (
  .seq (
   .region 1 [⟨0, (some 3), none, .asg (.const (.str [])), false, []⟩] false) (
  .seq (
   .seq (
    .region 1 [⟨0, (some 4), none, .asg (.const (.int .i64 0)), false, []⟩] false) (
   .fence [0, 2, 4, 5, 6, 7, 8, 9, 10] (
    .block 0 (
     .loop b11_1)))) (
  .seq (
   .region 4 [⟨0, none, none, .fieldAddr 21 9 true (.var 1), false, []⟩,
     ⟨1, none, none, .load true 9 (.loc 0) false, false, []⟩,
     ⟨2, (some 6), none, .alloc 28 [(.int .i64 0), (.int .i64 0), (.bool false), (.bool false), (.bool false), (.int .i64 0), (.str []), (.bool false), (.int .i64 0)], false, []⟩,
     ⟨3, (some 11), none, .store 9 (.var 6) (.loc 1), false, []⟩] false) (
  .seq (
   r11_2) (
  .seq (
   .seq (
    .region 1 [⟨0, (some 7), none, .asg (.const (.int .i64 0)), false, []⟩] false) (
   .fence [0, 1, 2, 4, 5, 6, 7, 8, 9, 10] (
    .block 2 (
     .loop b11_4)))) (
  .seq (
   .region 2 [⟨0, none, none, .mv (.var 3) false, false, []⟩,
     ⟨1, (some 2), none, .asg (.loc 0), false, []⟩] false) (
  .ret)))))))
def l11 : LFun := ⟨1, [(some 0), none, none, none, none, none, none, none, none, none, none], c11, [.var 2], .pure⟩
/-- umpire/umpireref21.Same -/
def vm27 : List Nat := [0, 1, 4, 5, 10, 14, 25]
def b27_0 : LCode :=
  .fence [2, 4, 5, 6] (
   .seq (
    .seq (
     .region 4 [⟨0, none, none, .mv (.var 3) true, false, []⟩,
       ⟨1, none, none, .mv (.var 0) true, false, []⟩,
       ⟨2, none, none, .len 1 (.loc 1), false, []⟩,
       ⟨3, (some 5), none, .bin .lss (.loc 0) (.loc 2), false, []⟩] false) (
    .cond (.var 5) (
     .skip) (
     .exit 0))) (
   .seq (
    .block 1 (
     .seq (
      .region 9 [⟨0, none, none, .mv (.var 0) false, false, []⟩,
        ⟨1, none, none, .mv (.var 3) false, false, []⟩,
        ⟨2, none, none, .idxAddrVs 4 (.loc 0) (.loc 1), false, []⟩,
        ⟨3, none, none, .load true 4 (.loc 2) false, false, []⟩,
        ⟨4, none, none, .mv (.var 1) false, false, []⟩,
        ⟨5, none, none, .mv (.var 3) false, false, []⟩,
        ⟨6, none, none, .idxAddrVs 4 (.loc 4) (.loc 5), false, []⟩,
        ⟨7, none, none, .load true 4 (.loc 6) false, false, []⟩,
        ⟨8, (some 6), none, .eqAgg true [(.i .i64), (.i .i64), (.i .i64), .s] (.loc 3) (.loc 7), false, []⟩] true) (
     .cond (.var 6) (
      .seq (
       .region 1 [⟨0, (some 2), none, .asg (.const (.bool false)), false, []⟩] false) (
      .ret)) (
      .skip)))) (
   .region 3 [⟨0, none, none, .mv (.var 3) true, false, []⟩,
     ⟨1, none, none, .bin .add (.loc 0) (.const (.int .i64 1)), false, []⟩,
     ⟨2, (some 3), none, .asg (.loc 1), false, []⟩] false)))
def c27 : LCode :=
  .seq (
   .region 1 [⟨0, (some 2), none, .asg (.const (.bool false)), false, []⟩] false) (
  .seq (
   .seq (
    .region 5 [⟨0, none, none, .mv (.var 0) true, false, []⟩,
      ⟨1, none, none, .len 1 (.loc 0), false, []⟩,
      ⟨2, none, none, .mv (.var 1) true, false, []⟩,
      ⟨3, none, none, .len 1 (.loc 2), false, []⟩,
      ⟨4, (some 4), none, .bin .neq (.loc 1) (.loc 3), false, []⟩] false) (
   .cond (.var 4) (
    .seq (
     .region 1 [⟨0, (some 2), none, .asg (.const (.bool false)), false, []⟩] false) (
    .ret)) (
    .skip))) (
  .seq (
   .seq (
    .region 1 [⟨0, (some 3), none, .asg (.const (.int .i64 0)), false, []⟩] false) (
   .fence [0, 1, 2, 3, 4, 5, 6] (
    .block 0 (
     .loop b27_0)))) (
  .seq (
   .region 1 [⟨0, (some 2), none, .asg (.const (.bool true)), false, []⟩] false) (
  .ret))))
def l27 : LFun := ⟨2, [(some 0), (some 1), none, none, none, none, none], c27, [.var 2], .pure⟩
/-- (*strings.Builder).WriteByte -/
def vm34 : List Nat := [0, 1, 4]
def c34 : LCode :=
  .seq (
   .region 1 [⟨0, (some 2), none, .asg (.const .niliface), false, []⟩] false) (
  .seq (
   .region 2 [⟨0, none, none, .mv (.var 0) false, false, []⟩,
     ⟨1, none, none, .call 44 [(.loc 0)], false, []⟩] false) (
  .seq (
   .region 11 [⟨0, none, none, .mv (.var 0) true, false, []⟩,
     ⟨1, none, none, .mv (.var 0) true, false, []⟩,
     ⟨2, none, none, .nilCheck (.loc 1), false, []⟩,
     ⟨3, none, none, .fieldAddr 1 1 false (.loc 2), false, []⟩,
     ⟨4, none, none, .load false 1 (.loc 3) true, false, []⟩,
     ⟨5, none, none, .mv (.var 1) false, false, []⟩,
     ⟨6, none, none, .mkslice (.int .u8 0) 1 1 [(0, (.loc 5))], false, []⟩,
     ⟨7, none, none, .append 5 1 1 (.loc 4) (.loc 6), false, []⟩,
     ⟨8, none, none, .nilCheck (.loc 0), false, []⟩,
     ⟨9, none, none, .fieldAddr 1 1 false (.loc 8), false, []⟩,
     ⟨10, (some 3), none, .store 1 (.loc 9) (.loc 7), false, []⟩] false) (
  .seq (
   .region 1 [⟨0, (some 2), none, .asg (.const .niliface), false, []⟩] false) (
  .ret))))
def l34 : LFun := ⟨2, [(some 0), (some 1), none], c34, [.var 2], .keep⟩
/-- umpire/digits.Dec -/
def vm36 : List Nat := [0, 2]
def c36 : LCode :=
  .seq (
   .region 1 [⟨0, (some 1), none, .asg (.const (.str [])), false, []⟩] false) (
  .seq (
   .region 3 [⟨0, none, none, .mv (.var 0) false, false, []⟩,
     ⟨1, none, none, .callp 45 [(.loc 0), (.const (.int .u64 10))], false, []⟩,
     ⟨2, (some 1), none, .asg (.loc 1), false, []⟩] false) (
  .ret))
def l36 : LFun := ⟨1, [(some 0), none], c36, [.var 1], .pure⟩
/-- (*strings.Builder).WriteString -/
def vm35 : List Nat := [0, 1, 4, 5]
def c35 : LCode :=
  .seq (
   .region 2 [⟨0, (some 2), none, .asg (.const (.int .i64 0)), false, []⟩,
     ⟨1, (some 3), none, .asg (.const .niliface), false, []⟩] false) (
  .seq (
   .region 2 [⟨0, none, none, .mv (.var 0) false, false, []⟩,
     ⟨1, none, none, .call 44 [(.loc 0)], false, []⟩] false) (
  .seq (
   .region 10 [⟨0, none, none, .mv (.var 0) true, false, []⟩,
     ⟨1, none, none, .mv (.var 0) true, false, []⟩,
     ⟨2, none, none, .nilCheck (.loc 1), false, []⟩,
     ⟨3, none, none, .fieldAddr 1 1 false (.loc 2), false, []⟩,
     ⟨4, none, none, .load false 1 (.loc 3) true, false, []⟩,
     ⟨5, none, none, .mv (.var 1) true, false, []⟩,
     ⟨6, none, none, .append 5 1 1 (.loc 4) (.loc 5), false, []⟩,
     ⟨7, none, none, .nilCheck (.loc 0), false, []⟩,
     ⟨8, none, none, .fieldAddr 1 1 false (.loc 7), false, []⟩,
     ⟨9, (some 4), none, .store 1 (.loc 8) (.loc 6), false, []⟩] false) (
  .seq (
   .region 4 [⟨0, none, none, .mv (.var 1) true, false, []⟩,
     ⟨1, none, none, .len 0 (.loc 0), false, []⟩,
     ⟨2, (some 2), none, .asg (.loc 1), false, []⟩,
     ⟨3, (some 3), none, .asg (.const .niliface), false, []⟩] false) (
  .ret))))
def l35 : LFun := ⟨2, [(some 0), (some 1), none, none], c35, [.var 2, .var 3], .keep⟩
/-- umpire/digits.Bytes -/
def vm37 : List Nat := [0, 2, 3, 5, 10, 11, 12, 13]
def b37_0 : LCode :=
  .fence [0, 1, 3, 7] (
   .seq (
    .region 1 [⟨0, (some 7), none, .bin .lss (.var 6) (.var 5), false, []⟩] false) (
   .seq (
    .cond (.var 7) (
     .skip) (
     .exit 0)) (
   .seq (
    .block 1 (
     .seq (
      .region 3 [⟨0, none, none, .idxAddrVs 1 (.var 4) (.var 6), false, []⟩,
        ⟨1, none, none, .load false 1 (.loc 0) false, false, []⟩,
        ⟨2, (some 3), none, .asg (.loc 1), false, []⟩] false) (
     .region 12 [⟨0, none, none, .mv (.var 2) true, false, []⟩,
       ⟨1, none, none, .mv (.var 3) true, false, []⟩,
       ⟨2, none, none, .bin .quo (.loc 1) (.const (.int .u8 16)), false, []⟩,
       ⟨3, none, none, .cvInt .u64 (.loc 2), false, []⟩,
       ⟨4, none, none, .callp 46 [(.loc 3)], false, []⟩,
       ⟨5, none, none, .mv (.var 3) true, false, []⟩,
       ⟨6, none, none, .bin .rem (.loc 5) (.const (.int .u8 16)), false, []⟩,
       ⟨7, none, none, .cvInt .u64 (.loc 6), false, []⟩,
       ⟨8, none, none, .callp 46 [(.loc 7)], false, []⟩,
       ⟨9, none, none, .mkslice (.int .u8 0) 1 2 [(0, (.loc 4)), (1, (.loc 8))], false, []⟩,
       ⟨10, none, none, .append 5 1 1 (.loc 0) (.loc 9), false, []⟩,
       ⟨11, (some 2), none, .asg (.loc 10), false, []⟩] false))) (
   .region 2 [⟨0, none, none, .bin .add (.var 6) (.const (.int .i64 1)), false, []⟩,
     ⟨1, (some 6), none, .mv (.loc 0) false, false, []⟩] false))))
def c37 : LCode :=
  .seq (
   .region 1 [⟨0, (some 1), none, .asg (.const (.str [])), false, []⟩] false) (
  .seq (
   .region 5 [⟨0, none, none, .mv (.var 0) true, false, []⟩,
     ⟨1, none, none, .len 1 (.loc 0), false, []⟩,
     ⟨2, none, none, .bin .mul (.const (.int .i64 2)) (.loc 1), false, []⟩,
     ⟨3, none, none, .makeSlice (.int .u8 0) 5 1 1 (.const (.int .i64 0)) (.loc 2) false, false, []⟩,
     ⟨4, (some 2), none, .asg (.loc 3), false, []⟩] false) (
  .seq (
   .seq (
    .region 3 [⟨0, (some 4), none, .mv (.var 0) false, false, []⟩,
      ⟨1, (some 5), none, .len 1 (.var 4), false, []⟩,
      ⟨2, (some 6), none, .mv (.const (.int .i64 0)) false, false, []⟩] false) (
   .fence [0, 1, 3, 4, 5, 6, 7] (
    .block 0 (
     .loop b37_0)))) (
  .seq (
   .region 3 [⟨0, none, none, .mv (.var 2) true, false, []⟩,
     ⟨1, none, none, .cvStr (.loc 0), false, []⟩,
     ⟨2, (some 1), none, .asg (.loc 1), false, []⟩] false) (
  .ret))))
def l37 : LFun := ⟨1, [(some 0), none, none, none, none, none, none, none], c37, [.var 1], .pure⟩
/-- strings.Compare -/
def vm33 : List Nat := [0, 1, 4]
def c33 : LCode :=
  .seq (
   .region 1 [⟨0, (some 2), none, .asg (.const (.int .i64 0)), false, []⟩] false) (
  .seq (
   .region 4 [⟨0, none, none, .mv (.var 0) false, false, []⟩,
     ⟨1, none, none, .mv (.var 1) false, false, []⟩,
     ⟨2, none, none, .callp 43 [(.loc 0), (.loc 1)], false, []⟩,
     ⟨3, (some 2), none, .asg (.loc 2), false, []⟩] false) (
  .ret))
def l33 : LFun := ⟨2, [(some 0), (some 1), none], c33, [.var 2], .pure⟩
/-- maps.Keys[map[string]umpire/api.State,string,umpire/api.State]$1 -/
def vm49 : List Nat := [0, 1, 3, 5, 7, 13]
def b49_0 : LCode :=
  .fence [1, 2, 3, 4, 5] (
   .seq (
    .region 2 [⟨0, none, none, .fail, false, []⟩,
      ⟨1, (some 4), none, .extract (.loc 0) 0, false, []⟩] false) (
   .seq (
    .cond (.var 4) (
     .skip) (
     .exit 0)) (
   .block 1 (
    .seq (
     .region 3 [⟨0, none, none, .fail, false, []⟩,
       ⟨1, none, none, .extract (.loc 0) 0, false, []⟩,
       ⟨2, (some 2), none, .asg (.loc 1), false, []⟩] false) (
    .seq (
     .region 4 [⟨0, none, none, .mv (.var 0) false, false, []⟩,
       ⟨1, none, none, .mv (.var 2) false, false, []⟩,
       ⟨2, none, none, .callv (.loc 0) [(.loc 1)], false, []⟩,
       ⟨3, (some 5), none, .un .not (.loc 2), false, []⟩] false) (
    .cond (.var 5) (
     .ret) (
     .skip)))))))
def c49 : LCode :=
  .seq (
   .region 2 [⟨0, none, none, .load false 1 (.var 1) false, false, []⟩,
     ⟨1, (some 3), none, .fail, false, []⟩] false) (
  .fence [0, 1, 2, 3, 4, 5] (
   .block 0 (
    .loop b49_0)))
def l49 : LFun := ⟨2, [(some 0), (some 1), none, none, none, none], c49, [], .trim⟩
/-- umpire/umpireref23.num -/
def vm24 : List Nat := [0, 2, 4]
def c24 : LCode :=
  .seq (
   .region 1 [⟨0, (some 1), none, .asg (.const (.str [])), false, []⟩] false) (
  .seq (
   .seq (
    .region 2 [⟨0, none, none, .mv (.var 0) true, false, []⟩,
      ⟨1, (some 2), none, .bin .lss (.loc 0) (.const (.int .i64 0)), false, []⟩] false) (
   .cond (.var 2) (
    .seq (
     .region 9 [⟨0, none, none, .mv (.var 0) true, false, []⟩,
       ⟨1, none, none, .bin .add (.loc 0) (.const (.int .i64 1)), false, []⟩,
       ⟨2, none, none, .un .neg (.loc 1), false, []⟩,
       ⟨3, none, none, .cvInt .u64 (.loc 2), false, []⟩,
       ⟨4, none, none, .bin .add (.loc 3) (.const (.int .u64 1)), false, []⟩,
       ⟨5, none, none, .callp 38 [(.loc 4), (.const (.int .u64 10))], false, []⟩,
       ⟨6, none, none, .bin .add (.const (.str [45])) (.loc 5), false, []⟩,
       ⟨7, none, none, .bin .add (.loc 6) (.const (.str [44])), false, []⟩,
       ⟨8, (some 1), none, .asg (.loc 7), false, []⟩] false) (
    .ret)) (
    .skip))) (
  .seq (
   .region 5 [⟨0, none, none, .mv (.var 0) true, false, []⟩,
     ⟨1, none, none, .cvInt .u64 (.loc 0), false, []⟩,
     ⟨2, none, none, .callp 38 [(.loc 1), (.const (.int .u64 10))], false, []⟩,
     ⟨3, none, none, .bin .add (.loc 2) (.const (.str [44])), false, []⟩,
     ⟨4, (some 1), none, .asg (.loc 3), false, []⟩] false) (
  .ret)))
def l24 : LFun := ⟨1, [(some 0), none, none], c24, [.var 1], .pure⟩
/-- umpire/umpireref23.truth -/
def vm25 : List Nat := [0, 2, 3]
def c25 : LCode :=
  .seq (
   .region 1 [⟨0, (some 1), none, .asg (.const (.str [])), false, []⟩] false) (
  .seq (
   .seq (
    .region 1 [⟨0, (some 2), none, .mv (.var 0) false, false, []⟩] false) (
   .cond (.var 2) (
    .seq (
     .region 1 [⟨0, (some 1), none, .asg (.const (.str [49, 44])), false, []⟩] false) (
    .ret)) (
    .skip))) (
  .seq (
   .region 1 [⟨0, (some 1), none, .asg (.const (.str [48, 44])), false, []⟩] false) (
  .ret)))
def l25 : LFun := ⟨1, [(some 0), none, none], c25, [.var 1], .pure⟩
/-- umpire/umpireref23.text -/
def vm26 : List Nat := [0, 2]
def c26 : LCode :=
  .seq (
   .region 1 [⟨0, (some 1), none, .asg (.const (.str [])), false, []⟩] false) (
  .seq (
   .region 5 [⟨0, none, none, .mv (.var 0) true, false, []⟩,
     ⟨1, none, none, .cvBytes (.loc 0), false, []⟩,
     ⟨2, none, none, .callp 39 [(.loc 1)], false, []⟩,
     ⟨3, none, none, .bin .add (.loc 2) (.const (.str [44])), false, []⟩,
     ⟨4, (some 1), none, .asg (.loc 3), false, []⟩] false) (
  .ret))
def l26 : LFun := ⟨1, [(some 0), none], c26, [.var 1], .pure⟩
/-- umpire/digits.put -/
def vm45 : List Nat := [0, 1, 4, 5, 17]
def b45_0 : LCode :=
  .fence [2, 4] (
   .block 1 (
    .seq (
     .region 8 [⟨0, none, none, .mv (.var 0) true, false, []⟩,
       ⟨1, none, none, .mv (.var 1) true, false, []⟩,
       ⟨2, none, none, .bin .rem (.loc 0) (.loc 1), false, []⟩,
       ⟨3, none, none, .callp 46 [(.loc 2)], false, []⟩,
       ⟨4, none, none, .mkslice (.int .u8 0) 1 1 [(0, (.loc 3))], false, []⟩,
       ⟨5, none, none, .mv (.var 3) true, false, []⟩,
       ⟨6, none, none, .append 5 1 1 (.loc 4) (.loc 5), false, []⟩,
       ⟨7, (some 3), none, .asg (.loc 6), false, []⟩] false) (
    .seq (
     .region 4 [⟨0, none, none, .mv (.var 0) true, false, []⟩,
       ⟨1, none, none, .mv (.var 1) true, false, []⟩,
       ⟨2, none, none, .bin .quo (.loc 0) (.loc 1), false, []⟩,
       ⟨3, (some 0), none, .asg (.loc 2), false, []⟩] false) (
    .seq (
     .region 2 [⟨0, none, none, .mv (.var 0) true, false, []⟩,
       ⟨1, (some 4), none, .bin .eql (.loc 0) (.const (.int .u64 0)), false, []⟩] false) (
    .cond (.var 4) (
     .seq (
      .region 3 [⟨0, none, none, .mv (.var 3) true, false, []⟩,
        ⟨1, none, none, .cvStr (.loc 0), false, []⟩,
        ⟨2, (some 2), none, .asg (.loc 1), false, []⟩] false) (
     .ret)) (
     .skip))))))
def c45 : LCode :=
  .seq (
   .region 1 [⟨0, (some 2), none, .asg (.const (.str [])), false, []⟩] false) (
  .seq (
   .region 1 [⟨0, (some 3), none, .asg (.const (.vs true .sh 0 [])), false, []⟩] false) (
  .fence [0, 1, 3, 4] (
   .block 0 (
    .loop b45_0))))
def l45 : LFun := ⟨2, [(some 0), (some 1), none, none, none], c45, [.var 2], .pure⟩
/-- umpire/digits.letter -/
def vm46 : List Nat := [0, 2, 4]
def c46 : LCode :=
  .seq (
   .region 1 [⟨0, (some 1), none, .asg (.const (.int .u8 0)), false, []⟩] false) (
  .seq (
   .seq (
    .region 2 [⟨0, none, none, .mv (.var 0) true, false, []⟩,
      ⟨1, (some 2), none, .bin .lss (.loc 0) (.const (.int .u64 10)), false, []⟩] false) (
   .cond (.var 2) (
    .seq (
     .region 4 [⟨0, none, none, .mv (.var 0) true, false, []⟩,
       ⟨1, none, none, .bin .add (.const (.int .u64 48)) (.loc 0), false, []⟩,
       ⟨2, none, none, .cvInt .u8 (.loc 1), false, []⟩,
       ⟨3, (some 1), none, .asg (.loc 2), false, []⟩] false) (
    .ret)) (
    .skip))) (
  .seq (
   .region 5 [⟨0, none, none, .mv (.var 0) true, false, []⟩,
     ⟨1, none, none, .bin .add (.const (.int .u64 97)) (.loc 0), false, []⟩,
     ⟨2, none, none, .bin .sub (.loc 1) (.const (.int .u64 10)), false, []⟩,
     ⟨3, none, none, .cvInt .u8 (.loc 2), false, []⟩,
     ⟨4, (some 1), none, .asg (.loc 3), false, []⟩] false) (
  .ret)))
def l46 : LFun := ⟨1, [(some 0), none, none], c46, [.var 1], .pure⟩
/-- internal/bytealg.CompareString -/
def vm43 : List Nat := [0, 1, 4]
def c43 : LCode :=
  .seq (
   .region 1 [⟨0, (some 2), none, .asg (.const (.int .i64 0)), false, []⟩] false) (
  .seq (
   .region 4 [⟨0, none, none, .mv (.var 0) false, false, []⟩,
     ⟨1, none, none, .mv (.var 1) false, false, []⟩,
     ⟨2, none, none, .callp 50 [(.loc 0), (.loc 1)], false, []⟩,
     ⟨3, (some 2), none, .asg (.loc 2), false, []⟩] false) (
  .ret))
def l43 : LFun := ⟨2, [(some 0), (some 1), none], c43, [.var 2], .pure⟩
/-- umpire/umpireref01.Put -/
def vm38 : List Nat := [0, 1, 4, 5, 16]
def b38_0 : LCode :=
  .fence [2, 4] (
   .seq (
    .seq (
     .region 3 [⟨0, none, none, .mv (.var 0) true, false, []⟩,
       ⟨1, none, none, .mv (.var 1) true, false, []⟩,
       ⟨2, (some 4), none, .bin .geq (.loc 0) (.loc 1), false, []⟩] false) (
    .cond (.var 4) (
     .skip) (
     .exit 0))) (
   .block 1 (
    .seq (
     .region 4 [⟨0, none, none, .mv (.var 0) true, false, []⟩,
       ⟨1, none, none, .mv (.var 1) true, false, []⟩,
       ⟨2, none, none, .bin .quo (.loc 0) (.loc 1), false, []⟩,
       ⟨3, (some 0), none, .asg (.loc 2), false, []⟩] false) (
    .region 11 [⟨0, none, none, .mv (.var 0) false, false, []⟩,
      ⟨1, none, none, .mv (.var 1) false, false, []⟩,
      ⟨2, none, none, .bin .rem (.loc 0) (.loc 1), false, []⟩,
      ⟨3, none, none, .mv (.var 0) false, false, []⟩,
      ⟨4, none, none, .mv (.var 1) false, false, []⟩,
      ⟨5, none, none, .bin .rem (.loc 3) (.loc 4), false, []⟩,
      ⟨6, none, none, .bin .add (.loc 5) (.const (.int .u64 1)), false, []⟩,
      ⟨7, none, none, .sliceStr (.const (.str [48, 49, 50, 51, 52, 53, 54, 55, 56, 57, 97, 98, 99, 100, 101, 102])) (some (.loc 2)) (some (.loc 6)), false, []⟩,
      ⟨8, none, none, .mv (.var 3) false, false, []⟩,
      ⟨9, none, none, .bin .add (.loc 7) (.loc 8), false, []⟩,
      ⟨10, (some 3), none, .asg (.loc 9), false, []⟩] true))))
def c38 : LCode :=
  .seq (
   .region 1 [⟨0, (some 2), none, .asg (.const (.str [])), false, []⟩] false) (
  .seq (
   .region 9 [⟨0, none, none, .mv (.var 0) false, false, []⟩,
     ⟨1, none, none, .mv (.var 1) false, false, []⟩,
     ⟨2, none, none, .bin .rem (.loc 0) (.loc 1), false, []⟩,
     ⟨3, none, none, .mv (.var 0) false, false, []⟩,
     ⟨4, none, none, .mv (.var 1) false, false, []⟩,
     ⟨5, none, none, .bin .rem (.loc 3) (.loc 4), false, []⟩,
     ⟨6, none, none, .bin .add (.loc 5) (.const (.int .u64 1)), false, []⟩,
     ⟨7, none, none, .sliceStr (.const (.str [48, 49, 50, 51, 52, 53, 54, 55, 56, 57, 97, 98, 99, 100, 101, 102])) (some (.loc 2)) (some (.loc 6)), false, []⟩,
     ⟨8, (some 3), none, .asg (.loc 7), false, []⟩] true) (
  .seq (
   .fence [0, 1, 2, 4] (
    .block 0 (
     .loop b38_0))) (
  .seq (
   .region 2 [⟨0, none, none, .mv (.var 3) false, false, []⟩,
     ⟨1, (some 2), none, .asg (.loc 0), false, []⟩] false) (
  .ret))))
def l38 : LFun := ⟨2, [(some 0), (some 1), none, none, none], c38, [.var 2], .pure⟩
/-- umpire/umpireref01.Bytes -/
def vm39 : List Nat := [0, 2, 3, 4, 8]
def r39_0 : LCode :=
  .region 28 [⟨0, none, none, .mv (.var 2) false, false, []⟩,
    ⟨1, none, none, .mv (.var 0) false, false, []⟩,
    ⟨2, none, none, .mv (.var 3) false, false, []⟩,
    ⟨3, none, none, .idxAddrVs 1 (.loc 1) (.loc 2), false, []⟩,
    ⟨4, none, none, .load false 1 (.loc 3) false, false, []⟩,
    ⟨5, none, none, .bin .quo (.loc 4) (.const (.int .u8 16)), false, []⟩,
    ⟨6, none, none, .mv (.var 0) false, false, []⟩,
    ⟨7, none, none, .mv (.var 3) false, false, []⟩,
    ⟨8, none, none, .idxAddrVs 1 (.loc 6) (.loc 7), false, []⟩,
    ⟨9, none, none, .load false 1 (.loc 8) false, false, []⟩,
    ⟨10, none, none, .bin .quo (.loc 9) (.const (.int .u8 16)), false, []⟩,
    ⟨11, none, none, .bin .add (.loc 10) (.const (.int .u8 1)), false, []⟩,
    ⟨12, none, none, .sliceStr (.const (.str [48, 49, 50, 51, 52, 53, 54, 55, 56, 57, 97, 98, 99, 100, 101, 102])) (some (.loc 5)) (some (.loc 11)), false, []⟩,
    ⟨13, none, none, .bin .add (.loc 0) (.loc 12), false, []⟩,
    ⟨14, none, none, .mv (.var 0) false, false, []⟩,
    ⟨15, none, none, .mv (.var 3) false, false, []⟩,
    ⟨16, none, none, .idxAddrVs 1 (.loc 14) (.loc 15), false, []⟩,
    ⟨17, none, none, .load false 1 (.loc 16) false, false, []⟩,
    ⟨18, none, none, .bin .rem (.loc 17) (.const (.int .u8 16)), false, []⟩,
    ⟨19, none, none, .mv (.var 0) false, false, []⟩,
    ⟨20, none, none, .mv (.var 3) false, false, []⟩,
    ⟨21, none, none, .idxAddrVs 1 (.loc 19) (.loc 20), false, []⟩,
    ⟨22, none, none, .load false 1 (.loc 21) false, false, []⟩,
    ⟨23, none, none, .bin .rem (.loc 22) (.const (.int .u8 16)), false, []⟩,
    ⟨24, none, none, .bin .add (.loc 23) (.const (.int .u8 1)), false, []⟩,
    ⟨25, none, none, .sliceStr (.const (.str [48, 49, 50, 51, 52, 53, 54, 55, 56, 57, 97, 98, 99, 100, 101, 102])) (some (.loc 18)) (some (.loc 24)), false, []⟩,
    ⟨26, none, none, .bin .add (.loc 13) (.loc 25), false, []⟩,
    ⟨27, (some 2), none, .asg (.loc 26), false, []⟩] true
def b39_1 : LCode :=
  .fence [1, 4] (
   .seq (
    .seq (
     .region 4 [⟨0, none, none, .mv (.var 3) true, false, []⟩,
       ⟨1, none, none, .mv (.var 0) true, false, []⟩,
       ⟨2, none, none, .len 1 (.loc 1), false, []⟩,
       ⟨3, (some 4), none, .bin .lss (.loc 0) (.loc 2), false, []⟩] false) (
    .cond (.var 4) (
     .skip) (
     .exit 0))) (
   .seq (
    .block 1 (
     r39_0)) (
   .region 3 [⟨0, none, none, .mv (.var 3) true, false, []⟩,
     ⟨1, none, none, .bin .add (.loc 0) (.const (.int .i64 1)), false, []⟩,
     ⟨2, (some 3), none, .asg (.loc 1), false, []⟩] false)))
def c39 : LCode :=
  .seq (
   .region 1 [⟨0, (some 1), none, .asg (.const (.str [])), false, []⟩] false) (
  .seq (
   .region 1 [⟨0, (some 2), none, .asg (.const (.str [])), false, []⟩] false) (
  .seq (
   .seq (
    .region 1 [⟨0, (some 3), none, .asg (.const (.int .i64 0)), false, []⟩] false) (
   .fence [0, 1, 3, 4] (
    .block 0 (
     .loop b39_1)))) (
  .seq (
   .region 2 [⟨0, none, none, .mv (.var 2) false, false, []⟩,
     ⟨1, (some 1), none, .asg (.loc 0), false, []⟩] false) (
  .ret))))
def l39 : LFun := ⟨1, [(some 0), none, none, none, none], c39, [.var 1], .pure⟩
end D
end Go.Proofs.Ytbljgbojkifoiaa
