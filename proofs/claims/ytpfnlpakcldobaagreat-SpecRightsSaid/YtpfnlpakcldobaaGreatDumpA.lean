/- The interpreter's texts of this seat's functions, part A. -/
import Derived.Test.YtpfnlpakcldobaaGreatLG
set_option linter.unusedVariables false
namespace Go.Proofs.YtpfnlpakcldobaaGreat
open Go Go.L
namespace D
/-- umpire/umpirelaw22.SpecRights -/
def vm3 : List Nat := [0, 1, 2, 3, 4, 5, 6, 20]
def r3_0 : LCode :=
  .region 20 [⟨0, none, none, .load true 9 (.var 3) false, false, []⟩,
    ⟨1, none, none, .callp 8 [(.loc 0)], false, []⟩,
    ⟨2, none, none, .load true 9 (.var 3) false, false, []⟩,
    ⟨3, none, none, .callp 9 [(.loc 2)], false, []⟩,
    ⟨4, none, none, .eqBool false (.loc 1) (.loc 3), false, []⟩,
    ⟨5, none, none, .mv (.loc 4) false, false, []⟩,
    ⟨6, none, (some ((.loc 5), true)), .load true 31 (.var 4) false, false, []⟩,
    ⟨7, none, (some ((.loc 5), true)), .load true 31 (.var 5) false, false, []⟩,
    ⟨8, none, (some ((.loc 5), true)), .callp 10 [(.loc 6), (.loc 7)], false, []⟩,
    ⟨9, none, (some ((.loc 5), true)), .load true 31 (.var 4) false, false, []⟩,
    ⟨10, none, (some ((.loc 5), true)), .load true 31 (.var 5) false, false, []⟩,
    ⟨11, none, (some ((.loc 5), true)), .callp 11 [(.loc 9), (.loc 10)], false, []⟩,
    ⟨12, none, (some ((.loc 5), true)), .eqBool false (.loc 8) (.loc 11), false, []⟩,
    ⟨13, none, none, .pick (.loc 5) (.loc 12) (.const (.bool false)), false, []⟩,
    ⟨14, none, none, .mv (.loc 13) false, false, []⟩,
    ⟨15, none, (some ((.loc 14), true)), .load true 31 (.var 4) false, false, []⟩,
    ⟨16, none, (some ((.loc 14), true)), .load true 31 (.var 4) false, false, []⟩,
    ⟨17, none, (some ((.loc 14), true)), .callp 10 [(.loc 15), (.loc 16)], false, []⟩,
    ⟨18, none, none, .pick (.loc 14) (.loc 17) (.const (.bool false)), false, []⟩,
    ⟨19, (some 6), none, .asg (.loc 18), false, []⟩] true
def c3 : LCode :=
  .seq (
   .region 4 [⟨0, (some 3), none, .box 24 (.var 0), false, []⟩,
     ⟨1, (some 4), none, .box 34 (.var 1), false, []⟩,
     ⟨2, (some 5), none, .box 34 (.var 2), false, []⟩,
     ⟨3, (some 6), none, .asg (.const (.bool false)), false, []⟩] false) (
  .seq (
   .seq (
    .region 14 [⟨0, none, none, .callp 7 [], false, []⟩,
      ⟨1, none, none, .un .not (.loc 0), false, []⟩,
      ⟨2, none, none, .mv (.loc 1) false, false, []⟩,
      ⟨3, none, (some ((.loc 2), false)), .fieldAddr 30 1 false (.var 4), false, []⟩,
      ⟨4, none, (some ((.loc 2), false)), .load false 1 (.loc 3) true, false, []⟩,
      ⟨5, none, (some ((.loc 2), false)), .len 1 (.loc 4), false, []⟩,
      ⟨6, none, (some ((.loc 2), false)), .bin .gtr (.loc 5) (.const (.int .i64 100)), false, []⟩,
      ⟨7, none, none, .pick (.loc 2) (.const (.bool true)) (.loc 6), false, []⟩,
      ⟨8, none, none, .mv (.loc 7) false, false, []⟩,
      ⟨9, none, (some ((.loc 8), false)), .fieldAddr 30 1 false (.var 5), false, []⟩,
      ⟨10, none, (some ((.loc 8), false)), .load false 1 (.loc 9) true, false, []⟩,
      ⟨11, none, (some ((.loc 8), false)), .len 1 (.loc 10), false, []⟩,
      ⟨12, none, (some ((.loc 8), false)), .bin .gtr (.loc 11) (.const (.int .i64 100)), false, []⟩,
      ⟨13, (some 7), none, .pick (.loc 8) (.const (.bool true)) (.loc 12), false, []⟩] false) (
   .cond (.var 7) (
    .seq (
     .region 2 [⟨0, none, none, .callp 7 [], false, []⟩,
       ⟨1, (some 6), none, .asg (.loc 0), false, []⟩] false) (
    .ret)) (
    .skip))) (
  .seq (
   r3_0) (
  .ret)))
def l3 : LFun := ⟨3, [(some 0), (some 1), (some 2), none, none, none, none, none], c3, [.var 6], .pure⟩
/-- umpire/umpirelaw22.SpecOwed -/
def vm4 : List Nat := [0, 1, 2, 3, 5, 6, 7, 8, 9, 10, 11, 12, 13, 28, 35, 48, 64, 84, 89, 103]
def b4_0 : LCode :=
  .fence [0, 2, 5, 8, 9, 10, 11, 12, 13, 14, 15, 16, 17, 18, 19] (
   .seq (
    .seq (
     .region 4 [⟨0, none, none, .mv (.var 7) true, false, []⟩,
       ⟨1, none, none, .mv (.var 1) true, false, []⟩,
       ⟨2, none, none, .len 1 (.loc 1), false, []⟩,
       ⟨3, (some 14), none, .bin .lss (.loc 0) (.loc 2), false, []⟩] false) (
    .cond (.var 14) (
     .skip) (
     .exit 0))) (
   .seq (
    .block 1 (
     .seq (
      .region 13 [⟨0, none, none, .load true 9 (.var 3) false, false, []⟩,
        ⟨1, none, none, .load true 31 (.var 6) false, false, []⟩,
        ⟨2, none, none, .mv (.var 1) false, false, []⟩,
        ⟨3, none, none, .mv (.var 7) false, false, []⟩,
        ⟨4, none, none, .idxAddrVs 6 (.loc 2) (.loc 3), false, []⟩,
        ⟨5, none, none, .load true 6 (.loc 4) false, false, []⟩,
        ⟨6, none, none, .callp 14 [(.loc 0), (.loc 1), (.loc 5)], false, []⟩,
        ⟨7, none, none, .mv (.loc 6) false, false, []⟩,
        ⟨8, none, none, .extract (.loc 7) 0, false, []⟩,
        ⟨9, none, none, .extract (.loc 7) 1, false, []⟩,
        ⟨10, (some 8), none, .alloc 34 [(.int .i64 0), (.int .i64 0), (.int .i64 0), (.bool false), (.bool false), (.int .i64 0), (.str []), (.int .i64 0), (.int .i64 0), (.int .i64 0), (.bool false), (.bool false), (.int .i64 0), (.str []), (.int .i64 0), (.int .i64 0), (.int .i64 0), (.bool false), (.bool false), (.int .i64 0), (.str []), (.int .i64 0), (.int .i64 0), (.bool false), (.bool false), (.bool false), (.int .i64 0), (.str []), (.bool false), (.int .i64 0), (.vs true .sh 0 [])], false, []⟩,
        ⟨11, (some 20), none, .store 31 (.var 8) (.loc 8), false, []⟩,
        ⟨12, (some 9), none, .asg (.loc 9), false, []⟩] true) (
     .seq (
      .region 1 [⟨0, (some 15), none, .mv (.var 9) false, false, []⟩] false) (
     .cond (.var 15) (
      .region 2 [⟨0, none, none, .load true 31 (.var 8) false, false, []⟩,
        ⟨1, (some 20), none, .store 31 (.var 6) (.loc 0), false, []⟩] false) (
      .skip))))) (
   .region 3 [⟨0, none, none, .mv (.var 7) true, false, []⟩,
     ⟨1, none, none, .bin .add (.loc 0) (.const (.int .i64 1)), false, []⟩,
     ⟨2, (some 7), none, .asg (.loc 1), false, []⟩] false)))
def r4_1 : LCode :=
  .region 20 [⟨0, none, none, .fieldAddr 0 1 false (.var 4), false, []⟩,
    ⟨1, none, none, .load false 1 (.loc 0) true, false, []⟩,
    ⟨2, none, none, .bin .neq (.loc 1) (.const (.int .i64 2)), false, []⟩,
    ⟨3, none, none, .mv (.loc 2) false, false, []⟩,
    ⟨4, none, (some ((.loc 3), false)), .load true 9 (.var 3) false, false, []⟩,
    ⟨5, none, (some ((.loc 3), false)), .load true 31 (.var 6) false, false, []⟩,
    ⟨6, none, (some ((.loc 3), false)), .callp 15 [(.loc 4), (.loc 5)], false, []⟩,
    ⟨7, none, (some ((.loc 3), false)), .len 1 (.loc 6), false, []⟩,
    ⟨8, none, (some ((.loc 3), false)), .bin .neq (.loc 7) (.const (.int .i64 0)), false, []⟩,
    ⟨9, none, none, .pick (.loc 3) (.const (.bool true)) (.loc 8), false, []⟩,
    ⟨10, none, none, .mv (.loc 9) false, false, []⟩,
    ⟨11, none, (some ((.loc 10), false)), .fieldAddr 30 1 false (.var 10), false, []⟩,
    ⟨12, none, (some ((.loc 10), false)), .load false 1 (.loc 11) true, false, []⟩,
    ⟨13, none, (some ((.loc 10), false)), .len 1 (.loc 12), false, []⟩,
    ⟨14, none, (some ((.loc 10), false)), .fieldAddr 30 1 false (.var 6), false, []⟩,
    ⟨15, none, (some ((.loc 10), false)), .load false 1 (.loc 14) true, false, []⟩,
    ⟨16, none, (some ((.loc 10), false)), .len 1 (.loc 15), false, []⟩,
    ⟨17, none, (some ((.loc 10), false)), .bin .sub (.loc 16) (.const (.int .i64 1)), false, []⟩,
    ⟨18, none, (some ((.loc 10), false)), .bin .lss (.loc 13) (.loc 17), false, []⟩,
    ⟨19, (some 17), none, .pick (.loc 10) (.const (.bool true)) (.loc 18), false, []⟩] false
def b4_2 : LCode :=
  .fence [0, 1, 2, 3, 4, 5, 7, 8, 9, 11, 13, 14, 15, 16, 17, 18, 19] (
   .seq (
    .seq (
     .region 5 [⟨0, none, none, .mv (.var 12) true, false, []⟩,
       ⟨1, none, none, .fieldAddr 30 1 false (.var 6), false, []⟩,
       ⟨2, none, none, .load false 1 (.loc 1) true, false, []⟩,
       ⟨3, none, none, .len 1 (.loc 2), false, []⟩,
       ⟨4, (some 18), none, .bin .lss (.loc 0) (.loc 3), false, []⟩] false) (
    .cond (.var 18) (
     .skip) (
     .exit 2))) (
   .seq (
    .block 3 (
     .seq (
      .region 12 [⟨0, none, none, .fieldAddr 30 1 false (.var 10), false, []⟩,
        ⟨1, none, none, .load false 1 (.loc 0) false, false, []⟩,
        ⟨2, none, none, .mv (.var 12) false, false, []⟩,
        ⟨3, none, none, .bin .sub (.loc 2) (.const (.int .i64 1)), false, []⟩,
        ⟨4, none, none, .idxAddrVs 4 (.loc 1) (.loc 3), false, []⟩,
        ⟨5, none, none, .load true 4 (.loc 4) false, false, []⟩,
        ⟨6, none, none, .fieldAddr 30 1 false (.var 6), false, []⟩,
        ⟨7, none, none, .load false 1 (.loc 6) false, false, []⟩,
        ⟨8, none, none, .mv (.var 12) false, false, []⟩,
        ⟨9, none, none, .idxAddrVs 4 (.loc 7) (.loc 8), false, []⟩,
        ⟨10, none, none, .load true 4 (.loc 9) false, false, []⟩,
        ⟨11, (some 19), none, .eqAgg true [(.i .i64), (.i .i64), (.i .i64), .s] (.loc 5) (.loc 10), false, []⟩] true) (
     .cond (.var 19) (
      .seq (
       .region 1 [⟨0, (some 5), none, .asg (.const (.bool false)), false, []⟩] false) (
      .ret)) (
      .skip)))) (
   .region 3 [⟨0, none, none, .mv (.var 12) true, false, []⟩,
     ⟨1, none, none, .bin .add (.loc 0) (.const (.int .i64 1)), false, []⟩,
     ⟨2, (some 12), none, .asg (.loc 1), false, []⟩] false)))
def r4_3 : LCode :=
  .region 18 [⟨0, none, none, .fieldAddr 30 1 false (.var 10), false, []⟩,
    ⟨1, none, none, .load false 1 (.loc 0) true, false, []⟩,
    ⟨2, none, none, .len 1 (.loc 1), false, []⟩,
    ⟨3, none, none, .fieldAddr 30 1 false (.var 6), false, []⟩,
    ⟨4, none, none, .load false 1 (.loc 3) true, false, []⟩,
    ⟨5, none, none, .len 1 (.loc 4), false, []⟩,
    ⟨6, none, none, .bin .sub (.loc 5) (.const (.int .i64 1)), false, []⟩,
    ⟨7, none, none, .bin .eql (.loc 2) (.loc 6), false, []⟩,
    ⟨8, none, none, .mv (.loc 7) false, false, []⟩,
    ⟨9, none, (some ((.loc 8), false)), .load true 31 (.var 10) false, false, []⟩,
    ⟨10, none, (some ((.loc 8), false)), .callp 16 [(.loc 9)], false, []⟩,
    ⟨11, none, (some ((.loc 8), false)), .mv (.loc 10) false, false, []⟩,
    ⟨12, none, (some ((.loc 11), true)), .load true 31 (.var 6) false, false, []⟩,
    ⟨13, none, (some ((.loc 11), true)), .callp 16 [(.loc 12)], false, []⟩,
    ⟨14, none, (some ((.loc 11), true)), .un .not (.loc 13), false, []⟩,
    ⟨15, none, (some ((.loc 8), false)), .pick (.loc 11) (.loc 14) (.const (.bool false)), false, []⟩,
    ⟨16, none, none, .pick (.loc 8) (.const (.bool true)) (.loc 15), false, []⟩,
    ⟨17, (some 5), none, .asg (.loc 16), false, []⟩] false
def c4 : LCode :=
  .seq (
   .region 3 [⟨0, (some 3), none, .box 24 (.var 0), false, []⟩,
     ⟨1, (some 4), none, .box 44 (.var 2), false, []⟩,
     ⟨2, (some 5), none, .asg (.const (.bool false)), false, []⟩] false) (
  .seq (
   .seq (
    .region 15 [⟨0, none, none, .callp 7 [], false, []⟩,
      ⟨1, none, none, .un .not (.loc 0), false, []⟩,
      ⟨2, none, none, .mv (.loc 1) false, false, []⟩,
      ⟨3, none, (some ((.loc 2), false)), .load true 9 (.var 3) false, false, []⟩,
      ⟨4, none, (some ((.loc 2), false)), .mv (.var 1) false, false, []⟩,
      ⟨5, none, (some ((.loc 2), false)), .callp 12 [(.loc 3), (.loc 4)], false, []⟩,
      ⟨6, none, (some ((.loc 2), false)), .un .not (.loc 5), false, []⟩,
      ⟨7, none, none, .pick (.loc 2) (.const (.bool true)) (.loc 6), false, []⟩,
      ⟨8, none, none, .mv (.loc 7) false, false, []⟩,
      ⟨9, none, (some ((.loc 8), false)), .fieldAddr 2 3 true (.var 4), false, []⟩,
      ⟨10, none, (some ((.loc 8), false)), .fieldAddr 2 1 false (.loc 9), false, []⟩,
      ⟨11, none, (some ((.loc 8), false)), .load false 1 (.loc 10) true, false, []⟩,
      ⟨12, none, (some ((.loc 8), false)), .len 1 (.loc 11), false, []⟩,
      ⟨13, none, (some ((.loc 8), false)), .bin .gtr (.loc 12) (.const (.int .i64 1000)), false, []⟩,
      ⟨14, (some 13), none, .pick (.loc 8) (.const (.bool true)) (.loc 13), false, []⟩] false) (
   .cond (.var 13) (
    .seq (
     .region 2 [⟨0, none, none, .callp 7 [], false, []⟩,
       ⟨1, (some 5), none, .asg (.loc 0), false, []⟩] false) (
    .ret)) (
    .skip))) (
  .seq (
   .region 4 [⟨0, none, none, .load true 9 (.var 3) false, false, []⟩,
     ⟨1, none, none, .callp 13 [(.loc 0)], false, []⟩,
     ⟨2, (some 6), none, .alloc 34 [(.int .i64 0), (.int .i64 0), (.int .i64 0), (.bool false), (.bool false), (.int .i64 0), (.str []), (.int .i64 0), (.int .i64 0), (.int .i64 0), (.bool false), (.bool false), (.int .i64 0), (.str []), (.int .i64 0), (.int .i64 0), (.int .i64 0), (.bool false), (.bool false), (.int .i64 0), (.str []), (.int .i64 0), (.int .i64 0), (.bool false), (.bool false), (.bool false), (.int .i64 0), (.str []), (.bool false), (.int .i64 0), (.vs true .sh 0 [])], false, []⟩,
     ⟨3, (some 20), none, .store 31 (.var 6) (.loc 1), false, []⟩] false) (
  .seq (
   .seq (
    .region 1 [⟨0, (some 7), none, .asg (.const (.int .i64 0)), false, []⟩] false) (
   .fence [0, 1, 2, 5, 7, 8, 9, 10, 11, 12, 13, 14, 15, 16, 17, 18, 19] (
    .block 0 (
     .loop b4_0)))) (
  .seq (
   .region 10 [⟨0, none, none, .load true 9 (.var 3) false, false, []⟩,
     ⟨1, none, none, .load true 31 (.var 6) false, false, []⟩,
     ⟨2, none, none, .load true 6 (.var 4) false, false, []⟩,
     ⟨3, none, none, .callp 14 [(.loc 0), (.loc 1), (.loc 2)], false, []⟩,
     ⟨4, none, none, .mv (.loc 3) false, false, []⟩,
     ⟨5, none, none, .extract (.loc 4) 0, false, []⟩,
     ⟨6, none, none, .extract (.loc 4) 1, false, []⟩,
     ⟨7, (some 10), none, .alloc 34 [(.int .i64 0), (.int .i64 0), (.int .i64 0), (.bool false), (.bool false), (.int .i64 0), (.str []), (.int .i64 0), (.int .i64 0), (.int .i64 0), (.bool false), (.bool false), (.int .i64 0), (.str []), (.int .i64 0), (.int .i64 0), (.int .i64 0), (.bool false), (.bool false), (.int .i64 0), (.str []), (.int .i64 0), (.int .i64 0), (.bool false), (.bool false), (.bool false), (.int .i64 0), (.str []), (.bool false), (.int .i64 0), (.vs true .sh 0 [])], false, []⟩,
     ⟨8, (some 20), none, .store 31 (.var 10) (.loc 5), false, []⟩,
     ⟨9, (some 11), none, .asg (.loc 6), false, []⟩] false) (
  .seq (
   .seq (
    .region 8 [⟨0, none, none, .fieldAddr 30 1 false (.var 6), false, []⟩,
      ⟨1, none, none, .load false 1 (.loc 0) true, false, []⟩,
      ⟨2, none, none, .len 1 (.loc 1), false, []⟩,
      ⟨3, none, none, .bin .eql (.loc 2) (.const (.int .i64 0)), false, []⟩,
      ⟨4, none, none, .mv (.loc 3) false, false, []⟩,
      ⟨5, none, (some ((.loc 4), false)), .mv (.var 11) true, false, []⟩,
      ⟨6, none, (some ((.loc 4), false)), .un .not (.loc 5), false, []⟩,
      ⟨7, (some 16), none, .pick (.loc 4) (.const (.bool true)) (.loc 6), false, []⟩] false) (
   .cond (.var 16) (
    .seq (
     .region 1 [⟨0, (some 5), none, .asg (.const (.bool true)), false, []⟩] false) (
    .ret)) (
    .skip))) (
  .seq (
   .seq (
    r4_1) (
   .cond (.var 17) (
    .seq (
     .region 1 [⟨0, (some 5), none, .asg (.const (.bool false)), false, []⟩] false) (
    .ret)) (
    .skip))) (
  .seq (
   .seq (
    .region 1 [⟨0, (some 12), none, .asg (.const (.int .i64 1)), false, []⟩] false) (
   .fence [0, 1, 2, 3, 4, 5, 7, 8, 9, 11, 12, 13, 14, 15, 16, 17, 18, 19] (
    .block 2 (
     .loop b4_2)))) (
  .seq (
   r4_3) (
  .ret)))))))))
def l4 : LFun := ⟨3, [(some 0), (some 1), (some 2), none, none, none, none, none, none, none, none, none, none, none, none, none, none, none, none, none], c4, [.var 5], .pure⟩
/-- umpire/umpirelaw22.SpecNetwork -/
def vm5 : List Nat := [0, 1, 2, 4, 5, 6, 7, 8, 9, 10, 11, 19, 26, 40, 52, 54, 99]
def r5_0 : LCode :=
  .region 39 [⟨0, none, none, .mv (.var 9) true, false, []⟩,
    ⟨1, none, none, .bin .gtr (.loc 0) (.const (.int .i64 0)), false, []⟩,
    ⟨2, none, none, .mv (.loc 1) false, false, []⟩,
    ⟨3, none, (some ((.loc 2), true)), .mv (.var 8) true, false, []⟩,
    ⟨4, none, (some ((.loc 2), true)), .fieldAddr 0 2 true (.var 10), false, []⟩,
    ⟨5, none, (some ((.loc 2), true)), .fieldAddr 0 1 false (.loc 4), false, []⟩,
    ⟨6, none, (some ((.loc 2), true)), .load false 1 (.loc 5) true, false, []⟩,
    ⟨7, none, (some ((.loc 2), true)), .bin .geq (.loc 6) (.const (.int .i64 2)), false, []⟩,
    ⟨8, none, (some ((.loc 2), true)), .eqBool true (.loc 3) (.loc 7), false, []⟩,
    ⟨9, none, none, .pick (.loc 2) (.loc 8) (.const (.bool false)), false, []⟩,
    ⟨10, none, none, .mv (.loc 9) false, false, []⟩,
    ⟨11, none, (some ((.loc 10), false)), .fieldAddr 0 2 true (.var 10), false, []⟩,
    ⟨12, none, (some ((.loc 10), false)), .fieldAddr 1 1 false (.loc 11), false, []⟩,
    ⟨13, none, (some ((.loc 10), false)), .load false 1 (.loc 12) true, false, []⟩,
    ⟨14, none, (some ((.loc 10), false)), .bin .lss (.loc 13) (.const (.int .i64 0)), false, []⟩,
    ⟨15, none, none, .pick (.loc 10) (.const (.bool true)) (.loc 14), false, []⟩,
    ⟨16, none, none, .mv (.loc 15) false, false, []⟩,
    ⟨17, none, (some ((.loc 16), false)), .fieldAddr 0 2 true (.var 10), false, []⟩,
    ⟨18, none, (some ((.loc 16), false)), .fieldAddr 1 1 false (.loc 17), false, []⟩,
    ⟨19, none, (some ((.loc 16), false)), .load false 1 (.loc 18) true, false, []⟩,
    ⟨20, none, (some ((.loc 16), false)), .fieldAddr 0 1 false (.var 2), false, []⟩,
    ⟨21, none, (some ((.loc 16), false)), .load false 1 (.loc 20) false, false, []⟩,
    ⟨22, none, (some ((.loc 16), false)), .fieldAddr 1 1 false (.var 2), false, []⟩,
    ⟨23, none, (some ((.loc 16), false)), .load false 1 (.loc 22) false, false, []⟩,
    ⟨24, none, (some ((.loc 16), false)), .minmax true (.loc 21) [(.loc 23)], false, []⟩,
    ⟨25, none, (some ((.loc 16), false)), .bin .gtr (.loc 19) (.loc 24), false, []⟩,
    ⟨26, none, none, .pick (.loc 16) (.const (.bool true)) (.loc 25), false, []⟩,
    ⟨27, none, none, .mv (.loc 26) false, false, []⟩,
    ⟨28, none, (some ((.loc 27), false)), .fieldAddr 2 1 false (.var 10), false, []⟩,
    ⟨29, none, (some ((.loc 27), false)), .load false 1 (.loc 28) true, false, []⟩,
    ⟨30, none, (some ((.loc 27), false)), .bin .lss (.loc 29) (.const (.int .i64 0)), false, []⟩,
    ⟨31, none, none, .pick (.loc 27) (.const (.bool true)) (.loc 30), false, []⟩,
    ⟨32, none, none, .mv (.loc 31) false, false, []⟩,
    ⟨33, none, (some ((.loc 32), false)), .fieldAddr 2 1 false (.var 10), false, []⟩,
    ⟨34, none, (some ((.loc 32), false)), .load false 1 (.loc 33) true, false, []⟩,
    ⟨35, none, (some ((.loc 32), false)), .fieldAddr 2 1 false (.var 2), false, []⟩,
    ⟨36, none, (some ((.loc 32), false)), .load false 1 (.loc 35) true, false, []⟩,
    ⟨37, none, (some ((.loc 32), false)), .bin .gtr (.loc 34) (.loc 36), false, []⟩,
    ⟨38, (some 16), none, .pick (.loc 32) (.const (.bool true)) (.loc 37), false, []⟩] false
def b5_1 : LCode :=
  .fence [0, 3, 6, 7, 10, 11, 12, 13, 14, 15, 16] (
   .seq (
    .seq (
     .region 2 [⟨0, none, none, .mv (.var 9) true, false, []⟩,
       ⟨1, (some 15), none, .bin .lss (.loc 0) (.const (.int .i64 3)), false, []⟩] false) (
    .cond (.var 15) (
     .skip) (
     .exit 2))) (
   .seq (
    .block 3 (
     .seq (
      .region 6 [⟨0, none, none, .mv (.var 9) false, false, []⟩,
        ⟨1, none, none, .fieldAddr 0 21 true (.var 4), false, []⟩,
        ⟨2, none, none, .idxAddrArr 3 7 true (.loc 1) (.loc 0), false, []⟩,
        ⟨3, none, none, .load true 7 (.loc 2) false, false, []⟩,
        ⟨4, (some 10), none, .alloc 28 [(.int .i64 0), (.int .i64 0), (.int .i64 0), (.bool false), (.bool false), (.int .i64 0), (.str [])], false, []⟩,
        ⟨5, (some 17), none, .store 7 (.var 10) (.loc 3), false, []⟩] false) (
     .seq (
      r5_0) (
     .cond (.var 16) (
      .seq (
       .region 1 [⟨0, (some 3), none, .asg (.const (.bool false)), false, []⟩] false) (
      .ret)) (
      .skip))))) (
   .region 3 [⟨0, none, none, .mv (.var 9) true, false, []⟩,
     ⟨1, none, none, .bin .add (.loc 0) (.const (.int .i64 1)), false, []⟩,
     ⟨2, (some 9), none, .asg (.loc 1), false, []⟩] false)))
def b5_2 : LCode :=
  .fence [0, 3, 6, 7, 8, 9, 10, 11, 12, 13, 14, 15, 16] (
   .seq (
    .seq (
     .region 4 [⟨0, none, none, .mv (.var 5) true, false, []⟩,
       ⟨1, none, none, .mv (.var 1) true, false, []⟩,
       ⟨2, none, none, .len 1 (.loc 1), false, []⟩,
       ⟨3, (some 12), none, .bin .lss (.loc 0) (.loc 2), false, []⟩] false) (
    .cond (.var 12) (
     .skip) (
     .exit 0))) (
   .seq (
    .block 1 (
     .seq (
      .region 13 [⟨0, none, none, .load true 9 (.var 2) false, false, []⟩,
        ⟨1, none, none, .load true 31 (.var 4) false, false, []⟩,
        ⟨2, none, none, .mv (.var 1) false, false, []⟩,
        ⟨3, none, none, .mv (.var 5) false, false, []⟩,
        ⟨4, none, none, .idxAddrVs 6 (.loc 2) (.loc 3), false, []⟩,
        ⟨5, none, none, .load true 6 (.loc 4) false, false, []⟩,
        ⟨6, none, none, .callp 14 [(.loc 0), (.loc 1), (.loc 5)], false, []⟩,
        ⟨7, none, none, .mv (.loc 6) false, false, []⟩,
        ⟨8, none, none, .extract (.loc 7) 0, false, []⟩,
        ⟨9, none, none, .extract (.loc 7) 1, false, []⟩,
        ⟨10, (some 6), none, .alloc 34 [(.int .i64 0), (.int .i64 0), (.int .i64 0), (.bool false), (.bool false), (.int .i64 0), (.str []), (.int .i64 0), (.int .i64 0), (.int .i64 0), (.bool false), (.bool false), (.int .i64 0), (.str []), (.int .i64 0), (.int .i64 0), (.int .i64 0), (.bool false), (.bool false), (.int .i64 0), (.str []), (.int .i64 0), (.int .i64 0), (.bool false), (.bool false), (.bool false), (.int .i64 0), (.str []), (.bool false), (.int .i64 0), (.vs true .sh 0 [])], false, []⟩,
        ⟨11, (some 17), none, .store 31 (.var 6) (.loc 8), false, []⟩,
        ⟨12, (some 7), none, .asg (.loc 9), false, []⟩] true) (
     .seq (
      .seq (
       .region 2 [⟨0, none, none, .mv (.var 7) true, false, []⟩,
         ⟨1, (some 13), none, .un .not (.loc 0), false, []⟩] false) (
      .cond (.var 13) (
       .exit 1) (
       .skip))) (
     .seq (
      .region 2 [⟨0, none, none, .load true 31 (.var 6) false, false, []⟩,
        ⟨1, (some 17), none, .store 31 (.var 4) (.loc 0), false, []⟩] false) (
     .seq (
      .region 3 [⟨0, none, none, .load true 31 (.var 4) false, false, []⟩,
        ⟨1, none, none, .callp 16 [(.loc 0)], false, []⟩,
        ⟨2, (some 8), none, .asg (.loc 1), false, []⟩] false) (
     .seq (
      .seq (
       .region 9 [⟨0, none, none, .mv (.var 8) false, false, []⟩,
         ⟨1, none, none, .mv (.loc 0) false, false, []⟩,
         ⟨2, none, (some ((.loc 1), true)), .fieldAddr 0 21 true (.var 4), false, []⟩,
         ⟨3, none, (some ((.loc 1), true)), .idxAddrArr 3 7 true (.loc 2) (.const (.int .i64 0)), false, []⟩,
         ⟨4, none, (some ((.loc 1), true)), .fieldAddr 0 2 true (.loc 3), false, []⟩,
         ⟨5, none, (some ((.loc 1), true)), .fieldAddr 0 1 false (.loc 4), false, []⟩,
         ⟨6, none, (some ((.loc 1), true)), .load false 1 (.loc 5) true, false, []⟩,
         ⟨7, none, (some ((.loc 1), true)), .bin .neq (.loc 6) (.const (.int .i64 9)), false, []⟩,
         ⟨8, (some 14), none, .pick (.loc 1) (.loc 7) (.const (.bool false)), false, []⟩] false) (
      .cond (.var 14) (
       .seq (
        .region 1 [⟨0, (some 3), none, .asg (.const (.bool false)), false, []⟩] false) (
       .ret)) (
       .skip))) (
     .seq (
      .region 1 [⟨0, (some 9), none, .asg (.const (.int .i64 0)), false, []⟩] false) (
     .fence [0, 3, 6, 7, 8, 9, 10, 11, 12, 13, 14, 15, 16] (
      .block 2 (
       .loop b5_1)))))))))) (
   .region 3 [⟨0, none, none, .mv (.var 5) true, false, []⟩,
     ⟨1, none, none, .bin .add (.loc 0) (.const (.int .i64 1)), false, []⟩,
     ⟨2, (some 5), none, .asg (.loc 1), false, []⟩] false)))
def c5 : LCode :=
  .seq (
   .region 2 [⟨0, (some 2), none, .box 24 (.var 0), false, []⟩,
     ⟨1, (some 3), none, .asg (.const (.bool false)), false, []⟩] false) (
  .seq (
   .seq (
    .region 8 [⟨0, none, none, .callp 7 [], false, []⟩,
      ⟨1, none, none, .un .not (.loc 0), false, []⟩,
      ⟨2, none, none, .mv (.loc 1) false, false, []⟩,
      ⟨3, none, (some ((.loc 2), false)), .load true 9 (.var 2) false, false, []⟩,
      ⟨4, none, (some ((.loc 2), false)), .mv (.var 1) false, false, []⟩,
      ⟨5, none, (some ((.loc 2), false)), .callp 12 [(.loc 3), (.loc 4)], false, []⟩,
      ⟨6, none, (some ((.loc 2), false)), .un .not (.loc 5), false, []⟩,
      ⟨7, (some 11), none, .pick (.loc 2) (.const (.bool true)) (.loc 6), false, []⟩] false) (
   .cond (.var 11) (
    .seq (
     .region 2 [⟨0, none, none, .callp 7 [], false, []⟩,
       ⟨1, (some 3), none, .asg (.loc 0), false, []⟩] false) (
    .ret)) (
    .skip))) (
  .seq (
   .region 4 [⟨0, none, none, .load true 9 (.var 2) false, false, []⟩,
     ⟨1, none, none, .callp 13 [(.loc 0)], false, []⟩,
     ⟨2, (some 4), none, .alloc 34 [(.int .i64 0), (.int .i64 0), (.int .i64 0), (.bool false), (.bool false), (.int .i64 0), (.str []), (.int .i64 0), (.int .i64 0), (.int .i64 0), (.bool false), (.bool false), (.int .i64 0), (.str []), (.int .i64 0), (.int .i64 0), (.int .i64 0), (.bool false), (.bool false), (.int .i64 0), (.str []), (.int .i64 0), (.int .i64 0), (.bool false), (.bool false), (.bool false), (.int .i64 0), (.str []), (.bool false), (.int .i64 0), (.vs true .sh 0 [])], false, []⟩,
     ⟨3, (some 17), none, .store 31 (.var 4) (.loc 1), false, []⟩] false) (
  .seq (
   .seq (
    .region 1 [⟨0, (some 5), none, .asg (.const (.int .i64 0)), false, []⟩] false) (
   .fence [0, 1, 2, 3, 4, 5, 6, 7, 8, 9, 10, 11, 12, 13, 14, 15, 16] (
    .block 0 (
     .loop b5_2)))) (
  .seq (
   .region 1 [⟨0, (some 3), none, .asg (.const (.bool true)), false, []⟩] false) (
  .ret)))))
def l5 : LFun := ⟨2, [(some 0), (some 1), none, none, none, none, none, none, none, none, none, none, none, none, none, none, none], c5, [.var 3], .pure⟩
/-- umpire/umpirelaw22.SpecNaks -/
def vm6 : List Nat := [0, 1, 2, 4, 5, 6, 7, 8, 9, 10, 11, 12, 20, 27, 41, 73, 76, 81, 92]
def b6_0 : LCode :=
  .fence [0, 3, 7, 8, 9, 10, 11, 12, 13, 14, 15, 16, 17, 18] (
   .seq (
    .seq (
     .region 4 [⟨0, none, none, .mv (.var 6) true, false, []⟩,
       ⟨1, none, none, .mv (.var 1) true, false, []⟩,
       ⟨2, none, none, .len 1 (.loc 1), false, []⟩,
       ⟨3, (some 13), none, .bin .lss (.loc 0) (.loc 2), false, []⟩] false) (
    .cond (.var 13) (
     .skip) (
     .exit 0))) (
   .seq (
    .block 1 (
     .seq (
      .region 13 [⟨0, none, none, .load true 9 (.var 2) false, false, []⟩,
        ⟨1, none, none, .load true 31 (.var 4) false, false, []⟩,
        ⟨2, none, none, .mv (.var 1) false, false, []⟩,
        ⟨3, none, none, .mv (.var 6) false, false, []⟩,
        ⟨4, none, none, .idxAddrVs 6 (.loc 2) (.loc 3), false, []⟩,
        ⟨5, none, none, .load true 6 (.loc 4) false, false, []⟩,
        ⟨6, none, none, .callp 14 [(.loc 0), (.loc 1), (.loc 5)], false, []⟩,
        ⟨7, none, none, .mv (.loc 6) false, false, []⟩,
        ⟨8, none, none, .extract (.loc 7) 0, false, []⟩,
        ⟨9, none, none, .extract (.loc 7) 1, false, []⟩,
        ⟨10, (some 7), none, .alloc 34 [(.int .i64 0), (.int .i64 0), (.int .i64 0), (.bool false), (.bool false), (.int .i64 0), (.str []), (.int .i64 0), (.int .i64 0), (.int .i64 0), (.bool false), (.bool false), (.int .i64 0), (.str []), (.int .i64 0), (.int .i64 0), (.int .i64 0), (.bool false), (.bool false), (.int .i64 0), (.str []), (.int .i64 0), (.int .i64 0), (.bool false), (.bool false), (.bool false), (.int .i64 0), (.str []), (.bool false), (.int .i64 0), (.vs true .sh 0 [])], false, []⟩,
        ⟨11, (some 19), none, .store 31 (.var 7) (.loc 8), false, []⟩,
        ⟨12, (some 8), none, .asg (.loc 9), false, []⟩] true) (
     .seq (
      .seq (
       .region 2 [⟨0, none, none, .mv (.var 8) true, false, []⟩,
         ⟨1, (some 14), none, .un .not (.loc 0), false, []⟩] false) (
      .cond (.var 14) (
       .exit 1) (
       .skip))) (
     .seq (
      .region 2 [⟨0, none, none, .load true 31 (.var 7) false, false, []⟩,
        ⟨1, (some 19), none, .store 31 (.var 4) (.loc 0), false, []⟩] false) (
     .seq (
      .region 8 [⟨0, none, none, .mv (.var 1) false, false, []⟩,
        ⟨1, none, none, .mv (.var 6) false, false, []⟩,
        ⟨2, none, none, .idxAddrVs 6 (.loc 0) (.loc 1), false, []⟩,
        ⟨3, none, none, .fieldAddr 2 3 true (.loc 2), false, []⟩,
        ⟨4, none, none, .fieldAddr 1 1 false (.loc 3), false, []⟩,
        ⟨5, none, none, .load false 1 (.loc 4) false, false, []⟩,
        ⟨6, none, none, .callp 17 [(.loc 5)], false, []⟩,
        ⟨7, (some 9), none, .asg (.loc 6), false, []⟩] false) (
     .seq (
      .region 13 [⟨0, none, none, .mv (.var 1) false, false, []⟩,
        ⟨1, none, none, .mv (.var 6) false, false, []⟩,
        ⟨2, none, none, .idxAddrVs 6 (.loc 0) (.loc 1), false, []⟩,
        ⟨3, none, none, .fieldAddr 2 3 true (.loc 2), false, []⟩,
        ⟨4, none, none, .fieldAddr 2 1 false (.loc 3), false, []⟩,
        ⟨5, none, none, .load false 1 (.loc 4) false, false, []⟩,
        ⟨6, none, none, .callp 18 [(.loc 5)], false, []⟩,
        ⟨7, none, none, .mv (.loc 6) false, false, []⟩,
        ⟨8, none, none, .extract (.loc 7) 0, false, []⟩,
        ⟨9, none, none, .extract (.loc 7) 1, false, []⟩,
        ⟨10, (some 10), none, .alloc 57 [(.int .i64 0), (.int .i64 0), (.vs true .sh 0 [])], false, []⟩,
        ⟨11, (some 19), none, .store 3 (.var 10) (.loc 8), false, []⟩,
        ⟨12, (some 11), none, .asg (.loc 9), false, []⟩] false) (
     .seq (
      .seq (
       .region 14 [⟨0, none, none, .mv (.var 1) false, false, []⟩,
         ⟨1, none, none, .mv (.var 6) false, false, []⟩,
         ⟨2, none, none, .idxAddrVs 6 (.loc 0) (.loc 1), false, []⟩,
         ⟨3, none, none, .fieldAddr 0 1 false (.loc 2), false, []⟩,
         ⟨4, none, none, .load false 1 (.loc 3) true, false, []⟩,
         ⟨5, none, none, .bin .neq (.loc 4) (.const (.int .i64 2)), false, []⟩,
         ⟨6, none, none, .mv (.loc 5) false, false, []⟩,
         ⟨7, none, (some ((.loc 6), false)), .mv (.var 9) true, false, []⟩,
         ⟨8, none, (some ((.loc 6), false)), .bin .lss (.loc 7) (.const (.int .i64 0)), false, []⟩,
         ⟨9, none, none, .pick (.loc 6) (.const (.bool true)) (.loc 8), false, []⟩,
         ⟨10, none, none, .mv (.loc 9) false, false, []⟩,
         ⟨11, none, (some ((.loc 10), false)), .mv (.var 11) true, false, []⟩,
         ⟨12, none, (some ((.loc 10), false)), .bin .neq (.loc 11) (.const (.int .i64 0)), false, []⟩,
         ⟨13, (some 15), none, .pick (.loc 10) (.const (.bool true)) (.loc 12), false, []⟩] false) (
      .cond (.var 15) (
       .exit 1) (
       .skip))) (
     .seq (
      .seq (
       .region 3 [⟨0, none, none, .fieldAddr 0 1 false (.var 10), false, []⟩,
         ⟨1, none, none, .load false 1 (.loc 0) true, false, []⟩,
         ⟨2, (some 16), none, .bin .eql (.loc 1) (.const (.int .i64 2)), false, []⟩] false) (
      .cond (.var 16) (
       .region 3 [⟨0, none, none, .mv (.var 9) false, false, []⟩,
         ⟨1, none, none, .idxAddrArr 3 1 false (.var 5) (.loc 0), false, []⟩,
         ⟨2, (some 19), none, .store 1 (.loc 1) (.const (.int .i64 0)), false, []⟩] false) (
       .skip))) (
     .seq (
      .seq (
       .region 3 [⟨0, none, none, .fieldAddr 0 1 false (.var 10), false, []⟩,
         ⟨1, none, none, .load false 1 (.loc 0) true, false, []⟩,
         ⟨2, (some 17), none, .bin .eql (.loc 1) (.const (.int .i64 3)), false, []⟩] false) (
      .cond (.var 17) (
       .region 6 [⟨0, none, none, .mv (.var 9) false, false, []⟩,
         ⟨1, none, none, .idxAddrArr 3 1 false (.var 5) (.loc 0), false, []⟩,
         ⟨2, none, none, .load false 1 (.loc 1) true, false, []⟩,
         ⟨3, none, none, .bin .add (.loc 2) (.const (.int .i64 1)), false, []⟩,
         ⟨4, none, none, .idxAddrArr 3 1 false (.var 5) (.loc 0), false, []⟩,
         ⟨5, (some 19), none, .store 1 (.loc 4) (.loc 3), false, []⟩] false) (
       .skip))) (
     .seq (
      .region 6 [⟨0, none, none, .mv (.var 9) false, false, []⟩,
        ⟨1, none, none, .idxAddrArr 3 1 false (.var 5) (.loc 0), false, []⟩,
        ⟨2, none, none, .load false 1 (.loc 1) false, false, []⟩,
        ⟨3, none, none, .fieldAddr 2 1 false (.var 2), false, []⟩,
        ⟨4, none, none, .load false 1 (.loc 3) false, false, []⟩,
        ⟨5, (some 18), none, .bin .gtr (.loc 2) (.loc 4), false, []⟩] true) (
     .cond (.var 18) (
      .seq (
       .region 1 [⟨0, (some 3), none, .asg (.const (.bool false)), false, []⟩] false) (
      .ret)) (
      .skip)))))))))))) (
   .region 3 [⟨0, none, none, .mv (.var 6) true, false, []⟩,
     ⟨1, none, none, .bin .add (.loc 0) (.const (.int .i64 1)), false, []⟩,
     ⟨2, (some 6), none, .asg (.loc 1), false, []⟩] false)))
def c6 : LCode :=
  .seq (
   .region 2 [⟨0, (some 2), none, .box 24 (.var 0), false, []⟩,
     ⟨1, (some 3), none, .asg (.const (.bool false)), false, []⟩] false) (
  .seq (
   .seq (
    .region 8 [⟨0, none, none, .callp 7 [], false, []⟩,
      ⟨1, none, none, .un .not (.loc 0), false, []⟩,
      ⟨2, none, none, .mv (.loc 1) false, false, []⟩,
      ⟨3, none, (some ((.loc 2), false)), .load true 9 (.var 2) false, false, []⟩,
      ⟨4, none, (some ((.loc 2), false)), .mv (.var 1) false, false, []⟩,
      ⟨5, none, (some ((.loc 2), false)), .callp 12 [(.loc 3), (.loc 4)], false, []⟩,
      ⟨6, none, (some ((.loc 2), false)), .un .not (.loc 5), false, []⟩,
      ⟨7, (some 12), none, .pick (.loc 2) (.const (.bool true)) (.loc 6), false, []⟩] false) (
   .cond (.var 12) (
    .seq (
     .region 2 [⟨0, none, none, .callp 7 [], false, []⟩,
       ⟨1, (some 3), none, .asg (.loc 0), false, []⟩] false) (
    .ret)) (
    .skip))) (
  .seq (
   .region 4 [⟨0, none, none, .load true 9 (.var 2) false, false, []⟩,
     ⟨1, none, none, .callp 13 [(.loc 0)], false, []⟩,
     ⟨2, (some 4), none, .alloc 34 [(.int .i64 0), (.int .i64 0), (.int .i64 0), (.bool false), (.bool false), (.int .i64 0), (.str []), (.int .i64 0), (.int .i64 0), (.int .i64 0), (.bool false), (.bool false), (.int .i64 0), (.str []), (.int .i64 0), (.int .i64 0), (.int .i64 0), (.bool false), (.bool false), (.int .i64 0), (.str []), (.int .i64 0), (.int .i64 0), (.bool false), (.bool false), (.bool false), (.int .i64 0), (.str []), (.bool false), (.int .i64 0), (.vs true .sh 0 [])], false, []⟩,
     ⟨3, (some 19), none, .store 31 (.var 4) (.loc 1), false, []⟩] false) (
  .seq (
   .region 1 [⟨0, (some 5), none, .alloc 54 [(.int .i64 0), (.int .i64 0), (.int .i64 0)], false, []⟩] false) (
  .seq (
   .seq (
    .region 1 [⟨0, (some 6), none, .asg (.const (.int .i64 0)), false, []⟩] false) (
   .fence [0, 1, 2, 3, 4, 5, 6, 7, 8, 9, 10, 11, 12, 13, 14, 15, 16, 17, 18] (
    .block 0 (
     .loop b6_0)))) (
  .seq (
   .region 1 [⟨0, (some 3), none, .asg (.const (.bool true)), false, []⟩] false) (
  .ret))))))
def l6 : LFun := ⟨2, [(some 0), (some 1), none, none, none, none, none, none, none, none, none, none, none, none, none, none, none, none, none], c6, [.var 3], .pure⟩
/-- umpire/umpirelaw22.awake -/
def vm7 : List Nat := [0, 1, 2, 3, 4, 5, 6, 7, 8, 10, 12, 13, 14, 15, 16]
def r7_0 : LCode :=
  .region 118 [⟨0, none, none, .mv (.var 4) false, false, []⟩,
    ⟨1, none, none, .mv (.loc 0) false, false, []⟩,
    ⟨2, none, (some ((.loc 1), true)), .mv (.var 6) false, false, []⟩,
    ⟨3, none, none, .pick (.loc 1) (.loc 2) (.const (.bool false)), false, []⟩,
    ⟨4, none, none, .mv (.loc 3) false, false, []⟩,
    ⟨5, none, (some ((.loc 4), true)), .mv (.var 8) false, false, []⟩,
    ⟨6, none, none, .pick (.loc 4) (.loc 5) (.const (.bool false)), false, []⟩,
    ⟨7, none, none, .mv (.loc 6) false, false, []⟩,
    ⟨8, none, (some ((.loc 7), true)), .mv (.var 9) true, false, []⟩,
    ⟨9, none, (some ((.loc 7), true)), .un .not (.loc 8), false, []⟩,
    ⟨10, none, none, .pick (.loc 7) (.loc 9) (.const (.bool false)), false, []⟩,
    ⟨11, none, none, .mv (.loc 10) false, false, []⟩,
    ⟨12, none, (some ((.loc 11), true)), .mv (.var 10) true, false, []⟩,
    ⟨13, none, (some ((.loc 11), true)), .un .not (.loc 12), false, []⟩,
    ⟨14, none, none, .pick (.loc 11) (.loc 13) (.const (.bool false)), false, []⟩,
    ⟨15, none, none, .mv (.loc 14) false, false, []⟩,
    ⟨16, none, (some ((.loc 15), true)), .mv (.var 12) false, false, []⟩,
    ⟨17, none, none, .pick (.loc 15) (.loc 16) (.const (.bool false)), false, []⟩,
    ⟨18, none, none, .mv (.loc 17) false, false, []⟩,
    ⟨19, none, (some ((.loc 18), true)), .fieldAddr 0 21 true (.var 2), false, []⟩,
    ⟨20, none, (some ((.loc 18), true)), .idxAddrArr 3 7 true (.loc 19) (.const (.int .i64 1)), false, []⟩,
    ⟨21, none, (some ((.loc 18), true)), .fieldAddr 2 1 false (.loc 20), false, []⟩,
    ⟨22, none, (some ((.loc 18), true)), .load false 1 (.loc 21) true, false, []⟩,
    ⟨23, none, (some ((.loc 18), true)), .bin .eql (.loc 22) (.const (.int .i64 1)), false, []⟩,
    ⟨24, none, none, .pick (.loc 18) (.loc 23) (.const (.bool false)), false, []⟩,
    ⟨25, none, none, .mv (.loc 24) false, false, []⟩,
    ⟨26, none, (some ((.loc 25), true)), .fieldAddr 0 21 true (.var 5), false, []⟩,
    ⟨27, none, (some ((.loc 25), true)), .idxAddrArr 3 7 true (.loc 26) (.const (.int .i64 0)), false, []⟩,
    ⟨28, none, (some ((.loc 25), true)), .fieldAddr 0 2 true (.loc 27), false, []⟩,
    ⟨29, none, (some ((.loc 25), true)), .load true 2 (.loc 28) true, false, []⟩,
    ⟨30, none, (some ((.loc 25), true)), .build [(.int .i64 0), (.int .i64 0)] [(0, 1, (.const (.int .i64 6))), (1, 1, (.const (.int .i64 1)))], false, []⟩,
    ⟨31, none, (some ((.loc 25), true)), .eqAgg false [(.i .i64), (.i .i64)] (.loc 29) (.loc 30), false, []⟩,
    ⟨32, none, none, .pick (.loc 25) (.loc 31) (.const (.bool false)), false, []⟩,
    ⟨33, none, none, .mv (.loc 32) false, false, []⟩,
    ⟨34, none, (some ((.loc 33), true)), .fieldAddr 30 1 false (.var 5), false, []⟩,
    ⟨35, none, (some ((.loc 33), true)), .load false 1 (.loc 34) true, false, []⟩,
    ⟨36, none, (some ((.loc 33), true)), .len 1 (.loc 35), false, []⟩,
    ⟨37, none, (some ((.loc 33), true)), .bin .eql (.loc 36) (.const (.int .i64 1)), false, []⟩,
    ⟨38, none, none, .pick (.loc 33) (.loc 37) (.const (.bool false)), false, []⟩,
    ⟨39, none, none, .mv (.loc 38) false, false, []⟩,
    ⟨40, none, (some ((.loc 39), true)), .fieldAddr 30 1 false (.var 5), false, []⟩,
    ⟨41, none, (some ((.loc 39), true)), .load false 1 (.loc 40) false, false, []⟩,
    ⟨42, none, (some ((.loc 39), true)), .idxAddrVs 4 (.loc 41) (.const (.int .i64 0)), false, []⟩,
    ⟨43, none, (some ((.loc 39), true)), .load true 4 (.loc 42) true, false, []⟩,
    ⟨44, none, (some ((.loc 39), true)), .build [(.int .i64 0), (.int .i64 0), (.int .i64 0), (.str [])] [(0, 1, (.const (.int .i64 1))), (1, 1, (.const (.int .i64 49185)))], false, []⟩,
    ⟨45, none, (some ((.loc 39), true)), .eqAgg false [(.i .i64), (.i .i64), (.i .i64), .s] (.loc 43) (.loc 44), false, []⟩,
    ⟨46, none, none, .pick (.loc 39) (.loc 45) (.const (.bool false)), false, []⟩,
    ⟨47, none, none, .mv (.loc 46) false, false, []⟩,
    ⟨48, none, (some ((.loc 47), true)), .fieldAddr 30 1 false (.var 7), false, []⟩,
    ⟨49, none, (some ((.loc 47), true)), .load false 1 (.loc 48) true, false, []⟩,
    ⟨50, none, (some ((.loc 47), true)), .len 1 (.loc 49), false, []⟩,
    ⟨51, none, (some ((.loc 47), true)), .bin .eql (.loc 50) (.const (.int .i64 0)), false, []⟩,
    ⟨52, none, none, .pick (.loc 47) (.loc 51) (.const (.bool false)), false, []⟩,
    ⟨53, none, none, .mv (.loc 52) false, false, []⟩,
    ⟨54, none, (some ((.loc 53), true)), .fieldAddr 0 21 true (.var 7), false, []⟩,
    ⟨55, none, (some ((.loc 53), true)), .idxAddrArr 3 7 true (.loc 54) (.const (.int .i64 0)), false, []⟩,
    ⟨56, none, (some ((.loc 53), true)), .fieldAddr 3 1 false (.loc 55), false, []⟩,
    ⟨57, none, (some ((.loc 53), true)), .load false 1 (.loc 56) false, false, []⟩,
    ⟨58, none, none, .pick (.loc 53) (.loc 57) (.const (.bool false)), false, []⟩,
    ⟨59, none, none, .mv (.loc 58) false, false, []⟩,
    ⟨60, none, (some ((.loc 59), true)), .fieldAddr 0 21 true (.var 7), false, []⟩,
    ⟨61, none, (some ((.loc 59), true)), .idxAddrArr 3 7 true (.loc 60) (.const (.int .i64 0)), false, []⟩,
    ⟨62, none, (some ((.loc 59), true)), .fieldAddr 5 1 false (.loc 61), false, []⟩,
    ⟨63, none, (some ((.loc 59), true)), .load false 1 (.loc 62) true, false, []⟩,
    ⟨64, none, (some ((.loc 59), true)), .bin .eql (.loc 63) (.const (.int .i64 1)), false, []⟩,
    ⟨65, none, none, .pick (.loc 59) (.loc 64) (.const (.bool false)), false, []⟩,
    ⟨66, none, none, .mv (.loc 65) false, false, []⟩,
    ⟨67, none, (some ((.loc 66), true)), .fieldAddr 30 1 false (.var 11), false, []⟩,
    ⟨68, none, (some ((.loc 66), true)), .load false 1 (.loc 67) true, false, []⟩,
    ⟨69, none, (some ((.loc 66), true)), .len 1 (.loc 68), false, []⟩,
    ⟨70, none, (some ((.loc 66), true)), .bin .eql (.loc 69) (.const (.int .i64 1)), false, []⟩,
    ⟨71, none, none, .pick (.loc 66) (.loc 70) (.const (.bool false)), false, []⟩,
    ⟨72, none, none, .mv (.loc 71) false, false, []⟩,
    ⟨73, none, (some ((.loc 72), true)), .fieldAddr 30 1 false (.var 11), false, []⟩,
    ⟨74, none, (some ((.loc 72), true)), .load false 1 (.loc 73) false, false, []⟩,
    ⟨75, none, (some ((.loc 72), true)), .idxAddrVs 4 (.loc 74) (.const (.int .i64 0)), false, []⟩,
    ⟨76, none, (some ((.loc 72), true)), .load true 4 (.loc 75) true, false, []⟩,
    ⟨77, none, (some ((.loc 72), true)), .build [(.int .i64 0), (.int .i64 0), (.int .i64 0), (.str [])] [(0, 1, (.const (.int .i64 2))), (1, 1, (.const (.int .i64 49185))), (2, 1, (.const (.int .i64 9)))], false, []⟩,
    ⟨78, none, (some ((.loc 72), true)), .eqAgg false [(.i .i64), (.i .i64), (.i .i64), .s] (.loc 76) (.loc 77), false, []⟩,
    ⟨79, none, none, .pick (.loc 72) (.loc 78) (.const (.bool false)), false, []⟩,
    ⟨80, none, none, .mv (.loc 79) false, false, []⟩,
    ⟨81, none, (some ((.loc 80), true)), .mv (.var 13) true, false, []⟩,
    ⟨82, none, (some ((.loc 80), true)), .len 1 (.loc 81), false, []⟩,
    ⟨83, none, (some ((.loc 80), true)), .bin .eql (.loc 82) (.const (.int .i64 1)), false, []⟩,
    ⟨84, none, none, .pick (.loc 80) (.loc 83) (.const (.bool false)), false, []⟩,
    ⟨85, none, none, .mv (.loc 84) false, false, []⟩,
    ⟨86, none, (some ((.loc 85), true)), .mv (.var 13) false, false, []⟩,
    ⟨87, none, (some ((.loc 85), true)), .idxAddrVs 3 (.loc 86) (.const (.int .i64 0)), false, []⟩,
    ⟨88, none, (some ((.loc 85), true)), .load true 3 (.loc 87) true, false, []⟩,
    ⟨89, none, (some ((.loc 85), true)), .build [(.int .i64 0), (.int .i64 0), (.int .i64 0)] [(0, 1, (.const (.int .i64 49185))), (1, 1, (.const (.int .i64 6))), (2, 1, (.const (.int .i64 9)))], false, []⟩,
    ⟨90, none, (some ((.loc 85), true)), .eqAgg false [(.i .i64), (.i .i64), (.i .i64)] (.loc 88) (.loc 89), false, []⟩,
    ⟨91, none, none, .pick (.loc 85) (.loc 90) (.const (.bool false)), false, []⟩,
    ⟨92, none, none, .mv (.loc 91) false, false, []⟩,
    ⟨93, none, (some ((.loc 92), true)), .mv (.var 14) true, false, []⟩,
    ⟨94, none, (some ((.loc 92), true)), .len 1 (.loc 93), false, []⟩,
    ⟨95, none, (some ((.loc 92), true)), .bin .eql (.loc 94) (.const (.int .i64 7)), false, []⟩,
    ⟨96, none, none, .pick (.loc 92) (.loc 95) (.const (.bool false)), false, []⟩,
    ⟨97, none, none, .mv (.loc 96) false, false, []⟩,
    ⟨98, none, (some ((.loc 97), true)), .load true 9 (.var 1) false, false, []⟩,
    ⟨99, none, (some ((.loc 97), true)), .callp 8 [(.loc 98)], false, []⟩,
    ⟨100, none, none, .pick (.loc 97) (.loc 99) (.const (.bool false)), false, []⟩,
    ⟨101, none, none, .mv (.loc 100) false, false, []⟩,
    ⟨102, none, (some ((.loc 101), true)), .load true 31 (.var 2) false, false, []⟩,
    ⟨103, none, (some ((.loc 101), true)), .callp 16 [(.loc 102)], false, []⟩,
    ⟨104, none, (some ((.loc 101), true)), .un .not (.loc 103), false, []⟩,
    ⟨105, none, none, .pick (.loc 101) (.loc 104) (.const (.bool false)), false, []⟩,
    ⟨106, none, none, .mv (.loc 105) false, false, []⟩,
    ⟨107, none, (some ((.loc 106), true)), .load true 31 (.var 2) false, false, []⟩,
    ⟨108, none, (some ((.loc 106), true)), .load true 31 (.var 2) false, false, []⟩,
    ⟨109, none, (some ((.loc 106), true)), .callp 10 [(.loc 107), (.loc 108)], false, []⟩,
    ⟨110, none, none, .pick (.loc 106) (.loc 109) (.const (.bool false)), false, []⟩,
    ⟨111, none, none, .mv (.loc 110) false, false, []⟩,
    ⟨112, none, (some ((.loc 111), true)), .callp 20 [(.const (.int .i64 1)), (.const (.int .i64 49185)), (.const (.int .i64 1)), (.const (.int .i64 1)), (.const (.vs true .sh 0 []))], false, []⟩,
    ⟨113, none, (some ((.loc 111), true)), .callp 22 [(.loc 112)], false, []⟩,
    ⟨114, none, (some ((.loc 111), true)), .len 1 (.loc 113), false, []⟩,
    ⟨115, none, (some ((.loc 111), true)), .bin .eql (.loc 114) (.const (.int .i64 2)), false, []⟩,
    ⟨116, none, none, .pick (.loc 111) (.loc 115) (.const (.bool false)), false, []⟩,
    ⟨117, (some 0), none, .asg (.loc 116), false, []⟩] false
def c7 : LCode :=
  .seq (
   .region 1 [⟨0, (some 0), none, .asg (.const (.bool false)), false, []⟩] false) (
  .seq (
   .region 3 [⟨0, none, none, .callp 19 [], false, []⟩,
     ⟨1, (some 1), none, .alloc 24 [(.int .i64 0), (.int .i64 0), (.int .i64 0), (.int .i64 0), (.str []), (.str []), (.int .i64 0), (.int .u32 0), (.bool false)], false, []⟩,
     ⟨2, (some 15), none, .store 9 (.var 1) (.loc 0), false, []⟩] false) (
  .seq (
   .region 4 [⟨0, none, none, .load true 9 (.var 1) false, false, []⟩,
     ⟨1, none, none, .callp 13 [(.loc 0)], false, []⟩,
     ⟨2, (some 2), none, .alloc 34 [(.int .i64 0), (.int .i64 0), (.int .i64 0), (.bool false), (.bool false), (.int .i64 0), (.str []), (.int .i64 0), (.int .i64 0), (.int .i64 0), (.bool false), (.bool false), (.int .i64 0), (.str []), (.int .i64 0), (.int .i64 0), (.int .i64 0), (.bool false), (.bool false), (.int .i64 0), (.str []), (.int .i64 0), (.int .i64 0), (.bool false), (.bool false), (.bool false), (.int .i64 0), (.str []), (.bool false), (.int .i64 0), (.vs true .sh 0 [])], false, []⟩,
     ⟨3, (some 15), none, .store 31 (.var 2) (.loc 1), false, []⟩] false) (
  .seq (
   .region 10 [⟨0, none, none, .load true 9 (.var 1) false, false, []⟩,
     ⟨1, none, none, .load true 31 (.var 2) false, false, []⟩,
     ⟨2, none, none, .build [(.int .i64 0), (.int .i64 0), (.int .i64 0), (.int .i64 0), (.vs true .sh 0 []), (.bool false)] [(0, 1, (.const (.int .i64 5))), (1, 1, (.const (.int .i64 49185)))], false, []⟩,
     ⟨3, none, none, .callp 14 [(.loc 0), (.loc 1), (.loc 2)], false, []⟩,
     ⟨4, none, none, .mv (.loc 3) false, false, []⟩,
     ⟨5, none, none, .extract (.loc 4) 0, false, []⟩,
     ⟨6, none, none, .extract (.loc 4) 1, false, []⟩,
     ⟨7, (some 3), none, .alloc 34 [(.int .i64 0), (.int .i64 0), (.int .i64 0), (.bool false), (.bool false), (.int .i64 0), (.str []), (.int .i64 0), (.int .i64 0), (.int .i64 0), (.bool false), (.bool false), (.int .i64 0), (.str []), (.int .i64 0), (.int .i64 0), (.int .i64 0), (.bool false), (.bool false), (.int .i64 0), (.str []), (.int .i64 0), (.int .i64 0), (.bool false), (.bool false), (.bool false), (.int .i64 0), (.str []), (.bool false), (.int .i64 0), (.vs true .sh 0 [])], false, []⟩,
     ⟨8, (some 15), none, .store 31 (.var 3) (.loc 5), false, []⟩,
     ⟨9, (some 4), none, .asg (.loc 6), false, []⟩] false) (
  .seq (
   .region 10 [⟨0, none, none, .load true 9 (.var 1) false, false, []⟩,
     ⟨1, none, none, .load true 31 (.var 3) false, false, []⟩,
     ⟨2, none, none, .build [(.int .i64 0), (.int .i64 0), (.int .i64 0), (.int .i64 0), (.vs true .sh 0 []), (.bool false)] [(0, 1, (.const (.int .i64 3)))], false, []⟩,
     ⟨3, none, none, .callp 14 [(.loc 0), (.loc 1), (.loc 2)], false, []⟩,
     ⟨4, none, none, .mv (.loc 3) false, false, []⟩,
     ⟨5, none, none, .extract (.loc 4) 0, false, []⟩,
     ⟨6, none, none, .extract (.loc 4) 1, false, []⟩,
     ⟨7, (some 5), none, .alloc 34 [(.int .i64 0), (.int .i64 0), (.int .i64 0), (.bool false), (.bool false), (.int .i64 0), (.str []), (.int .i64 0), (.int .i64 0), (.int .i64 0), (.bool false), (.bool false), (.int .i64 0), (.str []), (.int .i64 0), (.int .i64 0), (.int .i64 0), (.bool false), (.bool false), (.int .i64 0), (.str []), (.int .i64 0), (.int .i64 0), (.bool false), (.bool false), (.bool false), (.int .i64 0), (.str []), (.bool false), (.int .i64 0), (.vs true .sh 0 [])], false, []⟩,
     ⟨8, (some 15), none, .store 31 (.var 5) (.loc 5), false, []⟩,
     ⟨9, (some 6), none, .asg (.loc 6), false, []⟩] false) (
  .seq (
   .region 11 [⟨0, none, none, .load true 9 (.var 1) false, false, []⟩,
     ⟨1, none, none, .load true 31 (.var 5) false, false, []⟩,
     ⟨2, none, none, .callp 20 [(.const (.int .i64 2)), (.const (.int .i64 49185)), (.const (.int .i64 1)), (.const (.int .i64 1)), (.const (.vs true .sh 0 []))], false, []⟩,
     ⟨3, none, none, .build [(.int .i64 0), (.int .i64 0), (.int .i64 0), (.int .i64 0), (.vs true .sh 0 []), (.bool false)] [(0, 1, (.const (.int .i64 2))), (2, 3, (.loc 2))], false, []⟩,
     ⟨4, none, none, .callp 14 [(.loc 0), (.loc 1), (.loc 3)], false, []⟩,
     ⟨5, none, none, .mv (.loc 4) false, false, []⟩,
     ⟨6, none, none, .extract (.loc 5) 0, false, []⟩,
     ⟨7, none, none, .extract (.loc 5) 1, false, []⟩,
     ⟨8, (some 7), none, .alloc 34 [(.int .i64 0), (.int .i64 0), (.int .i64 0), (.bool false), (.bool false), (.int .i64 0), (.str []), (.int .i64 0), (.int .i64 0), (.int .i64 0), (.bool false), (.bool false), (.int .i64 0), (.str []), (.int .i64 0), (.int .i64 0), (.int .i64 0), (.bool false), (.bool false), (.int .i64 0), (.str []), (.int .i64 0), (.int .i64 0), (.bool false), (.bool false), (.bool false), (.int .i64 0), (.str []), (.bool false), (.int .i64 0), (.vs true .sh 0 [])], false, []⟩,
     ⟨9, (some 15), none, .store 31 (.var 7) (.loc 6), false, []⟩,
     ⟨10, (some 8), none, .asg (.loc 7), false, []⟩] true) (
  .seq (
   .region 10 [⟨0, none, none, .load true 9 (.var 1) false, false, []⟩,
     ⟨1, none, none, .load true 31 (.var 5) false, false, []⟩,
     ⟨2, none, none, .build [(.int .i64 0), (.int .i64 0), (.int .i64 0), (.int .i64 0), (.vs true .sh 0 []), (.bool false)] [(0, 1, (.const (.int .i64 7))), (1, 1, (.const (.int .i64 49185)))], false, []⟩,
     ⟨3, none, none, .callp 14 [(.loc 0), (.loc 1), (.loc 2)], false, []⟩,
     ⟨4, none, none, .mv (.loc 3) false, false, []⟩,
     ⟨5, none, none, .extract (.loc 4) 0, false, []⟩,
     ⟨6, none, none, .extract (.loc 4) 1, false, []⟩,
     ⟨7, none, none, .alloc 34 [(.int .i64 0), (.int .i64 0), (.int .i64 0), (.bool false), (.bool false), (.int .i64 0), (.str []), (.int .i64 0), (.int .i64 0), (.int .i64 0), (.bool false), (.bool false), (.int .i64 0), (.str []), (.int .i64 0), (.int .i64 0), (.int .i64 0), (.bool false), (.bool false), (.int .i64 0), (.str []), (.int .i64 0), (.int .i64 0), (.bool false), (.bool false), (.bool false), (.int .i64 0), (.str []), (.bool false), (.int .i64 0), (.vs true .sh 0 [])], false, []⟩,
     ⟨8, (some 15), none, .store 31 (.loc 7) (.loc 5), false, []⟩,
     ⟨9, (some 9), none, .asg (.loc 6), false, []⟩] false) (
  .seq (
   .region 11 [⟨0, none, none, .load true 9 (.var 1) false, false, []⟩,
     ⟨1, none, none, .load true 31 (.var 7) false, false, []⟩,
     ⟨2, none, none, .callp 20 [(.const (.int .i64 2)), (.const (.int .i64 49185)), (.const (.int .i64 1)), (.const (.int .i64 1)), (.const (.vs true .sh 0 []))], false, []⟩,
     ⟨3, none, none, .build [(.int .i64 0), (.int .i64 0), (.int .i64 0), (.int .i64 0), (.vs true .sh 0 []), (.bool false)] [(0, 1, (.const (.int .i64 2))), (2, 3, (.loc 2))], false, []⟩,
     ⟨4, none, none, .callp 14 [(.loc 0), (.loc 1), (.loc 3)], false, []⟩,
     ⟨5, none, none, .mv (.loc 4) false, false, []⟩,
     ⟨6, none, none, .extract (.loc 5) 0, false, []⟩,
     ⟨7, none, none, .extract (.loc 5) 1, false, []⟩,
     ⟨8, none, none, .alloc 34 [(.int .i64 0), (.int .i64 0), (.int .i64 0), (.bool false), (.bool false), (.int .i64 0), (.str []), (.int .i64 0), (.int .i64 0), (.int .i64 0), (.bool false), (.bool false), (.int .i64 0), (.str []), (.int .i64 0), (.int .i64 0), (.int .i64 0), (.bool false), (.bool false), (.int .i64 0), (.str []), (.int .i64 0), (.int .i64 0), (.bool false), (.bool false), (.bool false), (.int .i64 0), (.str []), (.bool false), (.int .i64 0), (.vs true .sh 0 [])], false, []⟩,
     ⟨9, (some 15), none, .store 31 (.loc 8) (.loc 6), false, []⟩,
     ⟨10, (some 10), none, .asg (.loc 7), false, []⟩] true) (
  .seq (
   .region 11 [⟨0, none, none, .load true 9 (.var 1) false, false, []⟩,
     ⟨1, none, none, .load true 31 (.var 7) false, false, []⟩,
     ⟨2, none, none, .callp 20 [(.const (.int .i64 1)), (.const (.int .i64 49185)), (.const (.int .i64 1)), (.const (.int .i64 9)), (.const (.vs true .sh 0 []))], false, []⟩,
     ⟨3, none, none, .build [(.int .i64 0), (.int .i64 0), (.int .i64 0), (.int .i64 0), (.vs true .sh 0 []), (.bool false)] [(0, 1, (.const (.int .i64 1))), (5, 1, (.const (.bool true))), (2, 3, (.loc 2))], false, []⟩,
     ⟨4, none, none, .callp 14 [(.loc 0), (.loc 1), (.loc 3)], false, []⟩,
     ⟨5, none, none, .mv (.loc 4) false, false, []⟩,
     ⟨6, none, none, .extract (.loc 5) 0, false, []⟩,
     ⟨7, none, none, .extract (.loc 5) 1, false, []⟩,
     ⟨8, (some 11), none, .alloc 34 [(.int .i64 0), (.int .i64 0), (.int .i64 0), (.bool false), (.bool false), (.int .i64 0), (.str []), (.int .i64 0), (.int .i64 0), (.int .i64 0), (.bool false), (.bool false), (.int .i64 0), (.str []), (.int .i64 0), (.int .i64 0), (.int .i64 0), (.bool false), (.bool false), (.int .i64 0), (.str []), (.int .i64 0), (.int .i64 0), (.bool false), (.bool false), (.bool false), (.int .i64 0), (.str []), (.bool false), (.int .i64 0), (.vs true .sh 0 [])], false, []⟩,
     ⟨9, (some 15), none, .store 31 (.var 11) (.loc 6), false, []⟩,
     ⟨10, (some 12), none, .asg (.loc 7), false, []⟩] true) (
  .seq (
   .region 6 [⟨0, none, none, .load true 9 (.var 1) false, false, []⟩,
     ⟨1, none, none, .load true 31 (.var 7) false, false, []⟩,
     ⟨2, none, none, .callp 20 [(.const (.int .i64 1)), (.const (.int .i64 49185)), (.const (.int .i64 2)), (.const (.int .i64 1)), (.const (.vs true .sh 0 []))], false, []⟩,
     ⟨3, none, none, .build [(.int .i64 0), (.int .i64 0), (.int .i64 0), (.int .i64 0), (.vs true .sh 0 []), (.bool false)] [(0, 1, (.const (.int .i64 1))), (2, 3, (.loc 2))], false, []⟩,
     ⟨4, none, none, .callp 21 [(.loc 0), (.loc 1), (.loc 3)], false, []⟩,
     ⟨5, (some 13), none, .asg (.loc 4), false, []⟩] true) (
  .seq (
   .region 4 [⟨0, none, none, .load true 9 (.var 1) false, false, []⟩,
     ⟨1, none, none, .load true 31 (.var 2) false, false, []⟩,
     ⟨2, none, none, .callp 15 [(.loc 0), (.loc 1)], false, []⟩,
     ⟨3, (some 14), none, .asg (.loc 2), false, []⟩] false) (
  .seq (
   r7_0) (
  .ret))))))))))))
def l7 : LFun := ⟨0, [none, none, none, none, none, none, none, none, none, none, none, none, none, none, none], c7, [.var 0], .pure⟩
/-- umpire/spec.Good -/
def vm8 : List Nat := [0, 1, 2]
def c8 : LCode :=
  .seq (
   .region 2 [⟨0, (some 1), none, .box 24 (.var 0), false, []⟩,
     ⟨1, (some 2), none, .asg (.const (.bool false)), false, []⟩] false) (
  .seq (
   .region 13 [⟨0, none, none, .load true 9 (.var 1) false, false, []⟩,
     ⟨1, none, none, .callp 23 [(.loc 0)], false, []⟩,
     ⟨2, none, none, .mv (.loc 1) false, false, []⟩,
     ⟨3, none, (some ((.loc 2), true)), .fieldAddr 3 1 false (.var 1), false, []⟩,
     ⟨4, none, (some ((.loc 2), true)), .load false 1 (.loc 3) true, false, []⟩,
     ⟨5, none, (some ((.loc 2), true)), .bin .geq (.loc 4) (.const (.int .i64 8)), false, []⟩,
     ⟨6, none, none, .pick (.loc 2) (.loc 5) (.const (.bool false)), false, []⟩,
     ⟨7, none, none, .mv (.loc 6) false, false, []⟩,
     ⟨8, none, (some ((.loc 7), true)), .fieldAddr 3 1 false (.var 1), false, []⟩,
     ⟨9, none, (some ((.loc 7), true)), .load false 1 (.loc 8) true, false, []⟩,
     ⟨10, none, (some ((.loc 7), true)), .bin .leq (.loc 9) (.const (.int .i64 65535)), false, []⟩,
     ⟨11, none, none, .pick (.loc 7) (.loc 10) (.const (.bool false)), false, []⟩,
     ⟨12, (some 2), none, .asg (.loc 11), false, []⟩] false) (
  .ret))
def l8 : LFun := ⟨1, [(some 0), none, none], c8, [.var 2], .pure⟩
/-- umpire/umpireref22.Good -/
def vm9 : List Nat := [0, 1, 2]
def c9 : LCode :=
  .seq (
   .region 2 [⟨0, (some 1), none, .box 24 (.var 0), false, []⟩,
     ⟨1, (some 2), none, .asg (.const (.bool false)), false, []⟩] false) (
  .seq (
   .region 13 [⟨0, none, none, .load true 9 (.var 1) false, false, []⟩,
     ⟨1, none, none, .callp 24 [(.loc 0)], false, []⟩,
     ⟨2, none, none, .mv (.loc 1) false, false, []⟩,
     ⟨3, none, (some ((.loc 2), true)), .fieldAddr 3 1 false (.var 1), false, []⟩,
     ⟨4, none, (some ((.loc 2), true)), .load false 1 (.loc 3) true, false, []⟩,
     ⟨5, none, (some ((.loc 2), true)), .bin .geq (.loc 4) (.const (.int .i64 8)), false, []⟩,
     ⟨6, none, none, .pick (.loc 2) (.loc 5) (.const (.bool false)), false, []⟩,
     ⟨7, none, none, .mv (.loc 6) false, false, []⟩,
     ⟨8, none, (some ((.loc 7), true)), .fieldAddr 3 1 false (.var 1), false, []⟩,
     ⟨9, none, (some ((.loc 7), true)), .load false 1 (.loc 8) true, false, []⟩,
     ⟨10, none, (some ((.loc 7), true)), .bin .leq (.loc 9) (.const (.int .i64 65535)), false, []⟩,
     ⟨11, none, none, .pick (.loc 7) (.loc 10) (.const (.bool false)), false, []⟩,
     ⟨12, (some 2), none, .asg (.loc 11), false, []⟩] false) (
  .ret))
def l9 : LFun := ⟨1, [(some 0), none, none], c9, [.var 2], .pure⟩
/-- umpire/spec.Same -/
def vm10 : List Nat := [0, 1, 2, 3, 4]
def r10_0 : LCode :=
  .region 20 [⟨0, none, none, .fieldAddr 0 21 true (.var 2), false, []⟩,
    ⟨1, none, none, .load true 21 (.loc 0) true, false, []⟩,
    ⟨2, none, none, .fieldAddr 0 21 true (.var 3), false, []⟩,
    ⟨3, none, none, .load true 21 (.loc 2) true, false, []⟩,
    ⟨4, none, none, .eqAgg false [(.i .i64), (.i .i64), (.i .i64), .b, .b, (.i .i64), .s, (.i .i64), (.i .i64), (.i .i64), .b, .b, (.i .i64), .s, (.i .i64), (.i .i64), (.i .i64), .b, .b, (.i .i64), .s] (.loc 1) (.loc 3), false, []⟩,
    ⟨5, none, none, .mv (.loc 4) false, false, []⟩,
    ⟨6, none, (some ((.loc 5), true)), .fieldAddr 21 9 true (.var 2), false, []⟩,
    ⟨7, none, (some ((.loc 5), true)), .load true 9 (.loc 6) true, false, []⟩,
    ⟨8, none, (some ((.loc 5), true)), .fieldAddr 21 9 true (.var 3), false, []⟩,
    ⟨9, none, (some ((.loc 5), true)), .load true 9 (.loc 8) true, false, []⟩,
    ⟨10, none, (some ((.loc 5), true)), .eqAgg false [(.i .i64), (.i .i64), .b, .b, .b, (.i .i64), .s, .b, (.i .i64)] (.loc 7) (.loc 9), false, []⟩,
    ⟨11, none, none, .pick (.loc 5) (.loc 10) (.const (.bool false)), false, []⟩,
    ⟨12, none, none, .mv (.loc 11) false, false, []⟩,
    ⟨13, none, (some ((.loc 12), true)), .fieldAddr 30 1 false (.var 2), false, []⟩,
    ⟨14, none, (some ((.loc 12), true)), .load false 1 (.loc 13) false, false, []⟩,
    ⟨15, none, (some ((.loc 12), true)), .fieldAddr 30 1 false (.var 3), false, []⟩,
    ⟨16, none, (some ((.loc 12), true)), .load false 1 (.loc 15) false, false, []⟩,
    ⟨17, none, (some ((.loc 12), true)), .callp 25 [(.loc 14), (.loc 16)], false, []⟩,
    ⟨18, none, none, .pick (.loc 12) (.loc 17) (.const (.bool false)), false, []⟩,
    ⟨19, (some 4), none, .asg (.loc 18), false, []⟩] false
def c10 : LCode :=
  .seq (
   .region 3 [⟨0, (some 2), none, .box 34 (.var 0), false, []⟩,
     ⟨1, (some 3), none, .box 34 (.var 1), false, []⟩,
     ⟨2, (some 4), none, .asg (.const (.bool false)), false, []⟩] false) (
  .seq (
   r10_0) (
  .ret))
def l10 : LFun := ⟨2, [(some 0), (some 1), none, none, none], c10, [.var 4], .pure⟩
/-- umpire/umpireref22.Same -/
def vm11 : List Nat := [0, 1, 2, 3, 4]
def r11_0 : LCode :=
  .region 20 [⟨0, none, none, .fieldAddr 0 21 true (.var 2), false, []⟩,
    ⟨1, none, none, .load true 21 (.loc 0) true, false, []⟩,
    ⟨2, none, none, .fieldAddr 0 21 true (.var 3), false, []⟩,
    ⟨3, none, none, .load true 21 (.loc 2) true, false, []⟩,
    ⟨4, none, none, .eqAgg false [(.i .i64), (.i .i64), (.i .i64), .b, .b, (.i .i64), .s, (.i .i64), (.i .i64), (.i .i64), .b, .b, (.i .i64), .s, (.i .i64), (.i .i64), (.i .i64), .b, .b, (.i .i64), .s] (.loc 1) (.loc 3), false, []⟩,
    ⟨5, none, none, .mv (.loc 4) false, false, []⟩,
    ⟨6, none, (some ((.loc 5), true)), .fieldAddr 21 9 true (.var 2), false, []⟩,
    ⟨7, none, (some ((.loc 5), true)), .load true 9 (.loc 6) true, false, []⟩,
    ⟨8, none, (some ((.loc 5), true)), .fieldAddr 21 9 true (.var 3), false, []⟩,
    ⟨9, none, (some ((.loc 5), true)), .load true 9 (.loc 8) true, false, []⟩,
    ⟨10, none, (some ((.loc 5), true)), .eqAgg false [(.i .i64), (.i .i64), .b, .b, .b, (.i .i64), .s, .b, (.i .i64)] (.loc 7) (.loc 9), false, []⟩,
    ⟨11, none, none, .pick (.loc 5) (.loc 10) (.const (.bool false)), false, []⟩,
    ⟨12, none, none, .mv (.loc 11) false, false, []⟩,
    ⟨13, none, (some ((.loc 12), true)), .fieldAddr 30 1 false (.var 2), false, []⟩,
    ⟨14, none, (some ((.loc 12), true)), .load false 1 (.loc 13) false, false, []⟩,
    ⟨15, none, (some ((.loc 12), true)), .fieldAddr 30 1 false (.var 3), false, []⟩,
    ⟨16, none, (some ((.loc 12), true)), .load false 1 (.loc 15) false, false, []⟩,
    ⟨17, none, (some ((.loc 12), true)), .callp 26 [(.loc 14), (.loc 16)], false, []⟩,
    ⟨18, none, none, .pick (.loc 12) (.loc 17) (.const (.bool false)), false, []⟩,
    ⟨19, (some 4), none, .asg (.loc 18), false, []⟩] false
def c11 : LCode :=
  .seq (
   .region 3 [⟨0, (some 2), none, .box 34 (.var 0), false, []⟩,
     ⟨1, (some 3), none, .box 34 (.var 1), false, []⟩,
     ⟨2, (some 4), none, .asg (.const (.bool false)), false, []⟩] false) (
  .seq (
   r11_0) (
  .ret))
def l11 : LFun := ⟨2, [(some 0), (some 1), none, none, none], c11, [.var 4], .pure⟩
/-- umpire/umpirelaw22.fits -/
def vm12 : List Nat := [0, 1, 2, 4]
def r12_0 : LCode :=
  .region 19 [⟨0, none, none, .load true 9 (.var 2) false, false, []⟩,
    ⟨1, none, none, .callp 9 [(.loc 0)], false, []⟩,
    ⟨2, none, none, .mv (.loc 1) false, false, []⟩,
    ⟨3, none, (some ((.loc 2), true)), .fieldAddr 4 1 false (.var 2), false, []⟩,
    ⟨4, none, (some ((.loc 2), true)), .load false 1 (.loc 3) true, false, []⟩,
    ⟨5, none, (some ((.loc 2), true)), .len 0 (.loc 4), false, []⟩,
    ⟨6, none, (some ((.loc 2), true)), .bin .leq (.loc 5) (.const (.int .i64 200)), false, []⟩,
    ⟨7, none, none, .pick (.loc 2) (.loc 6) (.const (.bool false)), false, []⟩,
    ⟨8, none, none, .mv (.loc 7) false, false, []⟩,
    ⟨9, none, (some ((.loc 8), true)), .fieldAddr 5 1 false (.var 2), false, []⟩,
    ⟨10, none, (some ((.loc 8), true)), .load false 1 (.loc 9) true, false, []⟩,
    ⟨11, none, (some ((.loc 8), true)), .len 0 (.loc 10), false, []⟩,
    ⟨12, none, (some ((.loc 8), true)), .bin .leq (.loc 11) (.const (.int .i64 200)), false, []⟩,
    ⟨13, none, none, .pick (.loc 8) (.loc 12) (.const (.bool false)), false, []⟩,
    ⟨14, none, none, .mv (.loc 13) false, false, []⟩,
    ⟨15, none, (some ((.loc 14), true)), .mv (.var 1) false, false, []⟩,
    ⟨16, none, (some ((.loc 14), true)), .callp 27 [(.loc 15)], false, []⟩,
    ⟨17, none, none, .pick (.loc 14) (.loc 16) (.const (.bool false)), false, []⟩,
    ⟨18, (some 3), none, .asg (.loc 17), false, []⟩] false
def c12 : LCode :=
  .seq (
   .region 2 [⟨0, (some 2), none, .box 24 (.var 0), false, []⟩,
     ⟨1, (some 3), none, .asg (.const (.bool false)), false, []⟩] false) (
  .seq (
   r12_0) (
  .ret))
def l12 : LFun := ⟨2, [(some 0), (some 1), none, none], c12, [.var 3], .pure⟩
/-- umpire/spec.Start -/
def vm13 : List Nat := [0, 1, 2, 3, 4, 5, 6]
def b13_0 : LCode :=
  .fence [0, 4, 6] (
   .seq (
    .region 1 [⟨0, (some 6), none, .bin .lss (.var 5) (.const (.int .i64 3)), false, []⟩] false) (
   .seq (
    .cond (.var 6) (
     .skip) (
     .exit 0)) (
   .seq (
    .block 1 (
     .seq (
      .region 2 [⟨0, none, none, .mv (.var 5) false, false, []⟩,
        ⟨1, (some 4), none, .asg (.loc 0), false, []⟩] false) (
     .region 7 [⟨0, none, none, .mv (.var 4) false, false, []⟩,
       ⟨1, none, none, .fieldAddr 2 1 false (.var 1), false, []⟩,
       ⟨2, none, none, .load false 1 (.loc 1) false, false, []⟩,
       ⟨3, none, none, .fieldAddr 0 21 true (.var 3), false, []⟩,
       ⟨4, none, none, .idxAddrArr 3 7 true (.loc 3) (.loc 0), false, []⟩,
       ⟨5, none, none, .fieldAddr 2 1 false (.loc 4), false, []⟩,
       ⟨6, (some 7), none, .store 1 (.loc 5) (.loc 2), false, []⟩] false))) (
   .region 2 [⟨0, none, none, .bin .add (.var 5) (.const (.int .i64 1)), false, []⟩,
     ⟨1, (some 5), none, .mv (.loc 0) false, false, []⟩] false))))
def c13 : LCode :=
  .seq (
   .region 2 [⟨0, (some 1), none, .box 24 (.var 0), false, []⟩,
     ⟨1, (some 2), none, .alloc 34 [(.int .i64 0), (.int .i64 0), (.int .i64 0), (.bool false), (.bool false), (.int .i64 0), (.str []), (.int .i64 0), (.int .i64 0), (.int .i64 0), (.bool false), (.bool false), (.int .i64 0), (.str []), (.int .i64 0), (.int .i64 0), (.int .i64 0), (.bool false), (.bool false), (.int .i64 0), (.str []), (.int .i64 0), (.int .i64 0), (.bool false), (.bool false), (.bool false), (.int .i64 0), (.str []), (.bool false), (.int .i64 0), (.vs true .sh 0 [])], false, []⟩] false) (
  .seq (
   .region 1 [⟨0, (some 3), none, .alloc 34 [(.int .i64 0), (.int .i64 0), (.int .i64 0), (.bool false), (.bool false), (.int .i64 0), (.str []), (.int .i64 0), (.int .i64 0), (.int .i64 0), (.bool false), (.bool false), (.int .i64 0), (.str []), (.int .i64 0), (.int .i64 0), (.int .i64 0), (.bool false), (.bool false), (.int .i64 0), (.str []), (.int .i64 0), (.int .i64 0), (.bool false), (.bool false), (.bool false), (.int .i64 0), (.str []), (.bool false), (.int .i64 0), (.vs true .sh 0 [])], false, []⟩] false) (
  .seq (
   .seq (
    .region 1 [⟨0, (some 5), none, .mv (.const (.int .i64 0)) false, false, []⟩] false) (
   .fence [0, 1, 4, 5, 6] (
    .block 0 (
     .loop b13_0)))) (
  .seq (
   .region 2 [⟨0, none, none, .load true 31 (.var 3) false, false, []⟩,
     ⟨1, (some 7), none, .store 31 (.var 2) (.loc 0), false, []⟩] false) (
  .ret))))
def l13 : LFun := ⟨1, [(some 0), none, none, none, none, none, none], c13, [.cell 2 31 true], .pure⟩
/-- umpire/spec.Step -/
def vm14 : List Nat := [0, 1, 2, 3, 4, 5, 6, 7, 8, 9, 18]
def c14 : LCode :=
  .seq (
   .region 5 [⟨0, (some 3), none, .box 24 (.var 0), false, []⟩,
     ⟨1, (some 4), none, .box 34 (.var 1), false, []⟩,
     ⟨2, (some 5), none, .box 44 (.var 2), false, []⟩,
     ⟨3, (some 6), none, .alloc 34 [(.int .i64 0), (.int .i64 0), (.int .i64 0), (.bool false), (.bool false), (.int .i64 0), (.str []), (.int .i64 0), (.int .i64 0), (.int .i64 0), (.bool false), (.bool false), (.int .i64 0), (.str []), (.int .i64 0), (.int .i64 0), (.int .i64 0), (.bool false), (.bool false), (.int .i64 0), (.str []), (.int .i64 0), (.int .i64 0), (.bool false), (.bool false), (.bool false), (.int .i64 0), (.str []), (.bool false), (.int .i64 0), (.vs true .sh 0 [])], false, []⟩,
     ⟨4, (some 7), none, .asg (.const (.bool false)), false, []⟩] false) (
  .seq (
   .region 9 [⟨0, none, none, .load true 9 (.var 3) false, false, []⟩,
     ⟨1, none, none, .load true 31 (.var 4) false, false, []⟩,
     ⟨2, none, none, .load true 6 (.var 5) false, false, []⟩,
     ⟨3, none, none, .call 28 [(.loc 0), (.loc 1), (.loc 2)], false, []⟩,
     ⟨4, none, none, .mv (.loc 3) false, false, []⟩,
     ⟨5, none, none, .extract (.loc 4) 0, false, []⟩,
     ⟨6, none, none, .extract (.loc 4) 1, false, []⟩,
     ⟨7, (some 8), none, .asg (.loc 5), false, []⟩,
     ⟨8, (some 9), none, .asg (.loc 6), false, []⟩] false) (
  .seq (
   .seq (
    .region 2 [⟨0, none, none, .mv (.var 9) true, false, []⟩,
      ⟨1, (some 10), none, .un .not (.loc 0), false, []⟩] false) (
   .cond (.var 10) (
    .seq (
     .region 3 [⟨0, none, none, .build [(.int .i64 0), (.int .i64 0), (.int .i64 0), (.bool false), (.bool false), (.int .i64 0), (.str []), (.int .i64 0), (.int .i64 0), (.int .i64 0), (.bool false), (.bool false), (.int .i64 0), (.str []), (.int .i64 0), (.int .i64 0), (.int .i64 0), (.bool false), (.bool false), (.int .i64 0), (.str []), (.int .i64 0), (.int .i64 0), (.bool false), (.bool false), (.bool false), (.int .i64 0), (.str []), (.bool false), (.int .i64 0), (.vs true .sh 0 [])] [], false, []⟩,
       ⟨1, (some 11), none, .store 31 (.var 6) (.loc 0), false, []⟩,
       ⟨2, (some 7), none, .asg (.const (.bool false)), false, []⟩] false) (
    .ret)) (
    .skip))) (
  .seq (
   .region 6 [⟨0, none, none, .mv (.var 8) true, false, []⟩,
     ⟨1, none, none, .nilCheck (.loc 0), false, []⟩,
     ⟨2, none, none, .fieldAddr 9 31 true (.loc 1), false, []⟩,
     ⟨3, none, none, .load true 31 (.loc 2) false, false, []⟩,
     ⟨4, (some 11), none, .store 31 (.var 6) (.loc 3), false, []⟩,
     ⟨5, (some 7), none, .asg (.const (.bool true)), false, []⟩] false) (
  .ret))))
def l14 : LFun := ⟨3, [(some 0), (some 1), (some 2), none, none, none, none, none, none, none, none], c14, [.cell 6 31 true, .var 7], .pure⟩
/-- umpire/spec.Hidden -/
def vm15 : List Nat := [0, 1, 2, 3, 4, 5, 6, 8, 13, 16, 17, 18]
def b15_0 : LCode :=
  .fence [0, 1, 4, 7, 8, 11] (
   .seq (
    .region 1 [⟨0, (some 11), none, .bin .lss (.var 10) (.const (.int .i64 3)), false, []⟩] false) (
   .seq (
    .cond (.var 11) (
     .skip) (
     .exit 2)) (
   .seq (
    .block 3 (
     .seq (
      .region 2 [⟨0, none, none, .idxArr 3 1 false (.var 9) (.var 10), false, []⟩,
        ⟨1, (some 7), none, .asg (.loc 0), false, []⟩] false) (
     .region 7 [⟨0, none, none, .mv (.var 5) true, false, []⟩,
       ⟨1, none, none, .mv (.var 6) false, false, []⟩,
       ⟨2, none, none, .mv (.var 7) false, false, []⟩,
       ⟨3, none, none, .build [(.int .i64 0), (.int .i64 0), (.int .i64 0), (.int .i64 0), (.vs true .sh 0 []), (.bool false)] [(0, 1, (.loc 1)), (1, 1, (.loc 2))], false, []⟩,
       ⟨4, none, none, .mkslice (.agg [(.int .i64 0), (.int .i64 0), (.int .i64 0), (.int .i64 0), (.vs true .sh 0 []), (.bool false)]) 6 1 [(0, (.loc 3))], false, []⟩,
       ⟨5, none, none, .append 44 6 64 (.loc 0) (.loc 4), false, []⟩,
       ⟨6, (some 5), none, .asg (.loc 5), false, []⟩] false))) (
   .region 2 [⟨0, none, none, .bin .add (.var 10) (.const (.int .i64 1)), false, []⟩,
     ⟨1, (some 10), none, .mv (.loc 0) false, false, []⟩] false))))
def b15_1 : LCode :=
  .fence [0, 1, 4, 7, 8, 9, 10, 11] (
   .seq (
    .seq (
     .region 2 [⟨0, none, none, .mv (.var 6) true, false, []⟩,
       ⟨1, (some 8), none, .bin .leq (.loc 0) (.const (.int .i64 7)), false, []⟩] false) (
    .cond (.var 8) (
     .skip) (
     .exit 0))) (
   .seq (
    .block 1 (
     .seq (
      .region 2 [⟨0, (some 9), none, .callp 29 [], false, []⟩,
        ⟨1, (some 10), none, .mv (.const (.int .i64 0)) false, false, []⟩] false) (
     .fence [0, 1, 4, 7, 8, 9, 10, 11] (
      .block 2 (
       .loop b15_0))))) (
   .region 3 [⟨0, none, none, .mv (.var 6) true, false, []⟩,
     ⟨1, none, none, .bin .add (.loc 0) (.const (.int .i64 1)), false, []⟩,
     ⟨2, (some 6), none, .asg (.loc 1), false, []⟩] false)))
def c15 : LCode :=
  .seq (
   .region 3 [⟨0, (some 2), none, .box 24 (.var 0), false, []⟩,
     ⟨1, (some 3), none, .box 34 (.var 1), false, []⟩,
     ⟨2, (some 4), none, .asg (.const (.vs true .sh 0 [])), false, []⟩] false) (
  .seq (
   .region 4 [⟨0, none, none, .build [(.int .i64 0), (.int .i64 0), (.int .i64 0), (.int .i64 0), (.vs true .sh 0 []), (.bool false)] [(0, 1, (.const (.int .i64 3)))], false, []⟩,
     ⟨1, none, none, .build [(.int .i64 0), (.int .i64 0), (.int .i64 0), (.int .i64 0), (.vs true .sh 0 []), (.bool false)] [(0, 1, (.const (.int .i64 4)))], false, []⟩,
     ⟨2, none, none, .mkslice (.agg [(.int .i64 0), (.int .i64 0), (.int .i64 0), (.int .i64 0), (.vs true .sh 0 []), (.bool false)]) 6 2 [(0, (.loc 0)), (1, (.loc 1))], false, []⟩,
     ⟨3, (some 5), none, .asg (.loc 2), false, []⟩] false) (
  .seq (
   .seq (
    .region 1 [⟨0, (some 6), none, .asg (.const (.int .i64 5)), false, []⟩] false) (
   .fence [0, 1, 4, 6, 7, 8, 9, 10, 11] (
    .block 0 (
     .loop b15_1)))) (
  .seq (
   .region 4 [⟨0, none, none, .thaw 5 6 true, false, []⟩,
     ⟨1, none, none, .mkFunc 31 [(.var 2), (.var 3)], false, []⟩,
     ⟨2, none, none, .call 30 [(.loc 0), (.loc 1)], false, []⟩,
     ⟨3, (some 4), none, .asg (.loc 2), false, []⟩] false) (
  .ret))))
def l15 : LFun := ⟨2, [(some 0), (some 1), none, none, none, none, none, none, none, none, none, none], c15, [.var 4], .pureF⟩
/-- umpire/spec.Network -/
def vm16 : List Nat := [0, 1, 2]
def c16 : LCode :=
  .seq (
   .region 2 [⟨0, (some 1), none, .box 34 (.var 0), false, []⟩,
     ⟨1, (some 2), none, .asg (.const (.bool false)), false, []⟩] false) (
  .seq (
   .region 12 [⟨0, none, none, .fieldAddr 0 21 true (.var 1), false, []⟩,
     ⟨1, none, none, .idxAddrArr 3 7 true (.loc 0) (.const (.int .i64 0)), false, []⟩,
     ⟨2, none, none, .fieldAddr 0 2 true (.loc 1), false, []⟩,
     ⟨3, none, none, .fieldAddr 0 1 false (.loc 2), false, []⟩,
     ⟨4, none, none, .load false 1 (.loc 3) true, false, []⟩,
     ⟨5, none, none, .bin .eql (.loc 4) (.const (.int .i64 9)), false, []⟩,
     ⟨6, none, none, .mv (.loc 5) false, false, []⟩,
     ⟨7, none, (some ((.loc 6), true)), .fieldAddr 21 9 true (.var 1), false, []⟩,
     ⟨8, none, (some ((.loc 6), true)), .load true 9 (.loc 7) false, false, []⟩,
     ⟨9, none, (some ((.loc 6), true)), .callp 32 [(.loc 8)], false, []⟩,
     ⟨10, none, none, .pick (.loc 6) (.loc 9) (.const (.bool false)), false, []⟩,
     ⟨11, (some 2), none, .asg (.loc 10), false, []⟩] false) (
  .ret))
def l16 : LFun := ⟨1, [(some 0), none, none], c16, [.var 2], .pure⟩
/-- umpire/umpireref22.Link -/
def vm17 : List Nat := [0, 2, 3, 5, 11]
def b17_0 : LCode :=
  .fence [1, 3, 4] (
   .seq (
    .seq (
     .region 2 [⟨0, none, none, .mv (.var 2) true, false, []⟩,
       ⟨1, (some 3), none, .bin .lss (.loc 0) (.const (.int .i64 3)), false, []⟩] false) (
    .cond (.var 3) (
     .skip) (
     .exit 0))) (
   .seq (
    .block 1 (
     .seq (
      .region 4 [⟨0, none, none, .mv (.var 2) false, false, []⟩,
        ⟨1, none, none, .callp 33 [(.loc 0)], false, []⟩,
        ⟨2, none, none, .mv (.var 0) true, false, []⟩,
        ⟨3, (some 4), none, .bin .eql (.loc 1) (.loc 2), false, []⟩] false) (
     .cond (.var 4) (
      .seq (
       .region 2 [⟨0, none, none, .mv (.var 2) false, false, []⟩,
         ⟨1, (some 1), none, .asg (.loc 0), false, []⟩] false) (
      .ret)) (
      .skip)))) (
   .region 3 [⟨0, none, none, .mv (.var 2) true, false, []⟩,
     ⟨1, none, none, .bin .add (.loc 0) (.const (.int .i64 1)), false, []⟩,
     ⟨2, (some 2), none, .asg (.loc 1), false, []⟩] false)))
def c17 : LCode :=
  .seq (
   .region 1 [⟨0, (some 1), none, .asg (.const (.int .i64 0)), false, []⟩] false) (
  .seq (
   .seq (
    .region 1 [⟨0, (some 2), none, .asg (.const (.int .i64 0)), false, []⟩] false) (
   .fence [0, 1, 2, 3, 4] (
    .block 0 (
     .loop b17_0)))) (
  .seq (
   .region 1 [⟨0, (some 1), none, .asg (.const (.int .i64 (-1))), false, []⟩] false) (
  .ret)))
def l17 : LFun := ⟨1, [(some 0), none, none, none, none], c17, [.var 1], .pure⟩
/-- umpire/umpireref13.Get -/
def vm18 : List Nat := [0, 2, 3, 4, 5, 8, 21, 26]
def c18 : LCode :=
  .seq (
   .region 2 [⟨0, (some 1), none, .alloc 57 [(.int .i64 0), (.int .i64 0), (.vs true .sh 0 [])], false, []⟩,
     ⟨1, (some 2), none, .asg (.const (.int .i64 0)), false, []⟩] false) (
  .seq (
   .seq (
    .region 3 [⟨0, none, none, .mv (.var 0) true, false, []⟩,
      ⟨1, none, none, .len 1 (.loc 0), false, []⟩,
      ⟨2, (some 5), none, .bin .lss (.loc 1) (.const (.int .i64 4)), false, []⟩] false) (
   .cond (.var 5) (
    .seq (
     .region 3 [⟨0, none, none, .build [(.int .i64 0), (.int .i64 0), (.vs true .sh 0 [])] [], false, []⟩,
       ⟨1, (some 8), none, .store 3 (.var 1) (.loc 0), false, []⟩,
       ⟨2, (some 2), none, .asg (.const (.int .i64 2)), false, []⟩] false) (
    .ret)) (
    .skip))) (
  .seq (
   .region 11 [⟨0, none, none, .mv (.var 0) false, false, []⟩,
     ⟨1, none, none, .idxAddrVs 1 (.loc 0) (.const (.int .i64 2)), false, []⟩,
     ⟨2, none, none, .load false 1 (.loc 1) false, false, []⟩,
     ⟨3, none, none, .cvInt .i64 (.loc 2), false, []⟩,
     ⟨4, none, none, .bin .mul (.const (.int .i64 256)) (.loc 3), false, []⟩,
     ⟨5, none, none, .mv (.var 0) false, false, []⟩,
     ⟨6, none, none, .idxAddrVs 1 (.loc 5) (.const (.int .i64 3)), false, []⟩,
     ⟨7, none, none, .load false 1 (.loc 6) false, false, []⟩,
     ⟨8, none, none, .cvInt .i64 (.loc 7), false, []⟩,
     ⟨9, none, none, .bin .add (.loc 4) (.loc 8), false, []⟩,
     ⟨10, (some 3), none, .asg (.loc 9), false, []⟩] true) (
  .seq (
   .seq (
    .region 2 [⟨0, none, none, .mv (.var 3) true, false, []⟩,
      ⟨1, (some 6), none, .bin .lss (.loc 0) (.const (.int .i64 4)), false, []⟩] false) (
   .cond (.var 6) (
    .seq (
     .region 3 [⟨0, none, none, .build [(.int .i64 0), (.int .i64 0), (.vs true .sh 0 [])] [], false, []⟩,
       ⟨1, (some 8), none, .store 3 (.var 1) (.loc 0), false, []⟩,
       ⟨2, (some 2), none, .asg (.const (.int .i64 3)), false, []⟩] false) (
    .ret)) (
    .skip))) (
  .seq (
   .seq (
    .region 4 [⟨0, none, none, .mv (.var 3) true, false, []⟩,
      ⟨1, none, none, .mv (.var 0) true, false, []⟩,
      ⟨2, none, none, .len 1 (.loc 1), false, []⟩,
      ⟨3, (some 7), none, .bin .gtr (.loc 0) (.loc 2), false, []⟩] false) (
   .cond (.var 7) (
    .seq (
     .region 3 [⟨0, none, none, .build [(.int .i64 0), (.int .i64 0), (.vs true .sh 0 [])] [], false, []⟩,
       ⟨1, (some 8), none, .store 3 (.var 1) (.loc 0), false, []⟩,
       ⟨2, (some 2), none, .asg (.const (.int .i64 2)), false, []⟩] false) (
    .ret)) (
    .skip))) (
  .seq (
   .region 11 [⟨0, none, none, .mv (.var 0) false, false, []⟩,
     ⟨1, none, none, .idxAddrVs 1 (.loc 0) (.const (.int .i64 0)), false, []⟩,
     ⟨2, none, none, .load false 1 (.loc 1) false, false, []⟩,
     ⟨3, none, none, .cvInt .i64 (.loc 2), false, []⟩,
     ⟨4, none, none, .mv (.var 0) false, false, []⟩,
     ⟨5, none, none, .idxAddrVs 1 (.loc 4) (.const (.int .i64 1)), false, []⟩,
     ⟨6, none, none, .load false 1 (.loc 5) false, false, []⟩,
     ⟨7, none, none, .cvInt .i64 (.loc 6), false, []⟩,
     ⟨8, none, none, .build [(.int .i64 0), (.int .i64 0), (.vs true .sh 0 [])] [(0, 1, (.loc 3)), (1, 1, (.loc 7))], false, []⟩,
     ⟨9, (some 4), none, .alloc 57 [(.int .i64 0), (.int .i64 0), (.vs true .sh 0 [])], false, []⟩,
     ⟨10, (some 8), none, .store 3 (.var 4) (.loc 8), false, []⟩] true) (
  .seq (
   .region 8 [⟨0, none, none, .fieldAddr 2 1 false (.var 4), false, []⟩,
     ⟨1, none, none, .load false 1 (.loc 0) true, false, []⟩,
     ⟨2, none, none, .mv (.var 0) false, false, []⟩,
     ⟨3, none, none, .mv (.var 3) false, false, []⟩,
     ⟨4, none, none, .sliceVs 1 (.loc 2) (some (.const (.int .i64 4))) (some (.loc 3)) none, false, []⟩,
     ⟨5, none, none, .append 5 1 1 (.loc 1) (.loc 4), false, []⟩,
     ⟨6, none, none, .fieldAddr 2 1 false (.var 4), false, []⟩,
     ⟨7, (some 8), none, .store 1 (.loc 6) (.loc 5), false, []⟩] true) (
  .seq (
   .region 3 [⟨0, none, none, .load true 3 (.var 4) false, false, []⟩,
     ⟨1, (some 8), none, .store 3 (.var 1) (.loc 0), false, []⟩,
     ⟨2, (some 2), none, .asg (.const (.int .i64 0)), false, []⟩] false) (
  .ret))))))))
def l18 : LFun := ⟨1, [(some 0), none, none, none, none, none, none, none], c18, [.cell 1 3 true, .var 2], .pure⟩
/-- umpire/umpirelaw22.plain -/
def vm19 : List Nat := [0]
def c19 : LCode :=
  .seq (
   .region 1 [⟨0, (some 0), none, .alloc 24 [(.int .i64 0), (.int .i64 0), (.int .i64 0), (.int .i64 0), (.str []), (.str []), (.int .i64 0), (.int .u32 0), (.bool false)], false, []⟩] false) (
  .seq (
   .region 2 [⟨0, none, none, .build [(.int .i64 0), (.int .i64 0), (.int .i64 0), (.int .i64 0), (.str []), (.str []), (.int .i64 0), (.int .u32 0), (.bool false)] [(0, 1, (.const (.int .i64 2))), (1, 1, (.const (.int .i64 2))), (2, 1, (.const (.int .i64 1))), (3, 1, (.const (.int .i64 1500)))], false, []⟩,
     ⟨1, (some 1), none, .store 9 (.var 0) (.loc 0), false, []⟩] false) (
  .ret))
def l19 : LFun := ⟨0, [none], c19, [.cell 0 9 true], .pure⟩
/-- umpire/umpirelaw22.item -/
def vm20 : List Nat := [0, 1, 2, 3, 4, 10, 11, 12]
def c20 : LCode :=
  .seq (
   .region 1 [⟨0, (some 5), none, .alloc 42 [(.int .i64 0), (.int .i64 0), (.vs true .sh 0 [])], false, []⟩] false) (
  .seq (
   .region 10 [⟨0, none, none, .mv (.var 2) false, false, []⟩,
     ⟨1, none, none, .mv (.var 3) false, false, []⟩,
     ⟨2, none, none, .mv (.var 4) false, false, []⟩,
     ⟨3, none, none, .build [(.int .i64 0), (.int .i64 0), (.vs true .sh 0 [])] [(0, 1, (.loc 0)), (1, 1, (.loc 1)), (2, 1, (.loc 2))], false, []⟩,
     ⟨4, none, none, .callp 34 [(.loc 3)], false, []⟩,
     ⟨5, none, none, .mv (.loc 4) false, false, []⟩,
     ⟨6, none, none, .extract (.loc 5) 0, false, []⟩,
     ⟨7, none, none, .extract (.loc 5) 1, false, []⟩,
     ⟨8, (some 6), none, .asg (.loc 6), false, []⟩,
     ⟨9, (some 7), none, .asg (.loc 7), false, []⟩] false) (
  .seq (
   .region 5 [⟨0, none, none, .mv (.var 0) false, false, []⟩,
     ⟨1, none, none, .mv (.var 1) false, false, []⟩,
     ⟨2, none, none, .mv (.var 6) false, false, []⟩,
     ⟨3, none, none, .build [(.int .i64 0), (.int .i64 0), (.vs true .sh 0 [])] [(0, 1, (.loc 0)), (1, 1, (.loc 1)), (2, 1, (.loc 2))], false, []⟩,
     ⟨4, (some 8), none, .store 3 (.var 5) (.loc 3), false, []⟩] false) (
  .ret)))
def l20 : LFun := ⟨5, [(some 0), (some 1), (some 2), (some 3), (some 4), none, none, none], c20, [.cell 5 3 true], .pure⟩
/-- umpire/spec.Fired -/
def vm21 : List Nat := [0, 1, 2, 3, 4, 5, 6, 7, 8, 16]
def c21 : LCode :=
  .seq (
   .region 4 [⟨0, (some 3), none, .box 24 (.var 0), false, []⟩,
     ⟨1, (some 4), none, .box 34 (.var 1), false, []⟩,
     ⟨2, (some 5), none, .box 44 (.var 2), false, []⟩,
     ⟨3, (some 6), none, .asg (.const (.vs true .sh 0 [])), false, []⟩] false) (
  .seq (
   .seq (
    .region 9 [⟨0, none, none, .load true 9 (.var 3) false, false, []⟩,
      ⟨1, none, none, .load true 31 (.var 4) false, false, []⟩,
      ⟨2, none, none, .load true 6 (.var 5) false, false, []⟩,
      ⟨3, none, none, .call 28 [(.loc 0), (.loc 1), (.loc 2)], false, []⟩,
      ⟨4, none, none, .mv (.loc 3) false, false, []⟩,
      ⟨5, none, none, .extract (.loc 4) 0, false, []⟩,
      ⟨6, none, none, .extract (.loc 4) 1, false, []⟩,
      ⟨7, (some 7), none, .asg (.loc 5), false, []⟩,
      ⟨8, (some 8), none, .asg (.loc 6), false, []⟩] false) (
   .seq (
    .region 1 [⟨0, (some 9), none, .mv (.var 8) false, false, []⟩] false) (
   .cond (.var 9) (
    .seq (
     .region 5 [⟨0, none, none, .mv (.var 7) true, false, []⟩,
       ⟨1, none, none, .nilCheck (.loc 0), false, []⟩,
       ⟨2, none, none, .fieldAddr 40 1 false (.loc 1), false, []⟩,
       ⟨3, none, none, .load false 1 (.loc 2) false, false, []⟩,
       ⟨4, (some 6), none, .asg (.loc 3), false, []⟩] false) (
    .ret)) (
    .skip)))) (
  .seq (
   .region 1 [⟨0, (some 6), none, .asg (.const (.vs true .sh 0 [])), false, []⟩] false) (
  .ret)))
def l21 : LFun := ⟨3, [(some 0), (some 1), (some 2), none, none, none, none, none, none, none], c21, [.var 6], .pure⟩
/-- umpire/spec.Seen -/
def vm22 : List Nat := [0, 1, 2, 3, 9, 10, 15]
def c22 : LCode :=
  .seq (
   .region 2 [⟨0, (some 1), none, .box 42 (.var 0), false, []⟩,
     ⟨1, (some 2), none, .asg (.const (.vs true .sh 0 [])), false, []⟩] false) (
  .seq (
   .region 5 [⟨0, none, none, .fieldAddr 2 1 false (.var 1), false, []⟩,
     ⟨1, none, none, .load false 1 (.loc 0) false, false, []⟩,
     ⟨2, none, none, .callp 35 [(.loc 1)], false, []⟩,
     ⟨3, none, none, .fieldAddr 2 1 false (.var 1), false, []⟩,
     ⟨4, (some 7), none, .store 1 (.loc 3) (.loc 2), false, []⟩] false) (
  .seq (
   .seq (
    .region 2 [⟨0, none, none, .fieldAddr 0 1 false (.var 1), false, []⟩,
      ⟨1, (some 4), none, .load false 1 (.loc 0) false, false, []⟩] false) (
   .block 0 (
    .seq (
     .region 2 [⟨0, none, none, .bin .eql (.var 4) (.const (.int .i64 2)), false, []⟩,
       ⟨1, (some 5), none, .asg (.loc 0), false, []⟩] false) (
    .cond (.var 5) (
     .seq (
      .region 4 [⟨0, none, none, .load true 3 (.var 1) false, false, []⟩,
        ⟨1, none, none, .build [(.int .i64 0), (.int .i64 0), (.int .i64 0), (.int .i64 0), (.vs true .sh 0 []), (.bool false)] [(0, 1, (.const (.int .i64 2))), (2, 3, (.loc 0))], false, []⟩,
        ⟨2, none, none, .mkslice (.agg [(.int .i64 0), (.int .i64 0), (.int .i64 0), (.int .i64 0), (.vs true .sh 0 []), (.bool false)]) 6 1 [(0, (.loc 1))], false, []⟩,
        ⟨3, (some 2), none, .asg (.loc 2), false, []⟩] false) (
     .ret)) (
     .seq (
      .region 2 [⟨0, none, none, .bin .eql (.var 4) (.const (.int .i64 1)), false, []⟩,
        ⟨1, (some 6), none, .asg (.loc 0), false, []⟩] false) (
     .cond (.var 6) (
      .seq (
       .region 3 [⟨0, none, none, .load true 3 (.var 1) false, false, []⟩,
         ⟨1, (some 3), none, .alloc 42 [(.int .i64 0), (.int .i64 0), (.vs true .sh 0 [])], false, []⟩,
         ⟨2, (some 7), none, .store 3 (.var 3) (.loc 0), false, []⟩] false) (
      .seq (
       .region 5 [⟨0, none, none, .fieldAddr 2 1 false (.var 1), false, []⟩,
         ⟨1, none, none, .load false 1 (.loc 0) false, false, []⟩,
         ⟨2, none, none, .callp 35 [(.loc 1)], false, []⟩,
         ⟨3, none, none, .fieldAddr 2 1 false (.var 3), false, []⟩,
         ⟨4, (some 7), none, .store 1 (.loc 3) (.loc 2), false, []⟩] false) (
      .seq (
       .region 6 [⟨0, none, none, .load true 3 (.var 1) false, false, []⟩,
         ⟨1, none, none, .build [(.int .i64 0), (.int .i64 0), (.int .i64 0), (.int .i64 0), (.vs true .sh 0 []), (.bool false)] [(0, 1, (.const (.int .i64 1))), (2, 3, (.loc 0))], false, []⟩,
         ⟨2, none, none, .load true 3 (.var 3) false, false, []⟩,
         ⟨3, none, none, .build [(.int .i64 0), (.int .i64 0), (.int .i64 0), (.int .i64 0), (.vs true .sh 0 []), (.bool false)] [(0, 1, (.const (.int .i64 1))), (2, 3, (.loc 2)), (5, 1, (.const (.bool true)))], false, []⟩,
         ⟨4, none, none, .mkslice (.agg [(.int .i64 0), (.int .i64 0), (.int .i64 0), (.int .i64 0), (.vs true .sh 0 []), (.bool false)]) 6 2 [(0, (.loc 1)), (1, (.loc 3))], false, []⟩,
         ⟨5, (some 2), none, .asg (.loc 4), false, []⟩] false) (
      .ret)))) (
      .skip))))))) (
  .seq (
   .region 1 [⟨0, (some 2), none, .asg (.const (.vs true .sh 0 [])), false, []⟩] false) (
  .ret))))
def l22 : LFun := ⟨1, [(some 0), none, none, none, none, none, none], c22, [.var 2], .pure⟩
/-- umpire/auto.Counts -/
def vm23 : List Nat := [0, 1, 2]
def r23_0 : LCode :=
  .region 19 [⟨0, none, none, .fieldAddr 0 1 false (.var 1), false, []⟩,
    ⟨1, none, none, .load false 1 (.loc 0) false, false, []⟩,
    ⟨2, none, none, .fieldAddr 1 1 false (.var 1), false, []⟩,
    ⟨3, none, none, .load false 1 (.loc 2) false, false, []⟩,
    ⟨4, none, none, .fieldAddr 2 1 false (.var 1), false, []⟩,
    ⟨5, none, none, .load false 1 (.loc 4) false, false, []⟩,
    ⟨6, none, none, .minmax false (.loc 1) [(.loc 3), (.loc 5)], false, []⟩,
    ⟨7, none, none, .bin .geq (.loc 6) (.const (.int .i64 1)), false, []⟩,
    ⟨8, none, none, .mv (.loc 7) false, false, []⟩,
    ⟨9, none, (some ((.loc 8), true)), .fieldAddr 0 1 false (.var 1), false, []⟩,
    ⟨10, none, (some ((.loc 8), true)), .load false 1 (.loc 9) false, false, []⟩,
    ⟨11, none, (some ((.loc 8), true)), .fieldAddr 1 1 false (.var 1), false, []⟩,
    ⟨12, none, (some ((.loc 8), true)), .load false 1 (.loc 11) false, false, []⟩,
    ⟨13, none, (some ((.loc 8), true)), .fieldAddr 2 1 false (.var 1), false, []⟩,
    ⟨14, none, (some ((.loc 8), true)), .load false 1 (.loc 13) false, false, []⟩,
    ⟨15, none, (some ((.loc 8), true)), .minmax true (.loc 10) [(.loc 12), (.loc 14)], false, []⟩,
    ⟨16, none, (some ((.loc 8), true)), .bin .leq (.loc 15) (.const (.int .i64 255)), false, []⟩,
    ⟨17, none, none, .pick (.loc 8) (.loc 16) (.const (.bool false)), false, []⟩,
    ⟨18, (some 2), none, .asg (.loc 17), false, []⟩] false
def c23 : LCode :=
  .seq (
   .region 2 [⟨0, (some 1), none, .box 24 (.var 0), false, []⟩,
     ⟨1, (some 2), none, .asg (.const (.bool false)), false, []⟩] false) (
  .seq (
   r23_0) (
  .ret))
def l23 : LFun := ⟨1, [(some 0), none, none], c23, [.var 2], .pure⟩
/-- umpire/umpireref20.Counts -/
def vm24 : List Nat := [0, 1, 2]
def c24 : LCode :=
  .seq (
   .region 2 [⟨0, (some 1), none, .box 24 (.var 0), false, []⟩,
     ⟨1, (some 2), none, .asg (.const (.bool false)), false, []⟩] false) (
  .seq (
   .region 14 [⟨0, none, none, .fieldAddr 0 1 false (.var 1), false, []⟩,
     ⟨1, none, none, .load false 1 (.loc 0) false, false, []⟩,
     ⟨2, none, none, .callp 36 [(.loc 1)], false, []⟩,
     ⟨3, none, none, .mv (.loc 2) false, false, []⟩,
     ⟨4, none, (some ((.loc 3), true)), .fieldAddr 1 1 false (.var 1), false, []⟩,
     ⟨5, none, (some ((.loc 3), true)), .load false 1 (.loc 4) false, false, []⟩,
     ⟨6, none, (some ((.loc 3), true)), .callp 36 [(.loc 5)], false, []⟩,
     ⟨7, none, none, .pick (.loc 3) (.loc 6) (.const (.bool false)), false, []⟩,
     ⟨8, none, none, .mv (.loc 7) false, false, []⟩,
     ⟨9, none, (some ((.loc 8), true)), .fieldAddr 2 1 false (.var 1), false, []⟩,
     ⟨10, none, (some ((.loc 8), true)), .load false 1 (.loc 9) false, false, []⟩,
     ⟨11, none, (some ((.loc 8), true)), .callp 36 [(.loc 10)], false, []⟩,
     ⟨12, none, none, .pick (.loc 8) (.loc 11) (.const (.bool false)), false, []⟩,
     ⟨13, (some 2), none, .asg (.loc 12), false, []⟩] false) (
  .ret))
def l24 : LFun := ⟨1, [(some 0), none, none], c24, [.var 2], .pure⟩
/-- slices.Equal[[]umpire/api.Due,umpire/api.Due] -/
def vm25 : List Nat := [0, 1, 4, 5, 10, 12, 13, 14, 24]
def b25_0 : LCode :=
  .fence [2, 3, 4, 7, 8] (
   .seq (
    .region 1 [⟨0, (some 7), none, .bin .lss (.var 6) (.var 5), false, []⟩] false) (
   .seq (
    .cond (.var 7) (
     .skip) (
     .exit 0)) (
   .seq (
    .block 1 (
     .seq (
      .region 2 [⟨0, none, none, .mv (.var 6) false, false, []⟩,
        ⟨1, (some 3), none, .asg (.loc 0), false, []⟩] false) (
     .seq (
      .region 9 [⟨0, none, none, .mv (.var 0) false, false, []⟩,
        ⟨1, none, none, .mv (.var 3) false, false, []⟩,
        ⟨2, none, none, .idxAddrVs 4 (.loc 0) (.loc 1), false, []⟩,
        ⟨3, none, none, .load true 4 (.loc 2) false, false, []⟩,
        ⟨4, none, none, .mv (.var 1) false, false, []⟩,
        ⟨5, none, none, .mv (.var 3) false, false, []⟩,
        ⟨6, none, none, .idxAddrVs 4 (.loc 4) (.loc 5), false, []⟩,
        ⟨7, none, none, .load true 4 (.loc 6) false, false, []⟩,
        ⟨8, (some 8), none, .eqAgg true [(.i .i64), (.i .i64), (.i .i64), .s] (.loc 3) (.loc 7), false, []⟩] true) (
     .cond (.var 8) (
      .seq (
       .region 1 [⟨0, (some 2), none, .asg (.const (.bool false)), false, []⟩] false) (
      .ret)) (
      .skip))))) (
   .region 2 [⟨0, none, none, .bin .add (.var 6) (.const (.int .i64 1)), false, []⟩,
     ⟨1, (some 6), none, .mv (.loc 0) false, false, []⟩] false))))
def c25 : LCode :=
  .seq (
   .region 1 [⟨0, (some 2), none, .asg (.const (.bool false)), false, []⟩] false) (
  .seq (
   .seq (
    .region 5 [⟨0, none, none, .mv (.var 0) true, false, []⟩,
      ⟨1, none, none, .len 1 (.loc 0), false, []⟩,
      ⟨2, none, none, .mv (.var 1) true, false, []⟩,
      ⟨3, none, none, .len 1 (.loc 2), false, []⟩,
      ⟨4, (some 4), none, .bin .neq (.loc 1) (.loc 3), false, []⟩] false) (
   .cond (.var 4) (
    .seq (
     .region 1 [⟨0, (some 2), none, .asg (.const (.bool false)), false, []⟩] false) (
    .ret)) (
    .skip))) (
  .seq (
   .seq (
    .region 3 [⟨0, none, none, .mv (.var 0) true, false, []⟩,
      ⟨1, (some 5), none, .len 1 (.loc 0), false, []⟩,
      ⟨2, (some 6), none, .mv (.const (.int .i64 0)) false, false, []⟩] false) (
   .fence [0, 1, 2, 3, 4, 5, 6, 7, 8] (
    .block 0 (
     .loop b25_0)))) (
  .seq (
   .region 1 [⟨0, (some 2), none, .asg (.const (.bool true)), false, []⟩] false) (
  .ret))))
def l25 : LFun := ⟨2, [(some 0), (some 1), none, none, none, none, none, none, none], c25, [.var 2], .pure⟩
/-- umpire/umpireref21.Same -/
def vm26 : List Nat := [0, 1, 4, 5, 10, 14, 25]
def b26_0 : LCode :=
  .fence [2, 4, 5, 6] (
   .seq (
    .seq (
     .region 4 [⟨0, none, none, .mv (.var 3) true, false, []⟩,
       ⟨1, none, none, .mv (.var 0) true, false, []⟩,
       ⟨2, none, none, .len 1 (.loc 1), false, []⟩,
       ⟨3, (some 5), none, .bin .lss (.loc 0) (.loc 2), false, []⟩] false) (
    .cond (.var 5) (
     .skip) (
     .exit 0))) (
   .seq (
    .block 1 (
     .seq (
      .region 9 [⟨0, none, none, .mv (.var 0) false, false, []⟩,
        ⟨1, none, none, .mv (.var 3) false, false, []⟩,
        ⟨2, none, none, .idxAddrVs 4 (.loc 0) (.loc 1), false, []⟩,
        ⟨3, none, none, .load true 4 (.loc 2) false, false, []⟩,
        ⟨4, none, none, .mv (.var 1) false, false, []⟩,
        ⟨5, none, none, .mv (.var 3) false, false, []⟩,
        ⟨6, none, none, .idxAddrVs 4 (.loc 4) (.loc 5), false, []⟩,
        ⟨7, none, none, .load true 4 (.loc 6) false, false, []⟩,
        ⟨8, (some 6), none, .eqAgg true [(.i .i64), (.i .i64), (.i .i64), .s] (.loc 3) (.loc 7), false, []⟩] true) (
     .cond (.var 6) (
      .seq (
       .region 1 [⟨0, (some 2), none, .asg (.const (.bool false)), false, []⟩] false) (
      .ret)) (
      .skip)))) (
   .region 3 [⟨0, none, none, .mv (.var 3) true, false, []⟩,
     ⟨1, none, none, .bin .add (.loc 0) (.const (.int .i64 1)), false, []⟩,
     ⟨2, (some 3), none, .asg (.loc 1), false, []⟩] false)))
def c26 : LCode :=
  .seq (
   .region 1 [⟨0, (some 2), none, .asg (.const (.bool false)), false, []⟩] false) (
  .seq (
   .seq (
    .region 5 [⟨0, none, none, .mv (.var 0) true, false, []⟩,
      ⟨1, none, none, .len 1 (.loc 0), false, []⟩,
      ⟨2, none, none, .mv (.var 1) true, false, []⟩,
      ⟨3, none, none, .len 1 (.loc 2), false, []⟩,
      ⟨4, (some 4), none, .bin .neq (.loc 1) (.loc 3), false, []⟩] false) (
   .cond (.var 4) (
    .seq (
     .region 1 [⟨0, (some 2), none, .asg (.const (.bool false)), false, []⟩] false) (
    .ret)) (
    .skip))) (
  .seq (
   .seq (
    .region 1 [⟨0, (some 3), none, .asg (.const (.int .i64 0)), false, []⟩] false) (
   .fence [0, 1, 2, 3, 4, 5, 6] (
    .block 0 (
     .loop b26_0)))) (
  .seq (
   .region 1 [⟨0, (some 2), none, .asg (.const (.bool true)), false, []⟩] false) (
  .ret))))
def l26 : LFun := ⟨2, [(some 0), (some 1), none, none, none, none, none], c26, [.var 2], .pure⟩
/-- umpire/umpireref22.Few -/
def vm27 : List Nat := [0, 2, 3, 11, 21]
def b27_0 : LCode :=
  .fence [1, 3, 4] (
   .seq (
    .seq (
     .region 8 [⟨0, none, none, .mv (.var 2) true, false, []⟩,
       ⟨1, none, none, .mv (.var 0) true, false, []⟩,
       ⟨2, none, none, .len 1 (.loc 1), false, []⟩,
       ⟨3, none, none, .bin .lss (.loc 0) (.loc 2), false, []⟩,
       ⟨4, none, none, .mv (.loc 3) false, false, []⟩,
       ⟨5, none, (some ((.loc 4), true)), .mv (.var 2) true, false, []⟩,
       ⟨6, none, (some ((.loc 4), true)), .bin .lss (.loc 5) (.const (.int .i64 100)), false, []⟩,
       ⟨7, (some 3), none, .pick (.loc 4) (.loc 6) (.const (.bool false)), false, []⟩] false) (
    .cond (.var 3) (
     .skip) (
     .exit 0))) (
   .seq (
    .block 1 (
     .seq (
      .region 8 [⟨0, none, none, .mv (.var 0) false, false, []⟩,
        ⟨1, none, none, .mv (.var 2) false, false, []⟩,
        ⟨2, none, none, .idxAddrVs 6 (.loc 0) (.loc 1), false, []⟩,
        ⟨3, none, none, .fieldAddr 2 3 true (.loc 2), false, []⟩,
        ⟨4, none, none, .fieldAddr 2 1 false (.loc 3), false, []⟩,
        ⟨5, none, none, .load false 1 (.loc 4) true, false, []⟩,
        ⟨6, none, none, .len 1 (.loc 5), false, []⟩,
        ⟨7, (some 4), none, .bin .gtr (.loc 6) (.const (.int .i64 1000)), false, []⟩] false) (
     .cond (.var 4) (
      .seq (
       .region 1 [⟨0, (some 1), none, .asg (.const (.bool false)), false, []⟩] false) (
      .ret)) (
      .skip)))) (
   .region 3 [⟨0, none, none, .mv (.var 2) true, false, []⟩,
     ⟨1, none, none, .bin .add (.loc 0) (.const (.int .i64 1)), false, []⟩,
     ⟨2, (some 2), none, .asg (.loc 1), false, []⟩] false)))
def c27 : LCode :=
  .seq (
   .region 1 [⟨0, (some 1), none, .asg (.const (.bool false)), false, []⟩] false) (
  .seq (
   .seq (
    .region 1 [⟨0, (some 2), none, .asg (.const (.int .i64 0)), false, []⟩] false) (
   .fence [1, 2, 3, 4] (
    .block 0 (
     .loop b27_0)))) (
  .seq (
   .region 4 [⟨0, none, none, .mv (.var 0) true, false, []⟩,
     ⟨1, none, none, .len 1 (.loc 0), false, []⟩,
     ⟨2, none, none, .bin .leq (.loc 1) (.const (.int .i64 80)), false, []⟩,
     ⟨3, (some 1), none, .asg (.loc 2), false, []⟩] false) (
  .ret)))
def l27 : LFun := ⟨1, [(some 0), none, none, none, none], c27, [.var 1], .pure⟩
/-- umpire/spec.run -/
def vm28 : List Nat := [0, 1, 2, 3, 4, 5, 6, 7, 8]
def c28 : LCode :=
  .seq (
   .region 5 [⟨0, (some 3), none, .box 24 (.var 0), false, []⟩,
     ⟨1, (some 4), none, .box 34 (.var 1), false, []⟩,
     ⟨2, (some 5), none, .box 44 (.var 2), false, []⟩,
     ⟨3, (some 6), none, .asg (.const .nilptr), false, []⟩,
     ⟨4, (some 7), none, .asg (.const (.bool false)), false, []⟩] false) (
  .seq (
   .region 5 [⟨0, none, none, .load true 9 (.var 3) false, false, []⟩,
     ⟨1, none, none, .load true 31 (.var 4) false, false, []⟩,
     ⟨2, none, none, .build [(.int .i64 0), (.int .i64 0), (.int .i64 0), (.int .i64 0), (.str []), (.str []), (.int .i64 0), (.int .u32 0), (.bool false), (.int .i64 0), (.int .i64 0), (.int .i64 0), (.bool false), (.bool false), (.int .i64 0), (.str []), (.int .i64 0), (.int .i64 0), (.int .i64 0), (.bool false), (.bool false), (.int .i64 0), (.str []), (.int .i64 0), (.int .i64 0), (.int .i64 0), (.bool false), (.bool false), (.int .i64 0), (.str []), (.int .i64 0), (.int .i64 0), (.bool false), (.bool false), (.bool false), (.int .i64 0), (.str []), (.bool false), (.int .i64 0), (.vs true .sh 0 []), (.vs true .sh 0 [])] [(0, 9, (.loc 0)), (9, 31, (.loc 1))], false, []⟩,
     ⟨3, none, none, .box 73 (.loc 2), false, []⟩,
     ⟨4, (some 8), none, .asg (.loc 3), false, []⟩] false) (
  .seq (
   .region 8 [⟨0, none, none, .mv (.var 8) true, false, []⟩,
     ⟨1, none, none, .fieldAddr 30 1 false (.var 4), false, []⟩,
     ⟨2, none, none, .load false 1 (.loc 1) false, false, []⟩,
     ⟨3, none, none, .callp 37 [(.loc 2)], false, []⟩,
     ⟨4, none, none, .nilCheck (.loc 0), false, []⟩,
     ⟨5, none, none, .fieldAddr 9 31 true (.loc 4), false, []⟩,
     ⟨6, none, none, .fieldAddr 30 1 false (.loc 5), false, []⟩,
     ⟨7, (some 9), none, .store 1 (.loc 6) (.loc 3), false, []⟩] false) (
  .seq (
   .region 7 [⟨0, none, none, .mv (.var 8) false, false, []⟩,
     ⟨1, none, none, .mv (.var 8) false, false, []⟩,
     ⟨2, none, none, .load true 6 (.var 5) false, false, []⟩,
     ⟨3, none, none, .call 39 [(.loc 2)], false, []⟩,
     ⟨4, none, none, .call 38 [(.loc 1), (.loc 3)], false, []⟩,
     ⟨5, (some 6), none, .asg (.loc 0), false, []⟩,
     ⟨6, (some 7), none, .asg (.loc 4), false, []⟩] false) (
  .ret))))
def l28 : LFun := ⟨3, [(some 0), (some 1), (some 2), none, none, none, none, none, none], c28, [.var 6, .var 7], .keep⟩
/-- umpire/spec.protos -/
def vm29 : List Nat := [0]
def c29 : LCode :=
  .seq (
   .region 1 [⟨0, (some 0), none, .alloc 54 [(.int .i64 0), (.int .i64 0), (.int .i64 0)], false, []⟩] false) (
  .seq (
   .region 2 [⟨0, none, none, .build [(.int .i64 0), (.int .i64 0), (.int .i64 0)] [(0, 1, (.const (.int .i64 49185))), (1, 1, (.const (.int .i64 32801))), (2, 1, (.const (.int .i64 32855)))], false, []⟩,
     ⟨1, (some 1), none, .store 3 (.var 0) (.loc 0), false, []⟩] false) (
  .ret))
def l29 : LFun := ⟨0, [none], c29, [.cell 0 3 true], .pure⟩
/-- umpire/spec.Hidden$1 -/
def vm31 : List Nat := [0, 1, 2, 3, 4, 5, 6]
def c31 : LCode :=
  .seq (
   .region 2 [⟨0, (some 3), none, .box 44 (.var 0), false, []⟩,
     ⟨1, (some 4), none, .asg (.const (.bool false)), false, []⟩] false) (
  .seq (
   .region 9 [⟨0, none, none, .load true 9 (.var 1) false, false, []⟩,
     ⟨1, none, none, .load true 31 (.var 2) false, false, []⟩,
     ⟨2, none, none, .load true 6 (.var 3) false, false, []⟩,
     ⟨3, none, none, .call 28 [(.loc 0), (.loc 1), (.loc 2)], false, []⟩,
     ⟨4, none, none, .mv (.loc 3) false, false, []⟩,
     ⟨5, none, none, .extract (.loc 4) 0, false, []⟩,
     ⟨6, none, none, .extract (.loc 4) 1, false, []⟩,
     ⟨7, (some 5), none, .asg (.loc 5), false, []⟩,
     ⟨8, (some 6), none, .asg (.loc 6), false, []⟩] false) (
  .seq (
   .region 3 [⟨0, none, none, .mv (.var 6) true, false, []⟩,
     ⟨1, none, none, .un .not (.loc 0), false, []⟩,
     ⟨2, (some 4), none, .asg (.loc 1), false, []⟩] false) (
  .ret)))
def l31 : LFun := ⟨3, [(some 0), (some 1), (some 2), none, none, none, none], c31, [.var 4], .trim⟩
/-- slices.DeleteFunc[[]umpire/api.Label,umpire/api.Label] -/
def vm30 : List Nat := [0, 1, 4, 5, 6, 7, 12, 19, 29]
def b30_0 : LCode :=
  .fence [2, 5, 6, 7, 8] (
   .seq (
    .seq (
     .region 4 [⟨0, none, none, .mv (.var 4) true, false, []⟩,
       ⟨1, none, none, .mv (.var 0) true, false, []⟩,
       ⟨2, none, none, .len 1 (.loc 1), false, []⟩,
       ⟨3, (some 7), none, .bin .lss (.loc 0) (.loc 2), false, []⟩] false) (
    .cond (.var 7) (
     .skip) (
     .exit 0))) (
   .seq (
    .block 1 (
     .seq (
      .region 6 [⟨0, none, none, .mv (.var 0) false, false, []⟩,
        ⟨1, none, none, .mv (.var 4) false, false, []⟩,
        ⟨2, none, none, .idxAddrVs 6 (.loc 0) (.loc 1), false, []⟩,
        ⟨3, none, none, .load true 6 (.loc 2) false, false, []⟩,
        ⟨4, (some 5), none, .alloc 44 [(.int .i64 0), (.int .i64 0), (.int .i64 0), (.int .i64 0), (.vs true .sh 0 []), (.bool false)], false, []⟩,
        ⟨5, (some 9), none, .store 6 (.var 5) (.loc 3), false, []⟩] false) (
     .seq (
      .region 4 [⟨0, none, none, .mv (.var 1) false, false, []⟩,
        ⟨1, none, none, .load true 6 (.var 5) false, false, []⟩,
        ⟨2, none, none, .callv (.loc 0) [(.loc 1)], false, []⟩,
        ⟨3, (some 8), none, .un .not (.loc 2), false, []⟩] false) (
     .cond (.var 8) (
      .seq (
       .region 5 [⟨0, none, none, .mv (.var 0) false, false, []⟩,
         ⟨1, none, none, .mv (.var 3) false, false, []⟩,
         ⟨2, none, none, .load true 6 (.var 5) false, false, []⟩,
         ⟨3, none, none, .idxAddrVs 6 (.loc 0) (.loc 1), false, []⟩,
         ⟨4, (some 9), none, .store 6 (.loc 3) (.loc 2), false, []⟩] false) (
      .region 3 [⟨0, none, none, .mv (.var 3) true, false, []⟩,
        ⟨1, none, none, .bin .add (.loc 0) (.const (.int .i64 1)), false, []⟩,
        ⟨2, (some 3), none, .asg (.loc 1), false, []⟩] false)) (
      .skip))))) (
   .region 3 [⟨0, none, none, .mv (.var 4) true, false, []⟩,
     ⟨1, none, none, .bin .add (.loc 0) (.const (.int .i64 1)), false, []⟩,
     ⟨2, (some 4), none, .asg (.loc 1), false, []⟩] false)))
def c30 : LCode :=
  .seq (
   .region 1 [⟨0, (some 2), none, .asg (.const (.vs true .sh 0 [])), false, []⟩] false) (
  .seq (
   .region 4 [⟨0, none, none, .mv (.var 0) false, false, []⟩,
     ⟨1, none, none, .mv (.var 1) false, false, []⟩,
     ⟨2, none, none, .call 40 [(.loc 0), (.loc 1)], false, []⟩,
     ⟨3, (some 3), none, .asg (.loc 2), false, []⟩] false) (
  .seq (
   .seq (
    .region 2 [⟨0, none, none, .mv (.var 3) true, false, []⟩,
      ⟨1, (some 6), none, .bin .eql (.loc 0) (.const (.int .i64 (-1))), false, []⟩] false) (
   .cond (.var 6) (
    .seq (
     .region 2 [⟨0, none, none, .mv (.var 0) false, false, []⟩,
       ⟨1, (some 2), none, .asg (.loc 0), false, []⟩] false) (
    .ret)) (
    .skip))) (
  .seq (
   .seq (
    .region 3 [⟨0, none, none, .mv (.var 3) true, false, []⟩,
      ⟨1, none, none, .bin .add (.loc 0) (.const (.int .i64 1)), false, []⟩,
      ⟨2, (some 4), none, .asg (.loc 1), false, []⟩] false) (
   .fence [1, 2, 4, 5, 6, 7, 8] (
    .block 0 (
     .loop b30_0)))) (
  .seq (
   .region 4 [⟨0, none, none, .mv (.var 0) false, false, []⟩,
     ⟨1, none, none, .mv (.var 3) false, false, []⟩,
     ⟨2, none, none, .sliceVs 6 (.loc 0) (some (.loc 1)) none none, false, []⟩,
     ⟨3, (some 9), none, .clear [(.int .i64 0), (.int .i64 0), (.int .i64 0), (.int .i64 0), (.vs true .sh 0 []), (.bool false)] (.loc 2), false, []⟩] false) (
  .seq (
   .region 4 [⟨0, none, none, .mv (.var 0) false, false, []⟩,
     ⟨1, none, none, .mv (.var 3) false, false, []⟩,
     ⟨2, none, none, .sliceVs 6 (.loc 0) none (some (.loc 1)) none, false, []⟩,
     ⟨3, (some 2), none, .asg (.loc 2), false, []⟩] false) (
  .ret))))))
def l30 : LFun := ⟨2, [(some 0), (some 1), none, none, none, none, none, none, none], c30, [.var 2], .trim⟩
/-- umpire/auth.Done -/
def vm32 : List Nat := [0, 1, 2]
def r32_0 : LCode :=
  .region 17 [⟨0, none, none, .fieldAddr 0 1 false (.var 1), false, []⟩,
    ⟨1, none, none, .load false 1 (.loc 0) true, false, []⟩,
    ⟨2, none, none, .bin .eql (.loc 1) (.const (.int .i64 0)), false, []⟩,
    ⟨3, none, none, .mv (.loc 2) false, false, []⟩,
    ⟨4, none, (some ((.loc 3), false)), .fieldAddr 2 1 false (.var 1), false, []⟩,
    ⟨5, none, (some ((.loc 3), false)), .load false 1 (.loc 4) false, false, []⟩,
    ⟨6, none, none, .pick (.loc 3) (.const (.bool true)) (.loc 5), false, []⟩,
    ⟨7, none, none, .mv (.loc 6) false, false, []⟩,
    ⟨8, none, (some ((.loc 7), true)), .fieldAddr 1 1 false (.var 1), false, []⟩,
    ⟨9, none, (some ((.loc 7), true)), .load false 1 (.loc 8) true, false, []⟩,
    ⟨10, none, (some ((.loc 7), true)), .bin .eql (.loc 9) (.const (.int .i64 0)), false, []⟩,
    ⟨11, none, (some ((.loc 7), true)), .mv (.loc 10) false, false, []⟩,
    ⟨12, none, (some ((.loc 11), false)), .fieldAddr 3 1 false (.var 1), false, []⟩,
    ⟨13, none, (some ((.loc 11), false)), .load false 1 (.loc 12) false, false, []⟩,
    ⟨14, none, (some ((.loc 7), true)), .pick (.loc 11) (.const (.bool true)) (.loc 13), false, []⟩,
    ⟨15, none, none, .pick (.loc 7) (.loc 14) (.const (.bool false)), false, []⟩,
    ⟨16, (some 2), none, .asg (.loc 15), false, []⟩] false
def c32 : LCode :=
  .seq (
   .region 2 [⟨0, (some 1), none, .box 31 (.var 0), false, []⟩,
     ⟨1, (some 2), none, .asg (.const (.bool false)), false, []⟩] false) (
  .seq (
   r32_0) (
  .ret))
def l32 : LFun := ⟨1, [(some 0), none, none], c32, [.var 2], .pure⟩
/-- umpire/umpireref22.Proto -/
def vm33 : List Nat := [0, 2]
def c33 : LCode :=
  .seq (
   .region 1 [⟨0, (some 1), none, .asg (.const (.int .i64 0)), false, []⟩] false) (
  .seq (
   .region 5 [⟨0, none, none, .mkslice (.int .i64 0) 1 3 [(0, (.const (.int .i64 49185))), (1, (.const (.int .i64 32801))), (2, (.const (.int .i64 32855)))], false, []⟩,
     ⟨1, none, none, .mv (.var 0) false, false, []⟩,
     ⟨2, none, none, .idxAddrVs 1 (.loc 0) (.loc 1), false, []⟩,
     ⟨3, none, none, .load false 1 (.loc 2) false, false, []⟩,
     ⟨4, (some 1), none, .asg (.loc 3), false, []⟩] false) (
  .ret))
def l33 : LFun := ⟨1, [(some 0), none], c33, [.var 1], .pure⟩
/-- umpire/umpireref13.Put -/
def vm34 : List Nat := [0, 1, 2, 3, 4, 5, 23, 27]
def r34_0 : LCode :=
  .region 18 [⟨0, none, none, .fieldAddr 0 1 false (.var 1), false, []⟩,
    ⟨1, none, none, .load false 1 (.loc 0) true, false, []⟩,
    ⟨2, none, none, .bin .lss (.loc 1) (.const (.int .i64 0)), false, []⟩,
    ⟨3, none, none, .mv (.loc 2) false, false, []⟩,
    ⟨4, none, (some ((.loc 3), false)), .fieldAddr 0 1 false (.var 1), false, []⟩,
    ⟨5, none, (some ((.loc 3), false)), .load false 1 (.loc 4) true, false, []⟩,
    ⟨6, none, (some ((.loc 3), false)), .bin .gtr (.loc 5) (.const (.int .i64 255)), false, []⟩,
    ⟨7, none, none, .pick (.loc 3) (.const (.bool true)) (.loc 6), false, []⟩,
    ⟨8, none, none, .mv (.loc 7) false, false, []⟩,
    ⟨9, none, (some ((.loc 8), false)), .fieldAddr 1 1 false (.var 1), false, []⟩,
    ⟨10, none, (some ((.loc 8), false)), .load false 1 (.loc 9) true, false, []⟩,
    ⟨11, none, (some ((.loc 8), false)), .bin .lss (.loc 10) (.const (.int .i64 0)), false, []⟩,
    ⟨12, none, none, .pick (.loc 8) (.const (.bool true)) (.loc 11), false, []⟩,
    ⟨13, none, none, .mv (.loc 12) false, false, []⟩,
    ⟨14, none, (some ((.loc 13), false)), .fieldAddr 1 1 false (.var 1), false, []⟩,
    ⟨15, none, (some ((.loc 13), false)), .load false 1 (.loc 14) true, false, []⟩,
    ⟨16, none, (some ((.loc 13), false)), .bin .gtr (.loc 15) (.const (.int .i64 255)), false, []⟩,
    ⟨17, (some 6), none, .pick (.loc 13) (.const (.bool true)) (.loc 16), false, []⟩] false
def c34 : LCode :=
  .seq (
   .region 3 [⟨0, (some 1), none, .box 57 (.var 0), false, []⟩,
     ⟨1, (some 2), none, .asg (.const (.vs true .sh 0 [])), false, []⟩,
     ⟨2, (some 3), none, .asg (.const (.int .i64 0)), false, []⟩] false) (
  .seq (
   .seq (
    r34_0) (
   .cond (.var 6) (
    .seq (
     .region 2 [⟨0, (some 2), none, .asg (.const (.vs true .sh 0 [])), false, []⟩,
       ⟨1, (some 3), none, .asg (.const (.int .i64 1)), false, []⟩] false) (
    .ret)) (
    .skip))) (
  .seq (
   .seq (
    .region 4 [⟨0, none, none, .fieldAddr 2 1 false (.var 1), false, []⟩,
      ⟨1, none, none, .load false 1 (.loc 0) true, false, []⟩,
      ⟨2, none, none, .len 1 (.loc 1), false, []⟩,
      ⟨3, (some 7), none, .bin .gtr (.loc 2) (.const (.int .i64 65531)), false, []⟩] false) (
   .cond (.var 7) (
    .seq (
     .region 2 [⟨0, (some 2), none, .asg (.const (.vs true .sh 0 [])), false, []⟩,
       ⟨1, (some 3), none, .asg (.const (.int .i64 4)), false, []⟩] false) (
    .ret)) (
    .skip))) (
  .seq (
   .region 5 [⟨0, none, none, .fieldAddr 2 1 false (.var 1), false, []⟩,
     ⟨1, none, none, .load false 1 (.loc 0) true, false, []⟩,
     ⟨2, none, none, .len 1 (.loc 1), false, []⟩,
     ⟨3, none, none, .bin .add (.const (.int .i64 4)) (.loc 2), false, []⟩,
     ⟨4, (some 4), none, .asg (.loc 3), false, []⟩] false) (
  .seq (
   .region 14 [⟨0, none, none, .fieldAddr 0 1 false (.var 1), false, []⟩,
     ⟨1, none, none, .load false 1 (.loc 0) true, false, []⟩,
     ⟨2, none, none, .cvInt .u8 (.loc 1), false, []⟩,
     ⟨3, none, none, .fieldAddr 1 1 false (.var 1), false, []⟩,
     ⟨4, none, none, .load false 1 (.loc 3) true, false, []⟩,
     ⟨5, none, none, .cvInt .u8 (.loc 4), false, []⟩,
     ⟨6, none, none, .mv (.var 4) true, false, []⟩,
     ⟨7, none, none, .bin .quo (.loc 6) (.const (.int .i64 256)), false, []⟩,
     ⟨8, none, none, .cvInt .u8 (.loc 7), false, []⟩,
     ⟨9, none, none, .mv (.var 4) true, false, []⟩,
     ⟨10, none, none, .bin .rem (.loc 9) (.const (.int .i64 256)), false, []⟩,
     ⟨11, none, none, .cvInt .u8 (.loc 10), false, []⟩,
     ⟨12, none, none, .mkslice (.int .u8 0) 1 4 [(0, (.loc 2)), (1, (.loc 5)), (2, (.loc 8)), (3, (.loc 11))], false, []⟩,
     ⟨13, (some 5), none, .asg (.loc 12), false, []⟩] false) (
  .seq (
   .region 6 [⟨0, none, none, .mv (.var 5) true, false, []⟩,
     ⟨1, none, none, .fieldAddr 2 1 false (.var 1), false, []⟩,
     ⟨2, none, none, .load false 1 (.loc 1) true, false, []⟩,
     ⟨3, none, none, .append 5 1 1 (.loc 0) (.loc 2), false, []⟩,
     ⟨4, (some 2), none, .asg (.loc 3), false, []⟩,
     ⟨5, (some 3), none, .asg (.const (.int .i64 0)), false, []⟩] false) (
  .ret))))))
def l34 : LFun := ⟨1, [(some 0), none, none, none, none, none, none, none], c34, [.var 2, .var 3], .pure⟩
/-- slices.Clone[[]byte,byte] -/
def vm35 : List Nat := [0, 2, 4]
def c35 : LCode :=
  .seq (
   .region 1 [⟨0, (some 1), none, .asg (.const (.vs true .sh 0 [])), false, []⟩] false) (
  .seq (
   .seq (
    .region 2 [⟨0, none, none, .mv (.var 0) true, false, []⟩,
      ⟨1, (some 2), none, .isNil 1 false (.loc 0), false, []⟩] false) (
   .cond (.var 2) (
    .seq (
     .region 1 [⟨0, (some 1), none, .asg (.const (.vs true .sh 0 [])), false, []⟩] false) (
    .ret)) (
    .skip))) (
  .seq (
   .region 4 [⟨0, none, none, .mkslice (.int .u8 0) 1 0 [], false, []⟩,
     ⟨1, none, none, .mv (.var 0) true, false, []⟩,
     ⟨2, none, none, .append 5 1 1 (.loc 0) (.loc 1), false, []⟩,
     ⟨3, (some 1), none, .asg (.loc 2), false, []⟩] false) (
  .ret)))
def l35 : LFun := ⟨1, [(some 0), none, none], c35, [.var 1], .pure⟩
/-- umpire/umpireref20.in -/
def vm36 : List Nat := [0, 2]
def c36 : LCode :=
  .seq (
   .region 1 [⟨0, (some 1), none, .asg (.const (.bool false)), false, []⟩] false) (
  .seq (
   .region 7 [⟨0, none, none, .mv (.var 0) true, false, []⟩,
     ⟨1, none, none, .bin .geq (.loc 0) (.const (.int .i64 1)), false, []⟩,
     ⟨2, none, none, .mv (.loc 1) false, false, []⟩,
     ⟨3, none, (some ((.loc 2), true)), .mv (.var 0) true, false, []⟩,
     ⟨4, none, (some ((.loc 2), true)), .bin .leq (.loc 3) (.const (.int .i64 255)), false, []⟩,
     ⟨5, none, none, .pick (.loc 2) (.loc 4) (.const (.bool false)), false, []⟩,
     ⟨6, (some 1), none, .asg (.loc 5), false, []⟩] false) (
  .ret))
def l36 : LFun := ⟨1, [(some 0), none], c36, [.var 1], .pure⟩
/-- slices.Clone[[]umpire/api.Due,umpire/api.Due] -/
def vm37 : List Nat := [0, 2, 4]
def c37 : LCode :=
  .seq (
   .region 1 [⟨0, (some 1), none, .asg (.const (.vs true .sh 0 [])), false, []⟩] false) (
  .seq (
   .seq (
    .region 2 [⟨0, none, none, .mv (.var 0) true, false, []⟩,
      ⟨1, (some 2), none, .isNil 1 false (.loc 0), false, []⟩] false) (
   .cond (.var 2) (
    .seq (
     .region 1 [⟨0, (some 1), none, .asg (.const (.vs true .sh 0 [])), false, []⟩] false) (
    .ret)) (
    .skip))) (
  .seq (
   .region 4 [⟨0, none, none, .mkslice (.agg [(.int .i64 0), (.int .i64 0), (.int .i64 0), (.str [])]) 4 0 [], false, []⟩,
     ⟨1, none, none, .mv (.var 0) true, false, []⟩,
     ⟨2, none, none, .append 51 4 40 (.loc 0) (.loc 1), false, []⟩,
     ⟨3, (some 1), none, .asg (.loc 2), false, []⟩] false) (
  .ret)))
def l37 : LFun := ⟨1, [(some 0), none, none], c37, [.var 1], .pure⟩
/-- umpire/spec.moveOf -/
def vm39 : List Nat := [0, 1, 2, 3, 7, 11, 30, 51, 59, 67, 80, 93]
def c39 : LCode :=
  .seq (
   .region 2 [⟨0, (some 1), none, .box 44 (.var 0), false, []⟩,
     ⟨1, (some 2), none, .asg (.const .niliface), false, []⟩] false) (
  .seq (
   .region 4 [⟨0, none, none, .fieldAddr 1 1 false (.var 1), false, []⟩,
     ⟨1, none, none, .load false 1 (.loc 0) false, false, []⟩,
     ⟨2, none, none, .callp 44 [(.loc 1)], false, []⟩,
     ⟨3, (some 3), none, .asg (.loc 2), false, []⟩] false) (
  .seq (
   .block 0 (
    .seq (
     .region 4 [⟨0, none, none, .load true 6 (.var 1) false, false, []⟩,
       ⟨1, none, none, .callp 45 [(.loc 0)], false, []⟩,
       ⟨2, none, none, .un .not (.loc 1), false, []⟩,
       ⟨3, (some 4), none, .asg (.loc 2), false, []⟩] false) (
    .cond (.var 4) (
     .skip) (
     .seq (
      .region 15 [⟨0, none, none, .fieldAddr 0 1 false (.var 1), false, []⟩,
        ⟨1, none, none, .load false 1 (.loc 0) true, false, []⟩,
        ⟨2, none, none, .bin .eql (.loc 1) (.const (.int .i64 2)), false, []⟩,
        ⟨3, none, none, .mv (.loc 2) false, false, []⟩,
        ⟨4, none, (some ((.loc 3), true)), .fieldAddr 2 3 true (.var 1), false, []⟩,
        ⟨5, none, (some ((.loc 3), true)), .fieldAddr 0 1 false (.loc 4), false, []⟩,
        ⟨6, none, (some ((.loc 3), true)), .load false 1 (.loc 5) true, false, []⟩,
        ⟨7, none, (some ((.loc 3), true)), .bin .eql (.loc 6) (.const (.int .i64 2)), false, []⟩,
        ⟨8, none, none, .pick (.loc 3) (.loc 7) (.const (.bool false)), false, []⟩,
        ⟨9, none, none, .mv (.loc 8) false, false, []⟩,
        ⟨10, none, (some ((.loc 9), true)), .fieldAddr 2 3 true (.var 1), false, []⟩,
        ⟨11, none, (some ((.loc 9), true)), .load true 3 (.loc 10) false, false, []⟩,
        ⟨12, none, (some ((.loc 9), true)), .callp 46 [(.loc 11)], false, []⟩,
        ⟨13, none, none, .pick (.loc 9) (.loc 12) (.const (.bool false)), false, []⟩,
        ⟨14, (some 5), none, .asg (.loc 13), false, []⟩] false) (
     .cond (.var 5) (
      .seq (
       .region 5 [⟨0, none, none, .fieldAddr 2 3 true (.var 1), false, []⟩,
         ⟨1, none, none, .load true 3 (.loc 0) false, false, []⟩,
         ⟨2, none, none, .build [(.int .i64 0), (.int .i64 0), (.vs true .sh 0 [])] [(0, 3, (.loc 1))], false, []⟩,
         ⟨3, none, none, .mkIface 90 (.loc 2), false, []⟩,
         ⟨4, (some 2), none, .asg (.loc 3), false, []⟩] false) (
      .ret)) (
      .seq (
       .region 15 [⟨0, none, none, .fieldAddr 0 1 false (.var 1), false, []⟩,
         ⟨1, none, none, .load false 1 (.loc 0) true, false, []⟩,
         ⟨2, none, none, .bin .eql (.loc 1) (.const (.int .i64 1)), false, []⟩,
         ⟨3, none, none, .mv (.loc 2) false, false, []⟩,
         ⟨4, none, (some ((.loc 3), true)), .fieldAddr 2 3 true (.var 1), false, []⟩,
         ⟨5, none, (some ((.loc 3), true)), .fieldAddr 0 1 false (.loc 4), false, []⟩,
         ⟨6, none, (some ((.loc 3), true)), .load false 1 (.loc 5) true, false, []⟩,
         ⟨7, none, (some ((.loc 3), true)), .bin .eql (.loc 6) (.const (.int .i64 1)), false, []⟩,
         ⟨8, none, none, .pick (.loc 3) (.loc 7) (.const (.bool false)), false, []⟩,
         ⟨9, none, none, .mv (.loc 8) false, false, []⟩,
         ⟨10, none, (some ((.loc 9), true)), .fieldAddr 2 3 true (.var 1), false, []⟩,
         ⟨11, none, (some ((.loc 9), true)), .load true 3 (.loc 10) false, false, []⟩,
         ⟨12, none, (some ((.loc 9), true)), .callp 46 [(.loc 11)], false, []⟩,
         ⟨13, none, none, .pick (.loc 9) (.loc 12) (.const (.bool false)), false, []⟩,
         ⟨14, (some 6), none, .asg (.loc 13), false, []⟩] false) (
      .cond (.var 6) (
       .seq (
        .region 7 [⟨0, none, none, .fieldAddr 2 3 true (.var 1), false, []⟩,
          ⟨1, none, none, .load true 3 (.loc 0) false, false, []⟩,
          ⟨2, none, none, .fieldAddr 5 1 false (.var 1), false, []⟩,
          ⟨3, none, none, .load false 1 (.loc 2) false, false, []⟩,
          ⟨4, none, none, .build [(.int .i64 0), (.int .i64 0), (.vs true .sh 0 []), (.bool false)] [(0, 3, (.loc 1)), (3, 1, (.loc 3))], false, []⟩,
          ⟨5, none, none, .mkIface 98 (.loc 4), false, []⟩,
          ⟨6, (some 2), none, .asg (.loc 5), false, []⟩] false) (
       .ret)) (
       .seq (
        .region 4 [⟨0, none, none, .fieldAddr 0 1 false (.var 1), false, []⟩,
          ⟨1, none, none, .load false 1 (.loc 0) true, false, []⟩,
          ⟨2, none, none, .bin .eql (.loc 1) (.const (.int .i64 3)), false, []⟩,
          ⟨3, (some 7), none, .asg (.loc 2), false, []⟩] false) (
       .cond (.var 7) (
        .seq (
         .region 5 [⟨0, none, none, .fieldAddr 0 1 false (.var 1), false, []⟩,
           ⟨1, none, none, .load false 1 (.loc 0) false, false, []⟩,
           ⟨2, none, none, .build [(.int .i64 0), (.int .i64 0), (.int .i64 0)] [(0, 1, (.loc 1)), (1, 1, (.const (.int .i64 0))), (2, 1, (.const (.int .i64 1)))], false, []⟩,
           ⟨3, none, none, .mkIface 100 (.loc 2), false, []⟩,
           ⟨4, (some 2), none, .asg (.loc 3), false, []⟩] false) (
        .ret)) (
        .seq (
         .region 4 [⟨0, none, none, .fieldAddr 0 1 false (.var 1), false, []⟩,
           ⟨1, none, none, .load false 1 (.loc 0) true, false, []⟩,
           ⟨2, none, none, .bin .eql (.loc 1) (.const (.int .i64 4)), false, []⟩,
           ⟨3, (some 8), none, .asg (.loc 2), false, []⟩] false) (
        .cond (.var 8) (
         .seq (
          .region 5 [⟨0, none, none, .fieldAddr 0 1 false (.var 1), false, []⟩,
            ⟨1, none, none, .load false 1 (.loc 0) false, false, []⟩,
            ⟨2, none, none, .build [(.int .i64 0), (.int .i64 0), (.int .i64 0)] [(0, 1, (.loc 1)), (1, 1, (.const (.int .i64 0))), (2, 1, (.const (.int .i64 2)))], false, []⟩,
            ⟨3, none, none, .mkIface 100 (.loc 2), false, []⟩,
            ⟨4, (some 2), none, .asg (.loc 3), false, []⟩] false) (
         .ret)) (
         .seq (
          .region 8 [⟨0, none, none, .fieldAddr 0 1 false (.var 1), false, []⟩,
            ⟨1, none, none, .load false 1 (.loc 0) true, false, []⟩,
            ⟨2, none, none, .bin .eql (.loc 1) (.const (.int .i64 5)), false, []⟩,
            ⟨3, none, none, .mv (.loc 2) false, false, []⟩,
            ⟨4, none, (some ((.loc 3), true)), .mv (.var 3) true, false, []⟩,
            ⟨5, none, (some ((.loc 3), true)), .bin .geq (.loc 4) (.const (.int .i64 0)), false, []⟩,
            ⟨6, none, none, .pick (.loc 3) (.loc 5) (.const (.bool false)), false, []⟩,
            ⟨7, (some 9), none, .asg (.loc 6), false, []⟩] false) (
         .cond (.var 9) (
          .seq (
           .region 6 [⟨0, none, none, .fieldAddr 0 1 false (.var 1), false, []⟩,
             ⟨1, none, none, .load false 1 (.loc 0) false, false, []⟩,
             ⟨2, none, none, .mv (.var 3) false, false, []⟩,
             ⟨3, none, none, .build [(.int .i64 0), (.int .i64 0), (.int .i64 0)] [(0, 1, (.loc 1)), (1, 1, (.loc 2)), (2, 1, (.const (.int .i64 3)))], false, []⟩,
             ⟨4, none, none, .mkIface 100 (.loc 3), false, []⟩,
             ⟨5, (some 2), none, .asg (.loc 4), false, []⟩] false) (
          .ret)) (
          .seq (
           .region 8 [⟨0, none, none, .fieldAddr 0 1 false (.var 1), false, []⟩,
             ⟨1, none, none, .load false 1 (.loc 0) true, false, []⟩,
             ⟨2, none, none, .bin .eql (.loc 1) (.const (.int .i64 6)), false, []⟩,
             ⟨3, none, none, .mv (.loc 2) false, false, []⟩,
             ⟨4, none, (some ((.loc 3), true)), .mv (.var 3) true, false, []⟩,
             ⟨5, none, (some ((.loc 3), true)), .bin .geq (.loc 4) (.const (.int .i64 0)), false, []⟩,
             ⟨6, none, none, .pick (.loc 3) (.loc 5) (.const (.bool false)), false, []⟩,
             ⟨7, (some 10), none, .asg (.loc 6), false, []⟩] false) (
          .cond (.var 10) (
           .seq (
            .region 6 [⟨0, none, none, .fieldAddr 0 1 false (.var 1), false, []⟩,
              ⟨1, none, none, .load false 1 (.loc 0) false, false, []⟩,
              ⟨2, none, none, .mv (.var 3) false, false, []⟩,
              ⟨3, none, none, .build [(.int .i64 0), (.int .i64 0), (.int .i64 0)] [(0, 1, (.loc 1)), (1, 1, (.loc 2)), (2, 1, (.const (.int .i64 4)))], false, []⟩,
              ⟨4, none, none, .mkIface 100 (.loc 3), false, []⟩,
              ⟨5, (some 2), none, .asg (.loc 4), false, []⟩] false) (
           .ret)) (
           .seq (
            .region 8 [⟨0, none, none, .fieldAddr 0 1 false (.var 1), false, []⟩,
              ⟨1, none, none, .load false 1 (.loc 0) true, false, []⟩,
              ⟨2, none, none, .bin .eql (.loc 1) (.const (.int .i64 7)), false, []⟩,
              ⟨3, none, none, .mv (.loc 2) false, false, []⟩,
              ⟨4, none, (some ((.loc 3), true)), .mv (.var 3) true, false, []⟩,
              ⟨5, none, (some ((.loc 3), true)), .bin .geq (.loc 4) (.const (.int .i64 0)), false, []⟩,
              ⟨6, none, none, .pick (.loc 3) (.loc 5) (.const (.bool false)), false, []⟩,
              ⟨7, (some 11), none, .asg (.loc 6), false, []⟩] false) (
           .cond (.var 11) (
            .seq (
             .region 6 [⟨0, none, none, .fieldAddr 0 1 false (.var 1), false, []⟩,
               ⟨1, none, none, .load false 1 (.loc 0) false, false, []⟩,
               ⟨2, none, none, .mv (.var 3) false, false, []⟩,
               ⟨3, none, none, .build [(.int .i64 0), (.int .i64 0), (.int .i64 0)] [(0, 1, (.loc 1)), (1, 1, (.loc 2)), (2, 1, (.const (.int .i64 0)))], false, []⟩,
               ⟨4, none, none, .mkIface 100 (.loc 3), false, []⟩,
               ⟨5, (some 2), none, .asg (.loc 4), false, []⟩] false) (
            .ret)) (
            .skip)))))))))))))))))) (
  .seq (
   .region 1 [⟨0, (some 2), none, .asg (.const .niliface), false, []⟩] false) (
  .ret))))
def l39 : LFun := ⟨1, [(some 0), none, none, none, none, none, none, none, none, none, none, none], c39, [.var 2], .keep⟩
/-- (*umpire/spec.world).step -/
def vm38 : List Nat := [0, 1, 4, 5, 6, 7, 31, 34, 49]
def c38 : LCode :=
  .seq (
   .region 1 [⟨0, (some 2), none, .asg (.const (.bool false)), false, []⟩] false) (
  .seq (
   .region 6 [⟨0, none, none, .mv (.var 0) true, false, []⟩,
     ⟨1, none, none, .nilCheck (.loc 0), false, []⟩,
     ⟨2, none, none, .fieldAddr 9 31 true (.loc 1), false, []⟩,
     ⟨3, none, none, .load true 31 (.loc 2) false, false, []⟩,
     ⟨4, none, none, .callp 16 [(.loc 3)], false, []⟩,
     ⟨5, (some 3), none, .asg (.loc 4), false, []⟩] false) (
  .seq (
   .region 8 [⟨0, none, none, .mv (.var 1) false, false, []⟩,
     ⟨1, none, none, .tassert 90 (.agg [(.int .i64 0), (.int .i64 0), (.vs true .sh 0 [])]) (.loc 0) true, false, []⟩,
     ⟨2, none, none, .mv (.loc 1) false, false, []⟩,
     ⟨3, none, none, .extract (.loc 2) 0, false, []⟩,
     ⟨4, none, none, .extract (.loc 2) 1, false, []⟩,
     ⟨5, (some 4), none, .alloc 90 [(.int .i64 0), (.int .i64 0), (.vs true .sh 0 [])], false, []⟩,
     ⟨6, (some 9), none, .store 3 (.var 4) (.loc 3), false, []⟩,
     ⟨7, (some 5), none, .asg (.loc 4), false, []⟩] false) (
  .seq (
   .block 0 (
    .seq (
     .region 3 [⟨0, none, none, .mv (.var 1) true, false, []⟩,
       ⟨1, none, none, .isNil 4 false (.loc 0), false, []⟩,
       ⟨2, (some 6), none, .asg (.loc 1), false, []⟩] false) (
    .cond (.var 6) (
     .seq (
      .region 1 [⟨0, (some 2), none, .asg (.const (.bool false)), false, []⟩] false) (
     .ret)) (
     .seq (
      .region 11 [⟨0, none, none, .mv (.var 5) false, false, []⟩,
        ⟨1, none, none, .mv (.loc 0) false, false, []⟩,
        ⟨2, none, (some ((.loc 1), true)), .mv (.var 0) true, false, []⟩,
        ⟨3, none, (some ((.loc 1), true)), .nilCheck (.loc 2), false, []⟩,
        ⟨4, none, (some ((.loc 1), true)), .fieldAddr 9 31 true (.loc 3), false, []⟩,
        ⟨5, none, (some ((.loc 1), true)), .fieldAddr 30 1 false (.loc 4), false, []⟩,
        ⟨6, none, (some ((.loc 1), true)), .load false 1 (.loc 5) true, false, []⟩,
        ⟨7, none, (some ((.loc 1), true)), .len 1 (.loc 6), false, []⟩,
        ⟨8, none, (some ((.loc 1), true)), .bin .gtr (.loc 7) (.const (.int .i64 0)), false, []⟩,
        ⟨9, none, none, .pick (.loc 1) (.loc 8) (.const (.bool false)), false, []⟩,
        ⟨10, (some 7), none, .asg (.loc 9), false, []⟩] false) (
     .cond (.var 7) (
      .region 5 [⟨0, none, none, .mv (.var 0) false, false, []⟩,
        ⟨1, none, none, .fieldAddr 0 3 true (.var 4), false, []⟩,
        ⟨2, none, none, .load true 3 (.loc 1) false, false, []⟩,
        ⟨3, none, none, .call 41 [(.loc 0), (.loc 2)], false, []⟩,
        ⟨4, (some 5), none, .asg (.loc 3), false, []⟩] false) (
      .seq (
       .region 2 [⟨0, none, none, .mv (.var 5) false, false, []⟩,
         ⟨1, (some 8), none, .asg (.loc 0), false, []⟩] false) (
      .cond (.var 8) (
       .region 5 [⟨0, none, none, .mv (.var 0) false, false, []⟩,
         ⟨1, none, none, .fieldAddr 0 3 true (.var 4), false, []⟩,
         ⟨2, none, none, .load true 3 (.loc 1) false, false, []⟩,
         ⟨3, none, none, .call 42 [(.loc 0), (.loc 2)], false, []⟩,
         ⟨4, (some 5), none, .asg (.loc 3), false, []⟩] false) (
       .region 14 [⟨0, none, none, .mv (.var 0) true, false, []⟩,
         ⟨1, none, none, .nilCheck (.loc 0), false, []⟩,
         ⟨2, none, none, .fieldAddr 9 31 true (.loc 1), false, []⟩,
         ⟨3, none, none, .fieldAddr 30 1 false (.loc 2), false, []⟩,
         ⟨4, none, none, .load false 1 (.loc 3) true, false, []⟩,
         ⟨5, none, none, .len 1 (.loc 4), false, []⟩,
         ⟨6, none, none, .bin .eql (.loc 5) (.const (.int .i64 0)), false, []⟩,
         ⟨7, none, none, .mv (.loc 6) false, false, []⟩,
         ⟨8, none, (some ((.loc 7), true)), .mv (.var 1) false, false, []⟩,
         ⟨9, none, (some ((.loc 7), true)), .tassertI 94 (.loc 8), false, []⟩,
         ⟨10, none, (some ((.loc 7), true)), .mv (.var 0) false, false, []⟩,
         ⟨11, none, (some ((.loc 7), true)), .invoke (.loc 9) "umpire/spec.happens" [(98, 133), (100, 167)] [(.loc 10)], false, []⟩,
         ⟨12, none, none, .pick (.loc 7) (.loc 11) (.const (.bool false)), false, []⟩,
         ⟨13, (some 5), none, .asg (.loc 12), false, []⟩] false)))))))) (
  .seq (
   .region 3 [⟨0, none, none, .mv (.var 0) false, false, []⟩,
     ⟨1, none, none, .mv (.var 3) false, false, []⟩,
     ⟨2, none, none, .call 43 [(.loc 0), (.loc 1)], false, []⟩] false) (
  .seq (
   .region 2 [⟨0, none, none, .mv (.var 5) false, false, []⟩,
     ⟨1, (some 2), none, .asg (.loc 0), false, []⟩] false) (
  .ret))))))
def l38 : LFun := ⟨2, [(some 0), (some 1), none, none, none, none, none, none, none], c38, [.var 2], .trim⟩
/-- slices.IndexFunc[[]umpire/api.Label,umpire/api.Label] -/
def vm40 : List Nat := [0, 1, 4, 5, 7, 8, 9, 16]
def b40_0 : LCode :=
  .fence [2, 3, 6, 7] (
   .seq (
    .region 1 [⟨0, (some 6), none, .bin .lss (.var 5) (.var 4), false, []⟩] false) (
   .seq (
    .cond (.var 6) (
     .skip) (
     .exit 0)) (
   .seq (
    .block 1 (
     .seq (
      .region 2 [⟨0, none, none, .mv (.var 5) false, false, []⟩,
        ⟨1, (some 3), none, .asg (.loc 0), false, []⟩] false) (
     .seq (
      .region 6 [⟨0, none, none, .mv (.var 1) false, false, []⟩,
        ⟨1, none, none, .mv (.var 0) false, false, []⟩,
        ⟨2, none, none, .mv (.var 3) false, false, []⟩,
        ⟨3, none, none, .idxAddrVs 6 (.loc 1) (.loc 2), false, []⟩,
        ⟨4, none, none, .load true 6 (.loc 3) false, false, []⟩,
        ⟨5, (some 7), none, .callv (.loc 0) [(.loc 4)], false, []⟩] false) (
     .cond (.var 7) (
      .seq (
       .region 2 [⟨0, none, none, .mv (.var 3) false, false, []⟩,
         ⟨1, (some 2), none, .asg (.loc 0), false, []⟩] false) (
      .ret)) (
      .skip))))) (
   .region 2 [⟨0, none, none, .bin .add (.var 5) (.const (.int .i64 1)), false, []⟩,
     ⟨1, (some 5), none, .mv (.loc 0) false, false, []⟩] false))))
def c40 : LCode :=
  .seq (
   .region 1 [⟨0, (some 2), none, .asg (.const (.int .i64 0)), false, []⟩] false) (
  .seq (
   .seq (
    .region 3 [⟨0, none, none, .mv (.var 0) true, false, []⟩,
      ⟨1, (some 4), none, .len 1 (.loc 0), false, []⟩,
      ⟨2, (some 5), none, .mv (.const (.int .i64 0)) false, false, []⟩] false) (
   .fence [0, 1, 2, 3, 4, 5, 6, 7] (
    .block 0 (
     .loop b40_0)))) (
  .seq (
   .region 1 [⟨0, (some 2), none, .asg (.const (.int .i64 (-1))), false, []⟩] false) (
  .ret)))
def l40 : LFun := ⟨2, [(some 0), (some 1), none, none, none, none, none, none], c40, [.var 2], .trim⟩
/-- umpire/spec.linkOf -/
def vm44 : List Nat := [0, 2, 3]
def c44 : LCode :=
  .seq (
   .region 1 [⟨0, (some 1), none, .asg (.const (.int .i64 0)), false, []⟩] false) (
  .seq (
   .region 3 [⟨0, none, none, .callp 29 [], false, []⟩,
     ⟨1, (some 2), none, .alloc 54 [(.int .i64 0), (.int .i64 0), (.int .i64 0)], false, []⟩,
     ⟨2, (some 3), none, .store 3 (.var 2) (.loc 0), false, []⟩] false) (
  .seq (
   .region 4 [⟨0, none, none, .sliceArr 3 1 false (.var 2) none none, false, []⟩,
     ⟨1, none, none, .mv (.var 0) false, false, []⟩,
     ⟨2, none, none, .callp 53 [(.loc 0), (.loc 1)], false, []⟩,
     ⟨3, (some 1), none, .asg (.loc 2), false, []⟩] false) (
  .ret)))
def l44 : LFun := ⟨1, [(some 0), none, none], c44, [.var 1], .pure⟩
/-- umpire/spec.plain -/
def vm45 : List Nat := [0, 1, 2, 3, 4, 5]
def r45_0 : LCode :=
  .region 18 [⟨0, none, none, .fieldAddr 2 3 true (.var 1), false, []⟩,
    ⟨1, none, none, .fieldAddr 0 1 false (.loc 0), false, []⟩,
    ⟨2, none, none, .load false 1 (.loc 1) true, false, []⟩,
    ⟨3, none, none, .bin .eql (.loc 2) (.const (.int .i64 0)), false, []⟩,
    ⟨4, none, none, .mv (.loc 3) false, false, []⟩,
    ⟨5, none, (some ((.loc 4), true)), .fieldAddr 2 3 true (.var 1), false, []⟩,
    ⟨6, none, (some ((.loc 4), true)), .fieldAddr 1 1 false (.loc 5), false, []⟩,
    ⟨7, none, (some ((.loc 4), true)), .load false 1 (.loc 6) true, false, []⟩,
    ⟨8, none, (some ((.loc 4), true)), .bin .eql (.loc 7) (.const (.int .i64 0)), false, []⟩,
    ⟨9, none, none, .pick (.loc 4) (.loc 8) (.const (.bool false)), false, []⟩,
    ⟨10, none, none, .mv (.loc 9) false, false, []⟩,
    ⟨11, none, (some ((.loc 10), true)), .fieldAddr 2 3 true (.var 1), false, []⟩,
    ⟨12, none, (some ((.loc 10), true)), .fieldAddr 2 1 false (.loc 11), false, []⟩,
    ⟨13, none, (some ((.loc 10), true)), .load false 1 (.loc 12) true, false, []⟩,
    ⟨14, none, (some ((.loc 10), true)), .len 1 (.loc 13), false, []⟩,
    ⟨15, none, (some ((.loc 10), true)), .bin .eql (.loc 14) (.const (.int .i64 0)), false, []⟩,
    ⟨16, none, none, .pick (.loc 10) (.loc 15) (.const (.bool false)), false, []⟩,
    ⟨17, (some 5), none, .asg (.loc 16), false, []⟩] false
def r45_1 : LCode :=
  .region 23 [⟨0, none, none, .mv (.var 3) false, false, []⟩,
    ⟨1, none, none, .mv (.loc 0) false, false, []⟩,
    ⟨2, none, (some ((.loc 1), false)), .mv (.var 5) false, false, []⟩,
    ⟨3, none, none, .pick (.loc 1) (.const (.bool true)) (.loc 2), false, []⟩,
    ⟨4, none, none, .mv (.loc 3) false, false, []⟩,
    ⟨5, none, (some ((.loc 4), true)), .mv (.var 4) false, false, []⟩,
    ⟨6, none, (some ((.loc 4), true)), .mv (.loc 5) false, false, []⟩,
    ⟨7, none, (some ((.loc 6), false)), .fieldAddr 1 1 false (.var 1), false, []⟩,
    ⟨8, none, (some ((.loc 6), false)), .load false 1 (.loc 7) true, false, []⟩,
    ⟨9, none, (some ((.loc 6), false)), .bin .eql (.loc 8) (.const (.int .i64 0)), false, []⟩,
    ⟨10, none, (some ((.loc 4), true)), .pick (.loc 6) (.const (.bool true)) (.loc 9), false, []⟩,
    ⟨11, none, none, .pick (.loc 4) (.loc 10) (.const (.bool false)), false, []⟩,
    ⟨12, none, none, .mv (.loc 11) false, false, []⟩,
    ⟨13, none, (some ((.loc 12), true)), .fieldAddr 0 1 false (.var 1), false, []⟩,
    ⟨14, none, (some ((.loc 12), true)), .load false 1 (.loc 13) true, false, []⟩,
    ⟨15, none, (some ((.loc 12), true)), .bin .eql (.loc 14) (.const (.int .i64 1)), false, []⟩,
    ⟨16, none, (some ((.loc 12), true)), .mv (.loc 15) false, false, []⟩,
    ⟨17, none, (some ((.loc 16), false)), .fieldAddr 5 1 false (.var 1), false, []⟩,
    ⟨18, none, (some ((.loc 16), false)), .load false 1 (.loc 17) true, false, []⟩,
    ⟨19, none, (some ((.loc 16), false)), .un .not (.loc 18), false, []⟩,
    ⟨20, none, (some ((.loc 12), true)), .pick (.loc 16) (.const (.bool true)) (.loc 19), false, []⟩,
    ⟨21, none, none, .pick (.loc 12) (.loc 20) (.const (.bool false)), false, []⟩,
    ⟨22, (some 2), none, .asg (.loc 21), false, []⟩] false
def c45 : LCode :=
  .seq (
   .region 2 [⟨0, (some 1), none, .box 44 (.var 0), false, []⟩,
     ⟨1, (some 2), none, .asg (.const (.bool false)), false, []⟩] false) (
  .seq (
   .region 9 [⟨0, none, none, .fieldAddr 0 1 false (.var 1), false, []⟩,
     ⟨1, none, none, .load false 1 (.loc 0) true, false, []⟩,
     ⟨2, none, none, .bin .eql (.loc 1) (.const (.int .i64 1)), false, []⟩,
     ⟨3, none, none, .mv (.loc 2) false, false, []⟩,
     ⟨4, none, (some ((.loc 3), false)), .fieldAddr 0 1 false (.var 1), false, []⟩,
     ⟨5, none, (some ((.loc 3), false)), .load false 1 (.loc 4) true, false, []⟩,
     ⟨6, none, (some ((.loc 3), false)), .bin .eql (.loc 5) (.const (.int .i64 2)), false, []⟩,
     ⟨7, none, none, .pick (.loc 3) (.const (.bool true)) (.loc 6), false, []⟩,
     ⟨8, (some 3), none, .asg (.loc 7), false, []⟩] false) (
  .seq (
   .region 9 [⟨0, none, none, .fieldAddr 0 1 false (.var 1), false, []⟩,
     ⟨1, none, none, .load false 1 (.loc 0) true, false, []⟩,
     ⟨2, none, none, .bin .geq (.loc 1) (.const (.int .i64 5)), false, []⟩,
     ⟨3, none, none, .mv (.loc 2) false, false, []⟩,
     ⟨4, none, (some ((.loc 3), true)), .fieldAddr 0 1 false (.var 1), false, []⟩,
     ⟨5, none, (some ((.loc 3), true)), .load false 1 (.loc 4) true, false, []⟩,
     ⟨6, none, (some ((.loc 3), true)), .bin .leq (.loc 5) (.const (.int .i64 7)), false, []⟩,
     ⟨7, none, none, .pick (.loc 3) (.loc 6) (.const (.bool false)), false, []⟩,
     ⟨8, (some 4), none, .asg (.loc 7), false, []⟩] false) (
  .seq (
   r45_0) (
  .seq (
   r45_1) (
  .ret)))))
def l45 : LFun := ⟨1, [(some 0), none, none, none, none, none], c45, [.var 2], .pure⟩
/-- umpire/capture.May -/
def vm46 : List Nat := [0, 1, 2]
def r46_0 : LCode :=
  .region 20 [⟨0, none, none, .fieldAddr 0 1 false (.var 1), false, []⟩,
    ⟨1, none, none, .load false 1 (.loc 0) true, false, []⟩,
    ⟨2, none, none, .bin .eql (.loc 1) (.const (.int .i64 1)), false, []⟩,
    ⟨3, none, none, .mv (.loc 2) false, false, []⟩,
    ⟨4, none, (some ((.loc 3), false)), .fieldAddr 0 1 false (.var 1), false, []⟩,
    ⟨5, none, (some ((.loc 3), false)), .load false 1 (.loc 4) true, false, []⟩,
    ⟨6, none, (some ((.loc 3), false)), .bin .eql (.loc 5) (.const (.int .i64 2)), false, []⟩,
    ⟨7, none, none, .pick (.loc 3) (.const (.bool true)) (.loc 6), false, []⟩,
    ⟨8, none, none, .mv (.loc 7) false, false, []⟩,
    ⟨9, none, (some ((.loc 8), true)), .fieldAddr 1 1 false (.var 1), false, []⟩,
    ⟨10, none, (some ((.loc 8), true)), .load false 1 (.loc 9) false, false, []⟩,
    ⟨11, none, (some ((.loc 8), true)), .callp 54 [(.loc 10)], false, []⟩,
    ⟨12, none, none, .pick (.loc 8) (.loc 11) (.const (.bool false)), false, []⟩,
    ⟨13, none, none, .mv (.loc 12) false, false, []⟩,
    ⟨14, none, (some ((.loc 13), true)), .fieldAddr 2 1 false (.var 1), false, []⟩,
    ⟨15, none, (some ((.loc 13), true)), .load false 1 (.loc 14) true, false, []⟩,
    ⟨16, none, (some ((.loc 13), true)), .len 1 (.loc 15), false, []⟩,
    ⟨17, none, (some ((.loc 13), true)), .bin .leq (.loc 16) (.const (.int .i64 65531)), false, []⟩,
    ⟨18, none, none, .pick (.loc 13) (.loc 17) (.const (.bool false)), false, []⟩,
    ⟨19, (some 2), none, .asg (.loc 18), false, []⟩] false
def c46 : LCode :=
  .seq (
   .region 2 [⟨0, (some 1), none, .box 42 (.var 0), false, []⟩,
     ⟨1, (some 2), none, .asg (.const (.bool false)), false, []⟩] false) (
  .seq (
   r46_0) (
  .ret))
def l46 : LFun := ⟨1, [(some 0), none, none], c46, [.var 2], .pure⟩
/-- (*umpire/spec.world).owed -/
def vm41 : List Nat := [0, 1, 3, 4, 5, 6, 7, 8, 9, 42, 45]
def r41_0 : LCode :=
  .region 20 [⟨0, none, none, .mv (.var 0) false, false, []⟩,
    ⟨1, none, none, .nilCheck (.loc 0), false, []⟩,
    ⟨2, none, none, .fieldAddr 0 9 true (.loc 1), false, []⟩,
    ⟨3, none, none, .load true 9 (.loc 2) false, false, []⟩,
    ⟨4, none, none, .mv (.var 0) false, false, []⟩,
    ⟨5, none, none, .nilCheck (.loc 4), false, []⟩,
    ⟨6, none, none, .fieldAddr 9 31 true (.loc 5), false, []⟩,
    ⟨7, none, none, .fieldAddr 21 9 true (.loc 6), false, []⟩,
    ⟨8, none, none, .load true 9 (.loc 7) false, false, []⟩,
    ⟨9, none, none, .load true 4 (.var 4) false, false, []⟩,
    ⟨10, none, none, .fieldAddr 1 1 false (.var 2), false, []⟩,
    ⟨11, none, none, .load false 1 (.loc 10) false, false, []⟩,
    ⟨12, none, none, .load true 3 (.var 5) false, false, []⟩,
    ⟨13, none, none, .callp 49 [(.loc 3), (.loc 8), (.loc 9), (.loc 11), (.loc 12)], false, []⟩,
    ⟨14, none, none, .mv (.loc 13) false, false, []⟩,
    ⟨15, none, none, .extract (.loc 14) 0, false, []⟩,
    ⟨16, none, none, .extract (.loc 14) 1, false, []⟩,
    ⟨17, (some 7), none, .alloc 31 [(.int .i64 0), (.int .i64 0), (.bool false), (.bool false), (.bool false), (.int .i64 0), (.str []), (.bool false), (.int .i64 0)], false, []⟩,
    ⟨18, (some 11), none, .store 9 (.var 7) (.loc 15), false, []⟩,
    ⟨19, (some 8), none, .asg (.loc 16), false, []⟩] true
def c41 : LCode :=
  .seq (
   .region 2 [⟨0, (some 2), none, .box 42 (.var 1), false, []⟩,
     ⟨1, (some 3), none, .asg (.const (.bool false)), false, []⟩] false) (
  .seq (
   .region 9 [⟨0, none, none, .mv (.var 0) true, false, []⟩,
     ⟨1, none, none, .nilCheck (.loc 0), false, []⟩,
     ⟨2, none, none, .fieldAddr 9 31 true (.loc 1), false, []⟩,
     ⟨3, none, none, .fieldAddr 30 1 false (.loc 2), false, []⟩,
     ⟨4, none, none, .load false 1 (.loc 3) false, false, []⟩,
     ⟨5, none, none, .idxAddrVs 4 (.loc 4) (.const (.int .i64 0)), false, []⟩,
     ⟨6, none, none, .load true 4 (.loc 5) false, false, []⟩,
     ⟨7, (some 4), none, .alloc 51 [(.int .i64 0), (.int .i64 0), (.int .i64 0), (.str [])], false, []⟩,
     ⟨8, (some 11), none, .store 4 (.var 4) (.loc 6), false, []⟩] false) (
  .seq (
   .region 12 [⟨0, none, none, .mv (.var 0) true, false, []⟩,
     ⟨1, none, none, .mv (.var 0) true, false, []⟩,
     ⟨2, none, none, .nilCheck (.loc 1), false, []⟩,
     ⟨3, none, none, .fieldAddr 9 31 true (.loc 2), false, []⟩,
     ⟨4, none, none, .fieldAddr 30 1 false (.loc 3), false, []⟩,
     ⟨5, none, none, .load false 1 (.loc 4) false, false, []⟩,
     ⟨6, none, none, .sliceVs 4 (.loc 5) (some (.const (.int .i64 1))) none none, false, []⟩,
     ⟨7, none, none, .callp 37 [(.loc 6)], false, []⟩,
     ⟨8, none, none, .nilCheck (.loc 0), false, []⟩,
     ⟨9, none, none, .fieldAddr 9 31 true (.loc 8), false, []⟩,
     ⟨10, none, none, .fieldAddr 30 1 false (.loc 9), false, []⟩,
     ⟨11, (some 11), none, .store 1 (.loc 10) (.loc 7), false, []⟩] false) (
  .seq (
   .region 9 [⟨0, none, none, .fieldAddr 2 1 false (.var 2), false, []⟩,
     ⟨1, none, none, .load false 1 (.loc 0) false, false, []⟩,
     ⟨2, none, none, .callp 47 [(.loc 1)], false, []⟩,
     ⟨3, none, none, .mv (.loc 2) false, false, []⟩,
     ⟨4, none, none, .extract (.loc 3) 0, false, []⟩,
     ⟨5, none, none, .extract (.loc 3) 1, false, []⟩,
     ⟨6, (some 5), none, .alloc 57 [(.int .i64 0), (.int .i64 0), (.vs true .sh 0 [])], false, []⟩,
     ⟨7, (some 11), none, .store 3 (.var 5) (.loc 4), false, []⟩,
     ⟨8, (some 6), none, .asg (.loc 5), false, []⟩] false) (
  .seq (
   .seq (
    .region 9 [⟨0, none, none, .mv (.var 6) true, false, []⟩,
      ⟨1, none, none, .bin .neq (.loc 0) (.const (.int .i64 0)), false, []⟩,
      ⟨2, none, none, .mv (.loc 1) false, false, []⟩,
      ⟨3, none, (some ((.loc 2), false)), .fieldAddr 1 1 false (.var 2), false, []⟩,
      ⟨4, none, (some ((.loc 2), false)), .load false 1 (.loc 3) true, false, []⟩,
      ⟨5, none, (some ((.loc 2), false)), .fieldAddr 1 1 false (.var 4), false, []⟩,
      ⟨6, none, (some ((.loc 2), false)), .load false 1 (.loc 5) true, false, []⟩,
      ⟨7, none, (some ((.loc 2), false)), .bin .neq (.loc 4) (.loc 6), false, []⟩,
      ⟨8, (some 9), none, .pick (.loc 2) (.const (.bool true)) (.loc 7), false, []⟩] false) (
   .cond (.var 9) (
    .seq (
     .region 1 [⟨0, (some 3), none, .asg (.const (.bool false)), false, []⟩] false) (
    .ret)) (
    .skip))) (
  .seq (
   .seq (
    .region 3 [⟨0, none, none, .fieldAddr 0 1 false (.var 4), false, []⟩,
      ⟨1, none, none, .load false 1 (.loc 0) true, false, []⟩,
      ⟨2, (some 10), none, .bin .lss (.loc 1) (.const (.int .i64 9)), false, []⟩] false) (
   .cond (.var 10) (
    .seq (
     .region 5 [⟨0, none, none, .mv (.var 0) false, false, []⟩,
       ⟨1, none, none, .load true 4 (.var 4) false, false, []⟩,
       ⟨2, none, none, .load true 3 (.var 5) false, false, []⟩,
       ⟨3, none, none, .call 48 [(.loc 0), (.loc 1), (.loc 2)], false, []⟩,
       ⟨4, (some 3), none, .asg (.loc 3), false, []⟩] false) (
    .ret)) (
    .skip))) (
  .seq (
   r41_0) (
  .seq (
   .region 6 [⟨0, none, none, .mv (.var 0) true, false, []⟩,
     ⟨1, none, none, .load true 9 (.var 7) false, false, []⟩,
     ⟨2, none, none, .nilCheck (.loc 0), false, []⟩,
     ⟨3, none, none, .fieldAddr 9 31 true (.loc 2), false, []⟩,
     ⟨4, none, none, .fieldAddr 21 9 true (.loc 3), false, []⟩,
     ⟨5, (some 11), none, .store 9 (.loc 4) (.loc 1), false, []⟩] false) (
  .seq (
   .region 2 [⟨0, none, none, .mv (.var 8) false, false, []⟩,
     ⟨1, (some 3), none, .asg (.loc 0), false, []⟩] false) (
  .ret)))))))))
def l41 : LFun := ⟨2, [(some 0), (some 1), none, none, none, none, none, none, none, none, none], c41, [.var 3], .trim⟩
/-- (*umpire/spec.world).free -/
def vm42 : List Nat := [0, 1, 3, 4, 5, 6, 7, 8, 9, 10, 11, 18, 38, 58, 72]
def r42_0 : LCode :=
  .region 17 [⟨0, none, none, .mv (.var 0) true, false, []⟩,
    ⟨1, none, none, .nilCheck (.loc 0), false, []⟩,
    ⟨2, none, none, .fieldAddr 9 31 true (.loc 1), false, []⟩,
    ⟨3, none, none, .load true 31 (.loc 2) false, false, []⟩,
    ⟨4, none, none, .callp 16 [(.loc 3)], false, []⟩,
    ⟨5, none, none, .mv (.loc 4) false, false, []⟩,
    ⟨6, none, (some ((.loc 5), true)), .mv (.var 0) true, false, []⟩,
    ⟨7, none, (some ((.loc 5), true)), .nilCheck (.loc 6), false, []⟩,
    ⟨8, none, (some ((.loc 5), true)), .fieldAddr 9 31 true (.loc 7), false, []⟩,
    ⟨9, none, (some ((.loc 5), true)), .fieldAddr 0 21 true (.loc 8), false, []⟩,
    ⟨10, none, (some ((.loc 5), true)), .idxAddrArr 3 7 true (.loc 9) (.const (.int .i64 1)), false, []⟩,
    ⟨11, none, (some ((.loc 5), true)), .fieldAddr 0 2 true (.loc 10), false, []⟩,
    ⟨12, none, (some ((.loc 5), true)), .fieldAddr 0 1 false (.loc 11), false, []⟩,
    ⟨13, none, (some ((.loc 5), true)), .load false 1 (.loc 12) true, false, []⟩,
    ⟨14, none, (some ((.loc 5), true)), .bin .eql (.loc 13) (.const (.int .i64 9)), false, []⟩,
    ⟨15, none, none, .pick (.loc 5) (.loc 14) (.const (.bool false)), false, []⟩,
    ⟨16, (some 3), none, .asg (.loc 15), false, []⟩] false
def r42_1 : LCode :=
  .region 17 [⟨0, none, none, .mv (.var 0) true, false, []⟩,
    ⟨1, none, none, .nilCheck (.loc 0), false, []⟩,
    ⟨2, none, none, .fieldAddr 9 31 true (.loc 1), false, []⟩,
    ⟨3, none, none, .load true 31 (.loc 2) false, false, []⟩,
    ⟨4, none, none, .callp 16 [(.loc 3)], false, []⟩,
    ⟨5, none, none, .mv (.loc 4) false, false, []⟩,
    ⟨6, none, (some ((.loc 5), true)), .mv (.var 0) true, false, []⟩,
    ⟨7, none, (some ((.loc 5), true)), .nilCheck (.loc 6), false, []⟩,
    ⟨8, none, (some ((.loc 5), true)), .fieldAddr 9 31 true (.loc 7), false, []⟩,
    ⟨9, none, (some ((.loc 5), true)), .fieldAddr 0 21 true (.loc 8), false, []⟩,
    ⟨10, none, (some ((.loc 5), true)), .idxAddrArr 3 7 true (.loc 9) (.const (.int .i64 2)), false, []⟩,
    ⟨11, none, (some ((.loc 5), true)), .fieldAddr 0 2 true (.loc 10), false, []⟩,
    ⟨12, none, (some ((.loc 5), true)), .fieldAddr 0 1 false (.loc 11), false, []⟩,
    ⟨13, none, (some ((.loc 5), true)), .load false 1 (.loc 12) true, false, []⟩,
    ⟨14, none, (some ((.loc 5), true)), .bin .eql (.loc 13) (.const (.int .i64 9)), false, []⟩,
    ⟨15, none, none, .pick (.loc 5) (.loc 14) (.const (.bool false)), false, []⟩,
    ⟨16, (some 3), none, .asg (.loc 15), false, []⟩] false
def c42 : LCode :=
  .seq (
   .region 2 [⟨0, (some 2), none, .box 42 (.var 1), false, []⟩,
     ⟨1, (some 3), none, .asg (.const (.bool false)), false, []⟩] false) (
  .seq (
   .region 9 [⟨0, none, none, .fieldAddr 2 1 false (.var 2), false, []⟩,
     ⟨1, none, none, .load false 1 (.loc 0) false, false, []⟩,
     ⟨2, none, none, .callp 47 [(.loc 1)], false, []⟩,
     ⟨3, none, none, .mv (.loc 2) false, false, []⟩,
     ⟨4, none, none, .extract (.loc 3) 0, false, []⟩,
     ⟨5, none, none, .extract (.loc 3) 1, false, []⟩,
     ⟨6, (some 4), none, .alloc 57 [(.int .i64 0), (.int .i64 0), (.vs true .sh 0 [])], false, []⟩,
     ⟨7, (some 15), none, .store 3 (.var 4) (.loc 4), false, []⟩,
     ⟨8, (some 5), none, .asg (.loc 5), false, []⟩] false) (
  .seq (
   .block 0 (
    .seq (
     .region 4 [⟨0, none, none, .fieldAddr 1 1 false (.var 2), false, []⟩,
       ⟨1, none, none, .load false 1 (.loc 0) true, false, []⟩,
       ⟨2, none, none, .bin .eql (.loc 1) (.const (.int .i64 33)), false, []⟩,
       ⟨3, (some 11), none, .asg (.loc 2), false, []⟩] false) (
    .cond (.var 11) (
     .seq (
      r42_0) (
     .ret)) (
     .seq (
      .region 4 [⟨0, none, none, .fieldAddr 1 1 false (.var 2), false, []⟩,
        ⟨1, none, none, .load false 1 (.loc 0) true, false, []⟩,
        ⟨2, none, none, .bin .eql (.loc 1) (.const (.int .i64 87)), false, []⟩,
        ⟨3, (some 12), none, .asg (.loc 2), false, []⟩] false) (
     .cond (.var 12) (
      .seq (
       r42_1) (
      .ret)) (
      .seq (
       .region 14 [⟨0, none, none, .mv (.var 5) true, false, []⟩,
         ⟨1, none, none, .bin .neq (.loc 0) (.const (.int .i64 0)), false, []⟩,
         ⟨2, none, none, .mv (.loc 1) false, false, []⟩,
         ⟨3, none, (some ((.loc 2), false)), .mv (.var 0) true, false, []⟩,
         ⟨4, none, (some ((.loc 2), false)), .nilCheck (.loc 3), false, []⟩,
         ⟨5, none, (some ((.loc 2), false)), .fieldAddr 9 31 true (.loc 4), false, []⟩,
         ⟨6, none, (some ((.loc 2), false)), .fieldAddr 0 21 true (.loc 5), false, []⟩,
         ⟨7, none, (some ((.loc 2), false)), .idxAddrArr 3 7 true (.loc 6) (.const (.int .i64 0)), false, []⟩,
         ⟨8, none, (some ((.loc 2), false)), .fieldAddr 0 2 true (.loc 7), false, []⟩,
         ⟨9, none, (some ((.loc 2), false)), .fieldAddr 0 1 false (.loc 8), false, []⟩,
         ⟨10, none, (some ((.loc 2), false)), .load false 1 (.loc 9) true, false, []⟩,
         ⟨11, none, (some ((.loc 2), false)), .bin .neq (.loc 10) (.const (.int .i64 9)), false, []⟩,
         ⟨12, none, none, .pick (.loc 2) (.const (.bool true)) (.loc 11), false, []⟩,
         ⟨13, (some 13), none, .asg (.loc 12), false, []⟩] false) (
      .cond (.var 13) (
       .seq (
        .region 1 [⟨0, (some 3), none, .asg (.const (.bool false)), false, []⟩] false) (
       .ret)) (
       .seq (
        .region 4 [⟨0, none, none, .fieldAddr 1 1 false (.var 2), false, []⟩,
          ⟨1, none, none, .load false 1 (.loc 0) true, false, []⟩,
          ⟨2, none, none, .bin .eql (.loc 1) (.const (.int .i64 49185)), false, []⟩,
          ⟨3, (some 14), none, .asg (.loc 2), false, []⟩] false) (
       .cond (.var 14) (
        .seq (
         .region 9 [⟨0, none, none, .load true 3 (.var 4) false, false, []⟩,
           ⟨1, none, none, .callp 50 [(.loc 0)], false, []⟩,
           ⟨2, none, none, .mv (.loc 1) false, false, []⟩,
           ⟨3, none, none, .extract (.loc 2) 0, false, []⟩,
           ⟨4, none, none, .extract (.loc 2) 1, false, []⟩,
           ⟨5, none, none, .extract (.loc 2) 2, false, []⟩,
           ⟨6, (some 6), none, .asg (.loc 3), false, []⟩,
           ⟨7, (some 7), none, .asg (.loc 4), false, []⟩,
           ⟨8, (some 8), none, .asg (.loc 5), false, []⟩] false) (
        .seq (
         .region 7 [⟨0, none, none, .mv (.var 8) false, false, []⟩,
           ⟨1, none, none, .mv (.loc 0) false, false, []⟩,
           ⟨2, none, (some ((.loc 1), true)), .fieldAddr 0 1 false (.var 4), false, []⟩,
           ⟨3, none, (some ((.loc 1), true)), .load false 1 (.loc 2) true, false, []⟩,
           ⟨4, none, (some ((.loc 1), true)), .bin .neq (.loc 3) (.const (.int .i64 10)), false, []⟩,
           ⟨5, none, none, .pick (.loc 1) (.loc 4) (.const (.bool false)), false, []⟩,
           ⟨6, (some 3), none, .asg (.loc 5), false, []⟩] false) (
        .ret))) (
        .skip)))))))))) (
  .seq (
   .region 15 [⟨0, none, none, .mv (.var 0) false, false, []⟩,
     ⟨1, none, none, .nilCheck (.loc 0), false, []⟩,
     ⟨2, none, none, .fieldAddr 9 31 true (.loc 1), false, []⟩,
     ⟨3, none, none, .fieldAddr 21 9 true (.loc 2), false, []⟩,
     ⟨4, none, none, .load true 9 (.loc 3) false, false, []⟩,
     ⟨5, none, none, .fieldAddr 1 1 false (.var 2), false, []⟩,
     ⟨6, none, none, .load false 1 (.loc 5) false, false, []⟩,
     ⟨7, none, none, .load true 3 (.var 4) false, false, []⟩,
     ⟨8, none, none, .callp 51 [(.loc 4), (.loc 6), (.loc 7)], false, []⟩,
     ⟨9, none, none, .mv (.loc 8) false, false, []⟩,
     ⟨10, none, none, .extract (.loc 9) 0, false, []⟩,
     ⟨11, none, none, .extract (.loc 9) 1, false, []⟩,
     ⟨12, (some 9), none, .alloc 31 [(.int .i64 0), (.int .i64 0), (.bool false), (.bool false), (.bool false), (.int .i64 0), (.str []), (.bool false), (.int .i64 0)], false, []⟩,
     ⟨13, (some 15), none, .store 9 (.var 9) (.loc 10), false, []⟩,
     ⟨14, (some 10), none, .asg (.loc 11), false, []⟩] true) (
  .seq (
   .region 6 [⟨0, none, none, .mv (.var 0) true, false, []⟩,
     ⟨1, none, none, .load true 9 (.var 9) false, false, []⟩,
     ⟨2, none, none, .nilCheck (.loc 0), false, []⟩,
     ⟨3, none, none, .fieldAddr 9 31 true (.loc 2), false, []⟩,
     ⟨4, none, none, .fieldAddr 21 9 true (.loc 3), false, []⟩,
     ⟨5, (some 15), none, .store 9 (.loc 4) (.loc 1), false, []⟩] false) (
  .seq (
   .region 2 [⟨0, none, none, .mv (.var 10) false, false, []⟩,
     ⟨1, (some 3), none, .asg (.loc 0), false, []⟩] false) (
  .ret))))))
def l42 : LFun := ⟨2, [(some 0), (some 1), none, none, none, none, none, none, none, none, none, none, none, none, none], c42, [.var 3], .trim⟩
/-- (umpire/spec.came).happens -/
def vm133 : List Nat := [0, 1, 2, 4, 5, 6, 7, 17, 38, 60, 79]
def r133_0 : LCode :=
  .region 19 [⟨0, none, none, .mv (.var 6) true, false, []⟩,
    ⟨1, none, none, .bin .gtr (.loc 0) (.const (.int .i64 0)), false, []⟩,
    ⟨2, none, none, .mv (.loc 1) false, false, []⟩,
    ⟨3, none, (some ((.loc 2), false)), .fieldAddr 0 3 true (.var 2), false, []⟩,
    ⟨4, none, (some ((.loc 2), false)), .fieldAddr 1 1 false (.loc 3), false, []⟩,
    ⟨5, none, (some ((.loc 2), false)), .load false 1 (.loc 4) true, false, []⟩,
    ⟨6, none, (some ((.loc 2), false)), .bin .eql (.loc 5) (.const (.int .i64 33)), false, []⟩,
    ⟨7, none, none, .pick (.loc 2) (.const (.bool true)) (.loc 6), false, []⟩,
    ⟨8, none, none, .mv (.loc 7) false, false, []⟩,
    ⟨9, none, (some ((.loc 8), false)), .fieldAddr 0 3 true (.var 2), false, []⟩,
    ⟨10, none, (some ((.loc 8), false)), .fieldAddr 1 1 false (.loc 9), false, []⟩,
    ⟨11, none, (some ((.loc 8), false)), .load false 1 (.loc 10) true, false, []⟩,
    ⟨12, none, (some ((.loc 8), false)), .bin .eql (.loc 11) (.const (.int .i64 87)), false, []⟩,
    ⟨13, none, none, .pick (.loc 8) (.const (.bool true)) (.loc 12), false, []⟩,
    ⟨14, none, none, .mv (.loc 13) false, false, []⟩,
    ⟨15, none, (some ((.loc 14), false)), .mv (.var 4) true, false, []⟩,
    ⟨16, none, (some ((.loc 14), false)), .bin .neq (.loc 15) (.const (.int .i64 9)), false, []⟩,
    ⟨17, none, none, .pick (.loc 14) (.const (.bool true)) (.loc 16), false, []⟩,
    ⟨18, (some 9), none, .asg (.loc 17), false, []⟩] false
def r133_1 : LCode :=
  .region 16 [⟨0, none, none, .mv (.var 1) false, false, []⟩,
    ⟨1, none, none, .fieldAddr 0 3 true (.var 2), false, []⟩,
    ⟨2, none, none, .fieldAddr 1 1 false (.loc 1), false, []⟩,
    ⟨3, none, none, .load false 1 (.loc 2) false, false, []⟩,
    ⟨4, none, none, .fieldAddr 0 3 true (.var 2), false, []⟩,
    ⟨5, none, none, .fieldAddr 2 1 false (.loc 4), false, []⟩,
    ⟨6, none, none, .load false 1 (.loc 5) false, false, []⟩,
    ⟨7, none, none, .mv (.var 1) false, false, []⟩,
    ⟨8, none, none, .nilCheck (.loc 7), false, []⟩,
    ⟨9, none, none, .fieldAddr 0 9 true (.loc 8), false, []⟩,
    ⟨10, none, none, .fieldAddr 3 1 false (.loc 9), false, []⟩,
    ⟨11, none, none, .load false 1 (.loc 10) false, false, []⟩,
    ⟨12, none, none, .callp 137 [(.loc 3), (.loc 6), (.loc 11)], false, []⟩,
    ⟨13, none, none, .cvStr (.loc 12), false, []⟩,
    ⟨14, none, none, .build [(.int .i64 0), (.int .i64 0), (.int .i64 0), (.str [])] [(0, 1, (.const (.int .i64 8))), (1, 1, (.const (.int .i64 49185))), (3, 1, (.loc 13))], false, []⟩,
    ⟨15, none, none, .call 66 [(.loc 0), (.loc 14)], false, []⟩] true
def c133 : LCode :=
  .seq (
   .region 2 [⟨0, (some 2), none, .box 98 (.var 0), false, []⟩,
     ⟨1, (some 3), none, .asg (.const (.bool false)), false, []⟩] false) (
  .seq (
   .region 9 [⟨0, none, none, .mv (.var 1) true, false, []⟩,
     ⟨1, none, none, .nilCheck (.loc 0), false, []⟩,
     ⟨2, none, none, .fieldAddr 9 31 true (.loc 1), false, []⟩,
     ⟨3, none, none, .fieldAddr 0 21 true (.loc 2), false, []⟩,
     ⟨4, none, none, .idxAddrArr 3 7 true (.loc 3) (.const (.int .i64 0)), false, []⟩,
     ⟨5, none, none, .fieldAddr 0 2 true (.loc 4), false, []⟩,
     ⟨6, none, none, .fieldAddr 0 1 false (.loc 5), false, []⟩,
     ⟨7, none, none, .load false 1 (.loc 6) false, false, []⟩,
     ⟨8, (some 4), none, .asg (.loc 7), false, []⟩] false) (
  .seq (
   .seq (
    .region 2 [⟨0, none, none, .mv (.var 4) true, false, []⟩,
      ⟨1, (some 7), none, .bin .lss (.loc 0) (.const (.int .i64 2)), false, []⟩] false) (
   .cond (.var 7) (
    .seq (
     .region 1 [⟨0, (some 3), none, .asg (.const (.bool false)), false, []⟩] false) (
    .ret)) (
    .skip))) (
  .seq (
   .region 1 [⟨0, (some 5), none, .asg (.const (.bool false)), false, []⟩] false) (
  .seq (
   .seq (
    .region 5 [⟨0, none, none, .fieldAddr 0 3 true (.var 2), false, []⟩,
      ⟨1, none, none, .fieldAddr 1 1 false (.loc 0), false, []⟩,
      ⟨2, none, none, .load false 1 (.loc 1) false, false, []⟩,
      ⟨3, none, none, .callp 44 [(.loc 2)], false, []⟩,
      ⟨4, (some 6), none, .asg (.loc 3), false, []⟩] false) (
   .block 0 (
    .seq (
     .region 14 [⟨0, none, none, .mv (.var 6) true, false, []⟩,
       ⟨1, none, none, .bin .eql (.loc 0) (.const (.int .i64 0)), false, []⟩,
       ⟨2, none, none, .mv (.loc 1) false, false, []⟩,
       ⟨3, none, (some ((.loc 2), false)), .mv (.var 6) true, false, []⟩,
       ⟨4, none, (some ((.loc 2), false)), .bin .gtr (.loc 3) (.const (.int .i64 0)), false, []⟩,
       ⟨5, none, (some ((.loc 2), false)), .mv (.loc 4) false, false, []⟩,
       ⟨6, none, (some ((.loc 5), true)), .mv (.var 1) true, false, []⟩,
       ⟨7, none, (some ((.loc 5), true)), .nilCheck (.loc 6), false, []⟩,
       ⟨8, none, (some ((.loc 5), true)), .fieldAddr 9 31 true (.loc 7), false, []⟩,
       ⟨9, none, (some ((.loc 5), true)), .load true 31 (.loc 8) false, false, []⟩,
       ⟨10, none, (some ((.loc 5), true)), .callp 16 [(.loc 9)], false, []⟩,
       ⟨11, none, (some ((.loc 2), false)), .pick (.loc 5) (.loc 10) (.const (.bool false)), false, []⟩,
       ⟨12, none, none, .pick (.loc 2) (.const (.bool true)) (.loc 11), false, []⟩,
       ⟨13, (some 8), none, .asg (.loc 12), false, []⟩] false) (
    .cond (.var 8) (
     .region 9 [⟨0, none, none, .mv (.var 1) false, false, []⟩,
       ⟨1, none, none, .mv (.var 6) false, false, []⟩,
       ⟨2, none, none, .fieldAddr 0 3 true (.var 2), false, []⟩,
       ⟨3, none, none, .fieldAddr 2 1 false (.loc 2), false, []⟩,
       ⟨4, none, none, .load false 1 (.loc 3) false, false, []⟩,
       ⟨5, none, none, .fieldAddr 3 1 false (.var 2), false, []⟩,
       ⟨6, none, none, .load false 1 (.loc 5) false, false, []⟩,
       ⟨7, none, none, .call 135 [(.loc 0), (.loc 1), (.loc 4), (.loc 6)], false, []⟩,
       ⟨8, (some 5), none, .asg (.loc 7), false, []⟩] false) (
     .seq (
      r133_0) (
     .cond (.var 9) (
      .skip) (
      .seq (
       .region 11 [⟨0, none, none, .fieldAddr 0 3 true (.var 2), false, []⟩,
         ⟨1, none, none, .fieldAddr 1 1 false (.loc 0), false, []⟩,
         ⟨2, none, none, .load false 1 (.loc 1) true, false, []⟩,
         ⟨3, none, none, .bin .eql (.loc 2) (.const (.int .i64 49187)), false, []⟩,
         ⟨4, none, none, .mv (.loc 3) false, false, []⟩,
         ⟨5, none, (some ((.loc 4), false)), .fieldAddr 0 3 true (.var 2), false, []⟩,
         ⟨6, none, (some ((.loc 4), false)), .fieldAddr 1 1 false (.loc 5), false, []⟩,
         ⟨7, none, (some ((.loc 4), false)), .load false 1 (.loc 6) true, false, []⟩,
         ⟨8, none, (some ((.loc 4), false)), .bin .eql (.loc 7) (.const (.int .i64 49699)), false, []⟩,
         ⟨9, none, none, .pick (.loc 4) (.const (.bool true)) (.loc 8), false, []⟩,
         ⟨10, (some 10), none, .asg (.loc 9), false, []⟩] false) (
      .cond (.var 10) (
       .region 8 [⟨0, none, none, .mv (.var 1) false, false, []⟩,
         ⟨1, none, none, .fieldAddr 0 3 true (.var 2), false, []⟩,
         ⟨2, none, none, .fieldAddr 1 1 false (.loc 1), false, []⟩,
         ⟨3, none, none, .load false 1 (.loc 2) false, false, []⟩,
         ⟨4, none, none, .fieldAddr 0 3 true (.var 2), false, []⟩,
         ⟨5, none, none, .fieldAddr 2 1 false (.loc 4), false, []⟩,
         ⟨6, none, none, .load false 1 (.loc 5) false, false, []⟩,
         ⟨7, none, none, .call 136 [(.loc 0), (.loc 3), (.loc 6)], false, []⟩] false) (
       r133_1))))))))) (
  .seq (
   .region 5 [⟨0, none, none, .mv (.var 5) true, false, []⟩,
     ⟨1, none, none, .fieldAddr 3 1 false (.var 2), false, []⟩,
     ⟨2, none, none, .load false 1 (.loc 1) true, false, []⟩,
     ⟨3, none, none, .eqBool false (.loc 0) (.loc 2), false, []⟩,
     ⟨4, (some 3), none, .asg (.loc 3), false, []⟩] false) (
  .ret))))))
def l133 : LFun := ⟨2, [(some 0), (some 1), none, none, none, none, none, none, none, none, none], c133, [.var 3], .trim⟩
/-- (umpire/spec.turned).happens -/
def vm167 : List Nat := [0, 1, 2, 4, 7]
def c167 : LCode :=
  .seq (
   .region 2 [⟨0, (some 2), none, .box 100 (.var 0), false, []⟩,
     ⟨1, (some 3), none, .asg (.const (.bool false)), false, []⟩] false) (
  .seq (
   .seq (
    .region 3 [⟨0, none, none, .fieldAddr 2 1 false (.var 2), false, []⟩,
      ⟨1, none, none, .load false 1 (.loc 0) true, false, []⟩,
      ⟨2, (some 4), none, .bin .eql (.loc 1) (.const (.int .i64 0)), false, []⟩] false) (
   .cond (.var 4) (
    .region 12 [⟨0, none, none, .mv (.var 1) false, false, []⟩,
      ⟨1, none, none, .fieldAddr 1 1 false (.var 2), false, []⟩,
      ⟨2, none, none, .load false 1 (.loc 1) false, false, []⟩,
      ⟨3, none, none, .nilCheck (.loc 0), false, []⟩,
      ⟨4, none, none, .fieldAddr 9 31 true (.loc 3), false, []⟩,
      ⟨5, none, none, .fieldAddr 0 21 true (.loc 4), false, []⟩,
      ⟨6, none, none, .idxAddrArr 3 7 true (.loc 5) (.loc 2), false, []⟩,
      ⟨7, none, none, .fieldAddr 0 2 true (.loc 6), false, []⟩,
      ⟨8, none, none, .load true 2 (.loc 7) false, false, []⟩,
      ⟨9, none, none, .callp 169 [(.loc 8)], false, []⟩,
      ⟨10, none, none, .fieldAddr 2 1 false (.var 2), false, []⟩,
      ⟨11, (some 5), none, .store 1 (.loc 10) (.loc 9), false, []⟩] true) (
    .skip))) (
  .seq (
   .region 12 [⟨0, none, none, .fieldAddr 2 1 false (.var 2), false, []⟩,
     ⟨1, none, none, .load false 1 (.loc 0) true, false, []⟩,
     ⟨2, none, none, .bin .neq (.loc 1) (.const (.int .i64 0)), false, []⟩,
     ⟨3, none, none, .mv (.loc 2) false, false, []⟩,
     ⟨4, none, (some ((.loc 3), true)), .mv (.var 1) false, false, []⟩,
     ⟨5, none, (some ((.loc 3), true)), .fieldAddr 1 1 false (.var 2), false, []⟩,
     ⟨6, none, (some ((.loc 3), true)), .load false 1 (.loc 5) false, false, []⟩,
     ⟨7, none, (some ((.loc 3), true)), .fieldAddr 2 1 false (.var 2), false, []⟩,
     ⟨8, none, (some ((.loc 3), true)), .load false 1 (.loc 7) false, false, []⟩,
     ⟨9, none, (some ((.loc 3), true)), .call 52 [(.loc 4), (.loc 6), (.loc 8), (.const (.int .i64 0)), (.const (.str []))], false, []⟩,
     ⟨10, none, none, .pick (.loc 3) (.loc 9) (.const (.bool false)), false, []⟩,
     ⟨11, (some 3), none, .asg (.loc 10), false, []⟩] false) (
  .ret)))
def l167 : LFun := ⟨2, [(some 0), (some 1), none, none, none], c167, [.var 3], .trim⟩
/-- (*umpire/spec.world).spread -/
def vm43 : List Nat := [0, 1, 4, 5, 6, 18, 21]
def b43_0 : LCode :=
  .fence [4, 5, 6] (
   .seq (
    .seq (
     .region 7 [⟨0, none, none, .mv (.var 3) true, false, []⟩,
       ⟨1, none, none, .bin .lss (.loc 0) (.const (.int .i64 3)), false, []⟩,
       ⟨2, none, none, .mv (.loc 1) false, false, []⟩,
       ⟨3, none, (some ((.loc 2), true)), .mv (.var 2) true, false, []⟩,
       ⟨4, none, (some ((.loc 2), true)), .mv (.var 1) true, false, []⟩,
       ⟨5, none, (some ((.loc 2), true)), .eqBool true (.loc 3) (.loc 4), false, []⟩,
       ⟨6, (some 5), none, .pick (.loc 2) (.loc 5) (.const (.bool false)), false, []⟩] false) (
    .cond (.var 5) (
     .skip) (
     .exit 0))) (
   .seq (
    .block 1 (
     .seq (
      .region 1 [⟨0, (some 4), none, .asg (.const (.int .i64 2)), false, []⟩] false) (
     .seq (
      .seq (
       .region 1 [⟨0, (some 6), none, .mv (.var 2) false, false, []⟩] false) (
      .cond (.var 6) (
       .region 1 [⟨0, (some 4), none, .asg (.const (.int .i64 1)), false, []⟩] false) (
       .skip))) (
     .region 4 [⟨0, none, none, .mv (.var 0) false, false, []⟩,
       ⟨1, none, none, .mv (.var 3) false, false, []⟩,
       ⟨2, none, none, .mv (.var 4) false, false, []⟩,
       ⟨3, none, none, .call 52 [(.loc 0), (.loc 1), (.loc 2), (.const (.int .i64 0)), (.const (.str []))], false, []⟩] false)))) (
   .region 3 [⟨0, none, none, .mv (.var 3) true, false, []⟩,
     ⟨1, none, none, .bin .add (.loc 0) (.const (.int .i64 1)), false, []⟩,
     ⟨2, (some 3), none, .asg (.loc 1), false, []⟩] false)))
def c43 : LCode :=
  .seq (
   .region 6 [⟨0, none, none, .mv (.var 0) true, false, []⟩,
     ⟨1, none, none, .nilCheck (.loc 0), false, []⟩,
     ⟨2, none, none, .fieldAddr 9 31 true (.loc 1), false, []⟩,
     ⟨3, none, none, .load true 31 (.loc 2) false, false, []⟩,
     ⟨4, none, none, .callp 16 [(.loc 3)], false, []⟩,
     ⟨5, (some 2), none, .asg (.loc 4), false, []⟩] false) (
  .seq (
   .region 1 [⟨0, (some 3), none, .asg (.const (.int .i64 1)), false, []⟩] false) (
  .fence [0, 1, 2, 3, 4, 5, 6] (
   .block 0 (
    .loop b43_0))))
def l43 : LFun := ⟨2, [(some 0), (some 1), none, none, none, none, none], c43, [], .trim⟩
/-- slices.Index[[]int,int] -/
def vm53 : List Nat := [0, 1, 4, 5, 7, 8, 9, 16]
def b53_0 : LCode :=
  .fence [2, 3, 6, 7] (
   .seq (
    .region 1 [⟨0, (some 6), none, .bin .lss (.var 5) (.var 4), false, []⟩] false) (
   .seq (
    .cond (.var 6) (
     .skip) (
     .exit 0)) (
   .seq (
    .block 1 (
     .seq (
      .region 2 [⟨0, none, none, .mv (.var 5) false, false, []⟩,
        ⟨1, (some 3), none, .asg (.loc 0), false, []⟩] false) (
     .seq (
      .region 6 [⟨0, none, none, .mv (.var 1) true, false, []⟩,
        ⟨1, none, none, .mv (.var 0) false, false, []⟩,
        ⟨2, none, none, .mv (.var 3) false, false, []⟩,
        ⟨3, none, none, .idxAddrVs 1 (.loc 1) (.loc 2), false, []⟩,
        ⟨4, none, none, .load false 1 (.loc 3) true, false, []⟩,
        ⟨5, (some 7), none, .bin .eql (.loc 0) (.loc 4), false, []⟩] false) (
     .cond (.var 7) (
      .seq (
       .region 2 [⟨0, none, none, .mv (.var 3) false, false, []⟩,
         ⟨1, (some 2), none, .asg (.loc 0), false, []⟩] false) (
      .ret)) (
      .skip))))) (
   .region 2 [⟨0, none, none, .bin .add (.var 5) (.const (.int .i64 1)), false, []⟩,
     ⟨1, (some 5), none, .mv (.loc 0) false, false, []⟩] false))))
def c53 : LCode :=
  .seq (
   .region 1 [⟨0, (some 2), none, .asg (.const (.int .i64 0)), false, []⟩] false) (
  .seq (
   .seq (
    .region 3 [⟨0, none, none, .mv (.var 0) true, false, []⟩,
      ⟨1, (some 4), none, .len 1 (.loc 0), false, []⟩,
      ⟨2, (some 5), none, .mv (.const (.int .i64 0)) false, false, []⟩] false) (
   .fence [0, 1, 2, 3, 4, 5, 6, 7] (
    .block 0 (
     .loop b53_0)))) (
  .seq (
   .region 1 [⟨0, (some 2), none, .asg (.const (.int .i64 (-1))), false, []⟩] false) (
  .ret)))
def l53 : LFun := ⟨2, [(some 0), (some 1), none, none, none, none, none, none], c53, [.var 2], .pure⟩
/-- umpire/head.May -/
def vm54 : List Nat := [0, 2]
def r54_0 : LCode :=
  .region 21 [⟨0, none, none, .mv (.var 0) true, false, []⟩,
    ⟨1, none, none, .bin .geq (.loc 0) (.const (.int .i64 1)), false, []⟩,
    ⟨2, none, none, .mv (.loc 1) false, false, []⟩,
    ⟨3, none, (some ((.loc 2), true)), .mv (.var 0) true, false, []⟩,
    ⟨4, none, (some ((.loc 2), true)), .bin .leq (.loc 3) (.const (.int .i64 65535)), false, []⟩,
    ⟨5, none, none, .pick (.loc 2) (.loc 4) (.const (.bool false)), false, []⟩,
    ⟨6, none, none, .mv (.loc 5) false, false, []⟩,
    ⟨7, none, (some ((.loc 6), true)), .mv (.var 0) true, false, []⟩,
    ⟨8, none, (some ((.loc 6), true)), .bin .and (.loc 7) (.const (.int .i64 1)), false, []⟩,
    ⟨9, none, (some ((.loc 6), true)), .bin .eql (.loc 8) (.const (.int .i64 1)), false, []⟩,
    ⟨10, none, none, .pick (.loc 6) (.loc 9) (.const (.bool false)), false, []⟩,
    ⟨11, none, none, .mv (.loc 10) false, false, []⟩,
    ⟨12, none, (some ((.loc 11), true)), .mv (.var 0) true, false, []⟩,
    ⟨13, none, (some ((.loc 11), true)), .bin .and (.loc 12) (.const (.int .i64 256)), false, []⟩,
    ⟨14, none, (some ((.loc 11), true)), .bin .eql (.loc 13) (.const (.int .i64 0)), false, []⟩,
    ⟨15, none, none, .pick (.loc 11) (.loc 14) (.const (.bool false)), false, []⟩,
    ⟨16, none, none, .mv (.loc 15) false, false, []⟩,
    ⟨17, none, (some ((.loc 16), true)), .mv (.var 0) true, false, []⟩,
    ⟨18, none, (some ((.loc 16), true)), .bin .neq (.loc 17) (.const (.int .i64 255)), false, []⟩,
    ⟨19, none, none, .pick (.loc 16) (.loc 18) (.const (.bool false)), false, []⟩,
    ⟨20, (some 1), none, .asg (.loc 19), false, []⟩] false
def c54 : LCode :=
  .seq (
   .region 1 [⟨0, (some 1), none, .asg (.const (.bool false)), false, []⟩] false) (
  .seq (
   r54_0) (
  .ret))
def l54 : LFun := ⟨1, [(some 0), none], c54, [.var 1], .pure⟩
/-- umpire/packet.Get -/
def vm47 : List Nat := [0, 2, 3, 4, 5, 6, 9, 22, 32]
def c47 : LCode :=
  .seq (
   .region 2 [⟨0, (some 1), none, .alloc 57 [(.int .i64 0), (.int .i64 0), (.vs true .sh 0 [])], false, []⟩,
     ⟨1, (some 2), none, .asg (.const (.int .i64 0)), false, []⟩] false) (
  .seq (
   .seq (
    .region 3 [⟨0, none, none, .mv (.var 0) true, false, []⟩,
      ⟨1, none, none, .len 1 (.loc 0), false, []⟩,
      ⟨2, (some 6), none, .bin .lss (.loc 1) (.const (.int .i64 4)), false, []⟩] false) (
   .cond (.var 6) (
    .seq (
     .region 3 [⟨0, none, none, .build [(.int .i64 0), (.int .i64 0), (.vs true .sh 0 [])] [], false, []⟩,
       ⟨1, (some 9), none, .store 3 (.var 1) (.loc 0), false, []⟩,
       ⟨2, (some 2), none, .asg (.const (.int .i64 2)), false, []⟩] false) (
    .ret)) (
    .skip))) (
  .seq (
   .region 11 [⟨0, none, none, .mv (.var 0) false, false, []⟩,
     ⟨1, none, none, .idxAddrVs 1 (.loc 0) (.const (.int .i64 2)), false, []⟩,
     ⟨2, none, none, .load false 1 (.loc 1) false, false, []⟩,
     ⟨3, none, none, .cvInt .i64 (.loc 2), false, []⟩,
     ⟨4, none, none, .bin .shl (.loc 3) (.const (.int .u64 8)), false, []⟩,
     ⟨5, none, none, .mv (.var 0) false, false, []⟩,
     ⟨6, none, none, .idxAddrVs 1 (.loc 5) (.const (.int .i64 3)), false, []⟩,
     ⟨7, none, none, .load false 1 (.loc 6) false, false, []⟩,
     ⟨8, none, none, .cvInt .i64 (.loc 7), false, []⟩,
     ⟨9, none, none, .bin .or (.loc 4) (.loc 8), false, []⟩,
     ⟨10, (some 3), none, .asg (.loc 9), false, []⟩] true) (
  .seq (
   .seq (
    .region 2 [⟨0, none, none, .mv (.var 3) true, false, []⟩,
      ⟨1, (some 7), none, .bin .lss (.loc 0) (.const (.int .i64 4)), false, []⟩] false) (
   .cond (.var 7) (
    .seq (
     .region 3 [⟨0, none, none, .build [(.int .i64 0), (.int .i64 0), (.vs true .sh 0 [])] [], false, []⟩,
       ⟨1, (some 9), none, .store 3 (.var 1) (.loc 0), false, []⟩,
       ⟨2, (some 2), none, .asg (.const (.int .i64 3)), false, []⟩] false) (
    .ret)) (
    .skip))) (
  .seq (
   .region 9 [⟨0, none, none, .mv (.var 0) false, false, []⟩,
     ⟨1, none, none, .mv (.var 3) true, false, []⟩,
     ⟨2, none, none, .bin .sub (.loc 1) (.const (.int .i64 4)), false, []⟩,
     ⟨3, none, none, .callp 55 [(.loc 0), (.const (.int .i64 4)), (.loc 2)], false, []⟩,
     ⟨4, none, none, .mv (.loc 3) false, false, []⟩,
     ⟨5, none, none, .extract (.loc 4) 0, false, []⟩,
     ⟨6, none, none, .extract (.loc 4) 1, false, []⟩,
     ⟨7, (some 4), none, .asg (.loc 5), false, []⟩,
     ⟨8, (some 5), none, .asg (.loc 6), false, []⟩] false) (
  .seq (
   .seq (
    .region 2 [⟨0, none, none, .mv (.var 5) true, false, []⟩,
      ⟨1, (some 8), none, .un .not (.loc 0), false, []⟩] false) (
   .cond (.var 8) (
    .seq (
     .region 3 [⟨0, none, none, .build [(.int .i64 0), (.int .i64 0), (.vs true .sh 0 [])] [], false, []⟩,
       ⟨1, (some 9), none, .store 3 (.var 1) (.loc 0), false, []⟩,
       ⟨2, (some 2), none, .asg (.const (.int .i64 2)), false, []⟩] false) (
    .ret)) (
    .skip))) (
  .seq (
   .region 12 [⟨0, none, none, .mv (.var 0) false, false, []⟩,
     ⟨1, none, none, .idxAddrVs 1 (.loc 0) (.const (.int .i64 0)), false, []⟩,
     ⟨2, none, none, .load false 1 (.loc 1) false, false, []⟩,
     ⟨3, none, none, .cvInt .i64 (.loc 2), false, []⟩,
     ⟨4, none, none, .mv (.var 0) false, false, []⟩,
     ⟨5, none, none, .idxAddrVs 1 (.loc 4) (.const (.int .i64 1)), false, []⟩,
     ⟨6, none, none, .load false 1 (.loc 5) false, false, []⟩,
     ⟨7, none, none, .cvInt .i64 (.loc 6), false, []⟩,
     ⟨8, none, none, .mv (.var 4) false, false, []⟩,
     ⟨9, none, none, .build [(.int .i64 0), (.int .i64 0), (.vs true .sh 0 [])] [(0, 1, (.loc 3)), (1, 1, (.loc 7)), (2, 1, (.loc 8))], false, []⟩,
     ⟨10, (some 9), none, .store 3 (.var 1) (.loc 9), false, []⟩,
     ⟨11, (some 2), none, .asg (.const (.int .i64 0)), false, []⟩] true) (
  .ret)))))))
def l47 : LFun := ⟨1, [(some 0), none, none, none, none, none, none, none, none], c47, [.cell 1 3 true, .var 2], .pure⟩
/-- (*umpire/spec.world).answers -/
def vm48 : List Nat := [0, 1, 2, 4, 5, 6, 7, 8, 9, 10, 11, 12, 13, 29, 30, 74, 92, 105, 109, 127, 132, 144, 157, 185]
def r48_0 : LCode :=
  .region 38 [⟨0, none, none, .fieldAddr 0 1 false (.var 4), false, []⟩,
    ⟨1, none, none, .load false 1 (.loc 0) false, false, []⟩,
    ⟨2, none, none, .bin .neq (.loc 1) (.const (.int .i64 1)), false, []⟩,
    ⟨3, none, none, .mv (.loc 2) false, false, []⟩,
    ⟨4, none, (some ((.loc 3), false)), .mv (.var 9) false, false, []⟩,
    ⟨5, none, (some ((.loc 3), false)), .un .not (.loc 4), false, []⟩,
    ⟨6, none, none, .pick (.loc 3) (.const (.bool true)) (.loc 5), false, []⟩,
    ⟨7, none, none, .mv (.loc 6) false, false, []⟩,
    ⟨8, none, (some ((.loc 7), false)), .mv (.var 6) false, false, []⟩,
    ⟨9, none, (some ((.loc 7), false)), .nilCheck (.loc 8), false, []⟩,
    ⟨10, none, (some ((.loc 7), false)), .fieldAddr 3 1 false (.loc 9), false, []⟩,
    ⟨11, none, (some ((.loc 7), false)), .load false 1 (.loc 10) false, false, []⟩,
    ⟨12, none, (some ((.loc 7), false)), .mv (.loc 11) false, false, []⟩,
    ⟨13, none, (some ((.loc 12), true)), .mv (.var 6) false, false, []⟩,
    ⟨14, none, (some ((.loc 12), true)), .nilCheck (.loc 13), false, []⟩,
    ⟨15, none, (some ((.loc 12), true)), .fieldAddr 4 1 false (.loc 14), false, []⟩,
    ⟨16, none, (some ((.loc 12), true)), .load false 1 (.loc 15) false, false, []⟩,
    ⟨17, none, (some ((.loc 12), true)), .mv (.loc 16) false, false, []⟩,
    ⟨18, none, (some ((.loc 17), false)), .mv (.var 6) false, false, []⟩,
    ⟨19, none, (some ((.loc 17), false)), .nilCheck (.loc 18), false, []⟩,
    ⟨20, none, (some ((.loc 17), false)), .fieldAddr 6 1 false (.loc 19), false, []⟩,
    ⟨21, none, (some ((.loc 17), false)), .load false 1 (.loc 20) false, false, []⟩,
    ⟨22, none, (some ((.loc 17), false)), .fieldAddr 2 1 false (.var 4), false, []⟩,
    ⟨23, none, (some ((.loc 17), false)), .load false 1 (.loc 22) false, false, []⟩,
    ⟨24, none, (some ((.loc 17), false)), .cvStr (.loc 23), false, []⟩,
    ⟨25, none, (some ((.loc 17), false)), .bin .neq (.loc 21) (.loc 24), false, []⟩,
    ⟨26, none, (some ((.loc 12), true)), .pick (.loc 17) (.const (.bool true)) (.loc 25), false, []⟩,
    ⟨27, none, (some ((.loc 7), false)), .pick (.loc 12) (.loc 26) (.const (.bool false)), false, []⟩,
    ⟨28, none, (some ((.loc 7), false)), .mv (.loc 27) false, false, []⟩,
    ⟨29, none, (some ((.loc 28), true)), .fieldAddr 1 1 false (.var 4), false, []⟩,
    ⟨30, none, (some ((.loc 28), true)), .load false 1 (.loc 29) false, false, []⟩,
    ⟨31, none, (some ((.loc 28), true)), .mv (.var 6) false, false, []⟩,
    ⟨32, none, (some ((.loc 28), true)), .nilCheck (.loc 31), false, []⟩,
    ⟨33, none, (some ((.loc 28), true)), .fieldAddr 5 1 false (.loc 32), false, []⟩,
    ⟨34, none, (some ((.loc 28), true)), .load false 1 (.loc 33) false, false, []⟩,
    ⟨35, none, (some ((.loc 28), true)), .bin .eql (.loc 30) (.loc 34), false, []⟩,
    ⟨36, none, (some ((.loc 7), false)), .pick (.loc 28) (.loc 35) (.const (.bool false)), false, []⟩,
    ⟨37, (some 15), none, .pick (.loc 7) (.const (.bool true)) (.loc 36), false, []⟩] true
def r48_1 : LCode :=
  .region 21 [⟨0, none, none, .mv (.var 6) false, false, []⟩,
    ⟨1, none, none, .mv (.var 6) false, false, []⟩,
    ⟨2, none, none, .mv (.var 6) false, false, []⟩,
    ⟨3, none, none, .mv (.var 6) false, false, []⟩,
    ⟨4, none, none, .fieldAddr 1 1 false (.var 4), false, []⟩,
    ⟨5, none, none, .load false 1 (.loc 4) false, false, []⟩,
    ⟨6, none, none, .fieldAddr 2 1 false (.var 4), false, []⟩,
    ⟨7, none, none, .load false 1 (.loc 6) false, false, []⟩,
    ⟨8, none, none, .cvStr (.loc 7), false, []⟩,
    ⟨9, none, none, .nilCheck (.loc 0), false, []⟩,
    ⟨10, none, none, .fieldAddr 3 1 false (.loc 9), false, []⟩,
    ⟨11, (some 24), none, .store 1 (.loc 10) (.const (.bool true)), false, [((.loc 4), 1)]⟩,
    ⟨12, none, none, .nilCheck (.loc 1), false, []⟩,
    ⟨13, none, none, .fieldAddr 4 1 false (.loc 12), false, []⟩,
    ⟨14, (some 24), none, .store 1 (.loc 13) (.const (.bool false)), false, [((.loc 4), 1)]⟩,
    ⟨15, none, none, .nilCheck (.loc 2), false, []⟩,
    ⟨16, none, none, .fieldAddr 5 1 false (.loc 15), false, []⟩,
    ⟨17, (some 24), none, .store 1 (.loc 16) (.loc 5), false, []⟩,
    ⟨18, none, none, .nilCheck (.loc 3), false, []⟩,
    ⟨19, none, none, .fieldAddr 6 1 false (.loc 18), false, []⟩,
    ⟨20, (some 24), none, .store 1 (.loc 19) (.loc 8), false, []⟩] true
def r48_2 : LCode :=
  .region 21 [⟨0, none, none, .mv (.var 12) false, false, []⟩,
    ⟨1, none, none, .mv (.loc 0) false, false, []⟩,
    ⟨2, none, (some ((.loc 1), true)), .fieldAddr 0 1 false (.var 4), false, []⟩,
    ⟨3, none, (some ((.loc 1), true)), .load false 1 (.loc 2) true, false, []⟩,
    ⟨4, none, (some ((.loc 1), true)), .bin .eql (.loc 3) (.const (.int .i64 10)), false, []⟩,
    ⟨5, none, none, .pick (.loc 1) (.loc 4) (.const (.bool false)), false, []⟩,
    ⟨6, none, none, .mv (.loc 5) false, false, []⟩,
    ⟨7, none, (some ((.loc 6), true)), .fieldAddr 1 1 false (.var 4), false, []⟩,
    ⟨8, none, (some ((.loc 6), true)), .load false 1 (.loc 7) true, false, []⟩,
    ⟨9, none, (some ((.loc 6), true)), .fieldAddr 2 1 false (.var 3), false, []⟩,
    ⟨10, none, (some ((.loc 6), true)), .load false 1 (.loc 9) true, false, []⟩,
    ⟨11, none, (some ((.loc 6), true)), .bin .eql (.loc 8) (.loc 10), false, []⟩,
    ⟨12, none, none, .pick (.loc 6) (.loc 11) (.const (.bool false)), false, []⟩,
    ⟨13, none, none, .mv (.loc 12) false, false, []⟩,
    ⟨14, none, (some ((.loc 13), true)), .mv (.var 11) true, false, []⟩,
    ⟨15, none, (some ((.loc 13), true)), .cvStr (.loc 14), false, []⟩,
    ⟨16, none, (some ((.loc 13), true)), .fieldAddr 3 1 false (.var 3), false, []⟩,
    ⟨17, none, (some ((.loc 13), true)), .load false 1 (.loc 16) true, false, []⟩,
    ⟨18, none, (some ((.loc 13), true)), .bin .eql (.loc 15) (.loc 17), false, []⟩,
    ⟨19, none, none, .pick (.loc 13) (.loc 18) (.const (.bool false)), false, []⟩,
    ⟨20, (some 5), none, .asg (.loc 19), false, []⟩] false
def c48 : LCode :=
  .seq (
   .region 3 [⟨0, (some 3), none, .box 51 (.var 1), false, []⟩,
     ⟨1, (some 4), none, .box 57 (.var 2), false, []⟩,
     ⟨2, (some 5), none, .asg (.const (.bool false)), false, []⟩] false) (
  .seq (
   .region 9 [⟨0, none, none, .mv (.var 0) false, false, []⟩,
     ⟨1, none, none, .fieldAddr 1 1 false (.var 3), false, []⟩,
     ⟨2, none, none, .load false 1 (.loc 1) false, false, []⟩,
     ⟨3, none, none, .callp 44 [(.loc 2)], false, []⟩,
     ⟨4, none, none, .nilCheck (.loc 0), false, []⟩,
     ⟨5, none, none, .fieldAddr 9 31 true (.loc 4), false, []⟩,
     ⟨6, none, none, .fieldAddr 0 21 true (.loc 5), false, []⟩,
     ⟨7, none, none, .idxAddrArr 3 7 true (.loc 6) (.loc 3), false, []⟩,
     ⟨8, (some 6), none, .asg (.loc 7), false, []⟩] true) (
  .seq (
   .region 8 [⟨0, none, none, .fieldAddr 2 1 false (.var 3), false, []⟩,
     ⟨1, none, none, .load false 1 (.loc 0) false, false, []⟩,
     ⟨2, none, none, .fieldAddr 3 1 false (.var 3), false, []⟩,
     ⟨3, none, none, .load false 1 (.loc 2) true, false, []⟩,
     ⟨4, none, none, .cvBytes (.loc 3), false, []⟩,
     ⟨5, none, none, .build [(.int .i64 0), (.int .i64 0), (.vs true .sh 0 [])] [(0, 1, (.const (.int .i64 1))), (1, 1, (.loc 1)), (2, 1, (.loc 4))], false, []⟩,
     ⟨6, (some 7), none, .alloc 57 [(.int .i64 0), (.int .i64 0), (.vs true .sh 0 [])], false, []⟩,
     ⟨7, (some 24), none, .store 3 (.var 7) (.loc 5), false, []⟩] false) (
  .seq (
   .seq (
    .region 2 [⟨0, none, none, .fieldAddr 0 1 false (.var 3), false, []⟩,
      ⟨1, (some 13), none, .load false 1 (.loc 0) false, false, []⟩] false) (
   .block 0 (
    .seq (
     .region 2 [⟨0, none, none, .bin .eql (.var 13) (.const (.int .i64 1)), false, []⟩,
       ⟨1, (some 14), none, .asg (.loc 0), false, []⟩] false) (
    .cond (.var 14) (
     .seq (
      .region 7 [⟨0, none, none, .load true 3 (.var 4) false, false, []⟩,
        ⟨1, none, none, .callp 56 [(.loc 0)], false, []⟩,
        ⟨2, none, none, .mv (.loc 1) false, false, []⟩,
        ⟨3, none, none, .extract (.loc 2) 0, false, []⟩,
        ⟨4, none, none, .extract (.loc 2) 1, false, []⟩,
        ⟨5, (some 8), none, .asg (.loc 3), false, []⟩,
        ⟨6, (some 9), none, .asg (.loc 4), false, []⟩] false) (
     .seq (
      .seq (
       r48_0) (
      .cond (.var 15) (
       .seq (
        .region 1 [⟨0, (some 5), none, .asg (.const (.bool false)), false, []⟩] false) (
       .ret)) (
       .skip))) (
     r48_1))) (
     .seq (
      .region 2 [⟨0, none, none, .bin .eql (.var 13) (.const (.int .i64 2)), false, []⟩,
        ⟨1, (some 16), none, .asg (.loc 0), false, []⟩] false) (
     .cond (.var 16) (
      .seq (
       .region 9 [⟨0, none, none, .mv (.var 6) true, false, []⟩,
         ⟨1, none, none, .mv (.var 0) true, false, []⟩,
         ⟨2, none, none, .nilCheck (.loc 1), false, []⟩,
         ⟨3, none, none, .fieldAddr 0 9 true (.loc 2), false, []⟩,
         ⟨4, none, none, .fieldAddr 2 1 false (.loc 3), false, []⟩,
         ⟨5, none, none, .load false 1 (.loc 4) false, false, []⟩,
         ⟨6, none, none, .nilCheck (.loc 0), false, []⟩,
         ⟨7, none, none, .fieldAddr 2 1 false (.loc 6), false, []⟩,
         ⟨8, (some 24), none, .store 1 (.loc 7) (.loc 5), false, []⟩] false) (
      .seq (
       .region 4 [⟨0, none, none, .load true 3 (.var 7) false, false, []⟩,
         ⟨1, none, none, .load true 3 (.var 4) false, false, []⟩,
         ⟨2, none, none, .callp 57 [(.loc 0), (.loc 1)], false, []⟩,
         ⟨3, (some 5), none, .asg (.loc 2), false, []⟩] false) (
      .ret))) (
      .seq (
       .region 2 [⟨0, none, none, .bin .eql (.var 13) (.const (.int .i64 3)), false, []⟩,
         ⟨1, (some 17), none, .asg (.loc 0), false, []⟩] false) (
      .cond (.var 17) (
       .seq (
        .seq (
         .region 3 [⟨0, none, none, .load true 3 (.var 7) false, false, []⟩,
           ⟨1, none, none, .load true 3 (.var 4) false, false, []⟩,
           ⟨2, (some 18), none, .callp 58 [(.loc 0), (.loc 1)], false, []⟩] false) (
        .cond (.var 18) (
         .seq (
          .region 1 [⟨0, (some 5), none, .asg (.const (.bool true)), false, []⟩] false) (
         .ret)) (
         .skip))) (
       .seq (
        .region 8 [⟨0, none, none, .mv (.var 6) true, false, []⟩,
          ⟨1, none, none, .nilCheck (.loc 0), false, []⟩,
          ⟨2, none, none, .fieldAddr 2 1 false (.loc 1), false, []⟩,
          ⟨3, none, none, .load false 1 (.loc 2) true, false, []⟩,
          ⟨4, none, none, .bin .sub (.loc 3) (.const (.int .i64 1)), false, []⟩,
          ⟨5, none, none, .nilCheck (.loc 0), false, []⟩,
          ⟨6, none, none, .fieldAddr 2 1 false (.loc 5), false, []⟩,
          ⟨7, (some 24), none, .store 1 (.loc 6) (.loc 4), false, []⟩] false) (
       .seq (
        .region 11 [⟨0, none, none, .load true 3 (.var 7) false, false, []⟩,
          ⟨1, none, none, .load true 3 (.var 4) false, false, []⟩,
          ⟨2, none, none, .callp 59 [(.loc 0), (.loc 1)], false, []⟩,
          ⟨3, none, none, .mv (.loc 2) false, false, []⟩,
          ⟨4, none, (some ((.loc 3), true)), .mv (.var 6) true, false, []⟩,
          ⟨5, none, (some ((.loc 3), true)), .nilCheck (.loc 4), false, []⟩,
          ⟨6, none, (some ((.loc 3), true)), .fieldAddr 2 1 false (.loc 5), false, []⟩,
          ⟨7, none, (some ((.loc 3), true)), .load false 1 (.loc 6) true, false, []⟩,
          ⟨8, none, (some ((.loc 3), true)), .bin .geq (.loc 7) (.const (.int .i64 0)), false, []⟩,
          ⟨9, none, none, .pick (.loc 3) (.loc 8) (.const (.bool false)), false, []⟩,
          ⟨10, (some 5), none, .asg (.loc 9), false, []⟩] false) (
       .ret)))) (
       .seq (
        .region 2 [⟨0, none, none, .bin .eql (.var 13) (.const (.int .i64 4)), false, []⟩,
          ⟨1, (some 19), none, .asg (.loc 0), false, []⟩] false) (
       .cond (.var 19) (
        .seq (
         .region 4 [⟨0, none, none, .fieldAddr 0 1 false (.var 4), false, []⟩,
           ⟨1, none, none, .load false 1 (.loc 0) true, false, []⟩,
           ⟨2, none, none, .bin .eql (.loc 1) (.const (.int .i64 5)), false, []⟩,
           ⟨3, (some 5), none, .asg (.loc 2), false, []⟩] false) (
        .ret)) (
        .seq (
         .region 2 [⟨0, none, none, .bin .eql (.var 13) (.const (.int .i64 5)), false, []⟩,
           ⟨1, (some 20), none, .asg (.loc 0), false, []⟩] false) (
        .cond (.var 20) (
         .seq (
          .region 11 [⟨0, none, none, .fieldAddr 0 1 false (.var 4), false, []⟩,
            ⟨1, none, none, .load false 1 (.loc 0) true, false, []⟩,
            ⟨2, none, none, .bin .eql (.loc 1) (.const (.int .i64 6)), false, []⟩,
            ⟨3, none, none, .mv (.loc 2) false, false, []⟩,
            ⟨4, none, (some ((.loc 3), true)), .fieldAddr 1 1 false (.var 4), false, []⟩,
            ⟨5, none, (some ((.loc 3), true)), .load false 1 (.loc 4) true, false, []⟩,
            ⟨6, none, (some ((.loc 3), true)), .fieldAddr 2 1 false (.var 3), false, []⟩,
            ⟨7, none, (some ((.loc 3), true)), .load false 1 (.loc 6) true, false, []⟩,
            ⟨8, none, (some ((.loc 3), true)), .bin .eql (.loc 5) (.loc 7), false, []⟩,
            ⟨9, none, none, .pick (.loc 3) (.loc 8) (.const (.bool false)), false, []⟩,
            ⟨10, (some 5), none, .asg (.loc 9), false, []⟩] false) (
         .ret)) (
         .seq (
          .region 2 [⟨0, none, none, .bin .eql (.var 13) (.const (.int .i64 6)), false, []⟩,
            ⟨1, (some 21), none, .asg (.loc 0), false, []⟩] false) (
         .cond (.var 21) (
          .seq (
           .region 12 [⟨0, none, none, .fieldAddr 0 1 false (.var 4), false, []⟩,
             ⟨1, none, none, .load false 1 (.loc 0) true, false, []⟩,
             ⟨2, none, none, .bin .eql (.loc 1) (.const (.int .i64 7)), false, []⟩,
             ⟨3, none, none, .mv (.loc 2) false, false, []⟩,
             ⟨4, none, (some ((.loc 3), true)), .fieldAddr 2 1 false (.var 4), false, []⟩,
             ⟨5, none, (some ((.loc 3), true)), .load false 1 (.loc 4) true, false, []⟩,
             ⟨6, none, (some ((.loc 3), true)), .cvStr (.loc 5), false, []⟩,
             ⟨7, none, (some ((.loc 3), true)), .fieldAddr 3 1 false (.var 3), false, []⟩,
             ⟨8, none, (some ((.loc 3), true)), .load false 1 (.loc 7) true, false, []⟩,
             ⟨9, none, (some ((.loc 3), true)), .bin .eql (.loc 6) (.loc 8), false, []⟩,
             ⟨10, none, none, .pick (.loc 3) (.loc 9) (.const (.bool false)), false, []⟩,
             ⟨11, (some 5), none, .asg (.loc 10), false, []⟩] false) (
          .ret)) (
          .seq (
           .region 2 [⟨0, none, none, .bin .eql (.var 13) (.const (.int .i64 7)), false, []⟩,
             ⟨1, (some 22), none, .asg (.loc 0), false, []⟩] false) (
          .cond (.var 22) (
           .seq (
            .region 9 [⟨0, none, none, .load true 3 (.var 4) false, false, []⟩,
              ⟨1, none, none, .callp 50 [(.loc 0)], false, []⟩,
              ⟨2, none, none, .mv (.loc 1) false, false, []⟩,
              ⟨3, none, none, .extract (.loc 2) 0, false, []⟩,
              ⟨4, none, none, .extract (.loc 2) 1, false, []⟩,
              ⟨5, none, none, .extract (.loc 2) 2, false, []⟩,
              ⟨6, (some 10), none, .asg (.loc 3), false, []⟩,
              ⟨7, (some 11), none, .asg (.loc 4), false, []⟩,
              ⟨8, (some 12), none, .asg (.loc 5), false, []⟩] false) (
           .seq (
            r48_2) (
           .ret))) (
           .seq (
            .region 2 [⟨0, none, none, .bin .eql (.var 13) (.const (.int .i64 8)), false, []⟩,
              ⟨1, (some 23), none, .asg (.loc 0), false, []⟩] false) (
           .cond (.var 23) (
            .seq (
             .region 12 [⟨0, none, none, .fieldAddr 0 1 false (.var 4), false, []⟩,
               ⟨1, none, none, .load false 1 (.loc 0) true, false, []⟩,
               ⟨2, none, none, .bin .eql (.loc 1) (.const (.int .i64 8)), false, []⟩,
               ⟨3, none, none, .mv (.loc 2) false, false, []⟩,
               ⟨4, none, (some ((.loc 3), true)), .fieldAddr 2 1 false (.var 4), false, []⟩,
               ⟨5, none, (some ((.loc 3), true)), .load false 1 (.loc 4) true, false, []⟩,
               ⟨6, none, (some ((.loc 3), true)), .cvStr (.loc 5), false, []⟩,
               ⟨7, none, (some ((.loc 3), true)), .fieldAddr 3 1 false (.var 3), false, []⟩,
               ⟨8, none, (some ((.loc 3), true)), .load false 1 (.loc 7) true, false, []⟩,
               ⟨9, none, (some ((.loc 3), true)), .bin .eql (.loc 6) (.loc 8), false, []⟩,
               ⟨10, none, none, .pick (.loc 3) (.loc 9) (.const (.bool false)), false, []⟩,
               ⟨11, (some 5), none, .asg (.loc 10), false, []⟩] false) (
            .ret)) (
            .skip))))))))))))))))))) (
  .seq (
   .region 1 [⟨0, (some 5), none, .asg (.const (.bool true)), false, []⟩] false) (
  .ret)))))
def l48 : LFun := ⟨3, [(some 0), (some 1), (some 2), none, none, none, none, none, none, none, none, none, none, none, none, none, none, none, none, none, none, none, none, none], c48, [.var 5], .trim⟩
/-- umpire/auth.Answer -/
def vm49 : List Nat := [0, 1, 2, 3, 4, 5, 6, 7, 9, 10, 11, 12, 13, 14, 15, 26, 29, 30, 49, 54, 89]
def r49_0 : LCode :=
  .region 29 [⟨0, none, none, .fieldAddr 0 1 false (.var 8), false, []⟩,
    ⟨1, none, none, .load false 1 (.loc 0) true, false, []⟩,
    ⟨2, none, none, .bin .neq (.loc 1) (.const (.int .i64 2)), false, []⟩,
    ⟨3, none, none, .mv (.loc 2) false, false, []⟩,
    ⟨4, none, (some ((.loc 3), false)), .mv (.var 14) true, false, []⟩,
    ⟨5, none, (some ((.loc 3), false)), .un .not (.loc 4), false, []⟩,
    ⟨6, none, none, .pick (.loc 3) (.const (.bool true)) (.loc 5), false, []⟩,
    ⟨7, none, none, .mv (.loc 6) false, false, []⟩,
    ⟨8, none, (some ((.loc 7), false)), .mv (.var 13) true, false, []⟩,
    ⟨9, none, (some ((.loc 7), false)), .len 1 (.loc 8), false, []⟩,
    ⟨10, none, (some ((.loc 7), false)), .bin .neq (.loc 9) (.const (.int .i64 16)), false, []⟩,
    ⟨11, none, none, .pick (.loc 7) (.const (.bool true)) (.loc 10), false, []⟩,
    ⟨12, none, none, .mv (.loc 11) false, false, []⟩,
    ⟨13, none, (some ((.loc 12), false)), .fieldAddr 5 1 false (.var 5), false, []⟩,
    ⟨14, none, (some ((.loc 12), false)), .load false 1 (.loc 13) true, false, []⟩,
    ⟨15, none, (some ((.loc 12), false)), .bin .neq (.loc 14) (.const (.str [])), false, []⟩,
    ⟨16, none, (some ((.loc 12), false)), .mv (.loc 15) false, false, []⟩,
    ⟨17, none, (some ((.loc 16), true)), .fieldAddr 2 1 false (.var 7), false, []⟩,
    ⟨18, none, (some ((.loc 16), true)), .load false 1 (.loc 17) false, false, []⟩,
    ⟨19, none, (some ((.loc 16), true)), .fieldAddr 5 1 false (.var 5), false, []⟩,
    ⟨20, none, (some ((.loc 16), true)), .load false 1 (.loc 19) false, false, []⟩,
    ⟨21, none, (some ((.loc 16), true)), .fieldAddr 3 1 false (.var 7), false, []⟩,
    ⟨22, none, (some ((.loc 16), true)), .load false 1 (.loc 21) true, false, []⟩,
    ⟨23, none, (some ((.loc 16), true)), .cvBytes (.loc 22), false, []⟩,
    ⟨24, none, (some ((.loc 16), true)), .mv (.var 13) false, false, []⟩,
    ⟨25, none, (some ((.loc 16), true)), .callp 62 [(.loc 18), (.loc 20), (.loc 23), (.loc 24)], false, []⟩,
    ⟨26, none, (some ((.loc 16), true)), .un .not (.loc 25), false, []⟩,
    ⟨27, none, (some ((.loc 12), false)), .pick (.loc 16) (.loc 26) (.const (.bool false)), false, []⟩,
    ⟨28, (some 20), none, .pick (.loc 12) (.const (.bool true)) (.loc 27), false, []⟩] false
def c49 : LCode :=
  .seq (
   .region 6 [⟨0, (some 5), none, .box 24 (.var 0), false, []⟩,
     ⟨1, (some 6), none, .box 31 (.var 1), false, []⟩,
     ⟨2, (some 7), none, .box 51 (.var 2), false, []⟩,
     ⟨3, (some 8), none, .box 57 (.var 4), false, []⟩,
     ⟨4, (some 9), none, .alloc 31 [(.int .i64 0), (.int .i64 0), (.bool false), (.bool false), (.bool false), (.int .i64 0), (.str []), (.bool false), (.int .i64 0)], false, []⟩,
     ⟨5, (some 10), none, .asg (.const (.bool false)), false, []⟩] false) (
  .seq (
   .seq (
    .region 11 [⟨0, none, none, .mv (.var 3) true, false, []⟩,
      ⟨1, none, none, .fieldAddr 1 1 false (.var 7), false, []⟩,
      ⟨2, none, none, .load false 1 (.loc 1) true, false, []⟩,
      ⟨3, none, none, .bin .neq (.loc 0) (.loc 2), false, []⟩,
      ⟨4, none, none, .mv (.loc 3) false, false, []⟩,
      ⟨5, none, (some ((.loc 4), false)), .fieldAddr 1 1 false (.var 8), false, []⟩,
      ⟨6, none, (some ((.loc 4), false)), .load false 1 (.loc 5) true, false, []⟩,
      ⟨7, none, (some ((.loc 4), false)), .fieldAddr 2 1 false (.var 7), false, []⟩,
      ⟨8, none, (some ((.loc 4), false)), .load false 1 (.loc 7) true, false, []⟩,
      ⟨9, none, (some ((.loc 4), false)), .bin .neq (.loc 6) (.loc 8), false, []⟩,
      ⟨10, (some 15), none, .pick (.loc 4) (.const (.bool true)) (.loc 9), false, []⟩] false) (
   .cond (.var 15) (
    .seq (
     .region 3 [⟨0, none, none, .load true 9 (.var 6) false, false, []⟩,
       ⟨1, (some 21), none, .store 9 (.var 9) (.loc 0), false, []⟩,
       ⟨2, (some 10), none, .asg (.const (.bool false)), false, []⟩] false) (
    .ret)) (
    .skip))) (
  .seq (
   .seq (
    .region 2 [⟨0, none, none, .fieldAddr 0 1 false (.var 7), false, []⟩,
      ⟨1, (some 16), none, .load false 1 (.loc 0) false, false, []⟩] false) (
   .block 0 (
    .seq (
     .seq (
      .region 2 [⟨0, none, none, .bin .eql (.var 16) (.const (.int .i64 9)), false, []⟩,
        ⟨1, (some 17), none, .asg (.loc 0), false, []⟩] false) (
     .cond (.var 17) (
      .skip) (
      .region 2 [⟨0, none, none, .bin .eql (.var 16) (.const (.int .i64 10)), false, []⟩,
        ⟨1, (some 17), none, .asg (.loc 0), false, []⟩] false))) (
    .cond (.var 17) (
     .seq (
      .region 10 [⟨0, none, none, .load true 9 (.var 5) false, false, []⟩,
        ⟨1, none, none, .load true 9 (.var 6) false, false, []⟩,
        ⟨2, none, none, .load true 4 (.var 7) false, false, []⟩,
        ⟨3, none, none, .load true 3 (.var 8) false, false, []⟩,
        ⟨4, none, none, .callp 60 [(.loc 0), (.loc 1), (.loc 2), (.loc 3)], false, []⟩,
        ⟨5, none, none, .mv (.loc 4) false, false, []⟩,
        ⟨6, none, none, .extract (.loc 5) 0, false, []⟩,
        ⟨7, none, none, .extract (.loc 5) 1, false, []⟩,
        ⟨8, (some 11), none, .asg (.loc 6), false, []⟩,
        ⟨9, (some 12), none, .asg (.loc 7), false, []⟩] false) (
     .seq (
      .seq (
       .region 9 [⟨0, none, none, .mv (.var 12) false, false, []⟩,
         ⟨1, none, none, .mv (.loc 0) false, false, []⟩,
         ⟨2, none, (some ((.loc 1), true)), .mv (.var 11) false, false, []⟩,
         ⟨3, none, (some ((.loc 1), true)), .mv (.loc 2) false, false, []⟩,
         ⟨4, none, (some ((.loc 3), false)), .fieldAddr 0 1 false (.var 7), false, []⟩,
         ⟨5, none, (some ((.loc 3), false)), .load false 1 (.loc 4) true, false, []⟩,
         ⟨6, none, (some ((.loc 3), false)), .bin .eql (.loc 5) (.const (.int .i64 10)), false, []⟩,
         ⟨7, none, (some ((.loc 1), true)), .pick (.loc 3) (.const (.bool true)) (.loc 6), false, []⟩,
         ⟨8, (some 18), none, .pick (.loc 1) (.loc 7) (.const (.bool false)), false, []⟩] false) (
      .cond (.var 18) (
       .region 3 [⟨0, none, none, .mv (.var 11) false, false, []⟩,
         ⟨1, none, none, .fieldAddr 2 1 false (.var 6), false, []⟩,
         ⟨2, (some 21), none, .store 1 (.loc 1) (.loc 0), false, []⟩] false) (
       .skip))) (
     .seq (
      .region 4 [⟨0, none, none, .load true 9 (.var 6) false, false, []⟩,
        ⟨1, none, none, .mv (.var 12) false, false, []⟩,
        ⟨2, (some 21), none, .store 9 (.var 9) (.loc 0), false, []⟩,
        ⟨3, (some 10), none, .asg (.loc 1), false, []⟩] false) (
     .ret)))) (
     .seq (
      .region 2 [⟨0, none, none, .bin .eql (.var 16) (.const (.int .i64 11)), false, []⟩,
        ⟨1, (some 19), none, .asg (.loc 0), false, []⟩] false) (
     .cond (.var 19) (
      .seq (
       .region 7 [⟨0, none, none, .load true 3 (.var 8) false, false, []⟩,
         ⟨1, none, none, .callp 61 [(.loc 0)], false, []⟩,
         ⟨2, none, none, .mv (.loc 1) false, false, []⟩,
         ⟨3, none, none, .extract (.loc 2) 0, false, []⟩,
         ⟨4, none, none, .extract (.loc 2) 1, false, []⟩,
         ⟨5, (some 13), none, .asg (.loc 3), false, []⟩,
         ⟨6, (some 14), none, .asg (.loc 4), false, []⟩] false) (
      .seq (
       .seq (
        r49_0) (
       .cond (.var 20) (
        .seq (
         .region 3 [⟨0, none, none, .load true 9 (.var 6) false, false, []⟩,
           ⟨1, (some 21), none, .store 9 (.var 9) (.loc 0), false, []⟩,
           ⟨2, (some 10), none, .asg (.const (.bool false)), false, []⟩] false) (
        .ret)) (
        .skip))) (
      .seq (
       .region 6 [⟨0, none, none, .fieldAddr 1 1 false (.var 8), false, []⟩,
         ⟨1, none, none, .load false 1 (.loc 0) false, false, []⟩,
         ⟨2, none, none, .fieldAddr 7 1 false (.var 6), false, []⟩,
         ⟨3, (some 21), none, .store 1 (.loc 2) (.const (.bool true)), false, [((.loc 0), 1)]⟩,
         ⟨4, none, none, .fieldAddr 8 1 false (.var 6), false, []⟩,
         ⟨5, (some 21), none, .store 1 (.loc 4) (.loc 1), false, []⟩] true) (
      .seq (
       .region 3 [⟨0, none, none, .load true 9 (.var 6) false, false, []⟩,
         ⟨1, (some 21), none, .store 9 (.var 9) (.loc 0), false, []⟩,
         ⟨2, (some 10), none, .asg (.const (.bool true)), false, []⟩] false) (
      .ret))))) (
      .skip))))))) (
  .seq (
   .region 3 [⟨0, none, none, .load true 9 (.var 6) false, false, []⟩,
     ⟨1, (some 21), none, .store 9 (.var 9) (.loc 0), false, []⟩,
     ⟨2, (some 10), none, .asg (.const (.bool false)), false, []⟩] false) (
  .ret))))
def l49 : LFun := ⟨5, [(some 0), (some 1), (some 2), (some 3), (some 4), none, none, none, none, none, none, none, none, none, none, none, none, none, none, none, none], c49, [.cell 9 9 true, .var 10], .pure⟩
/-- umpire/packet.Magic -/
def vm50 : List Nat := [0, 1, 2, 3, 4, 5, 6, 7, 9, 10]
def c50 : LCode :=
  .seq (
   .region 4 [⟨0, (some 1), none, .box 57 (.var 0), false, []⟩,
     ⟨1, (some 2), none, .asg (.const (.int .u32 0)), false, []⟩,
     ⟨2, (some 3), none, .asg (.const (.vs true .sh 0 [])), false, []⟩,
     ⟨3, (some 4), none, .asg (.const (.bool false)), false, []⟩] false) (
  .seq (
   .seq (
    .region 2 [⟨0, none, none, .fieldAddr 0 1 false (.var 1), false, []⟩,
      ⟨1, (some 8), none, .load false 1 (.loc 0) false, false, []⟩] false) (
   .block 0 (
    .seq (
     .seq (
      .region 2 [⟨0, none, none, .bin .eql (.var 8) (.const (.int .i64 9)), false, []⟩,
        ⟨1, (some 9), none, .asg (.loc 0), false, []⟩] false) (
     .cond (.var 9) (
      .skip) (
      .seq (
       .region 2 [⟨0, none, none, .bin .eql (.var 8) (.const (.int .i64 10)), false, []⟩,
         ⟨1, (some 9), none, .asg (.loc 0), false, []⟩] false) (
      .cond (.var 9) (
       .skip) (
       .region 2 [⟨0, none, none, .bin .eql (.var 8) (.const (.int .i64 11)), false, []⟩,
         ⟨1, (some 9), none, .asg (.loc 0), false, []⟩] false))))) (
    .cond (.var 9) (
     .seq (
      .region 9 [⟨0, none, none, .load true 3 (.var 1) false, false, []⟩,
        ⟨1, none, none, .callp 63 [(.loc 0), (.const (.int .i64 4))], false, []⟩,
        ⟨2, none, none, .mv (.loc 1) false, false, []⟩,
        ⟨3, none, none, .extract (.loc 2) 0, false, []⟩,
        ⟨4, none, none, .extract (.loc 2) 1, false, []⟩,
        ⟨5, none, none, .extract (.loc 2) 2, false, []⟩,
        ⟨6, (some 5), none, .asg (.loc 3), false, []⟩,
        ⟨7, (some 6), none, .asg (.loc 4), false, []⟩,
        ⟨8, (some 7), none, .asg (.loc 5), false, []⟩] false) (
     .seq (
      .region 7 [⟨0, none, none, .mv (.var 5) true, false, []⟩,
        ⟨1, none, none, .cvInt .u32 (.loc 0), false, []⟩,
        ⟨2, none, none, .mv (.var 6) false, false, []⟩,
        ⟨3, none, none, .mv (.var 7) false, false, []⟩,
        ⟨4, (some 2), none, .asg (.loc 1), false, []⟩,
        ⟨5, (some 3), none, .asg (.loc 2), false, []⟩,
        ⟨6, (some 4), none, .asg (.loc 3), false, []⟩] false) (
     .ret))) (
     .skip))))) (
  .seq (
   .region 3 [⟨0, (some 2), none, .asg (.const (.int .u32 0)), false, []⟩,
     ⟨1, (some 3), none, .asg (.const (.vs true .sh 0 [])), false, []⟩,
     ⟨2, (some 4), none, .asg (.const (.bool false)), false, []⟩] false) (
  .ret)))
def l50 : LFun := ⟨1, [(some 0), none, none, none, none, none, none, none, none, none], c50, [.var 2, .var 3, .var 4], .pure⟩
/-- umpire/auth.Begin -/
def vm51 : List Nat := [0, 1, 2, 3, 5, 6, 7, 8, 9, 13, 14, 28, 34, 47]
def c51 : LCode :=
  .seq (
   .region 4 [⟨0, (some 3), none, .box 31 (.var 0), false, []⟩,
     ⟨1, (some 4), none, .box 57 (.var 2), false, []⟩,
     ⟨2, (some 5), none, .alloc 31 [(.int .i64 0), (.int .i64 0), (.bool false), (.bool false), (.bool false), (.int .i64 0), (.str []), (.bool false), (.int .i64 0)], false, []⟩,
     ⟨3, (some 6), none, .asg (.const (.bool false)), false, []⟩] false) (
  .seq (
   .seq (
    .region 4 [⟨0, none, none, .mv (.var 1) false, false, []⟩,
      ⟨1, none, none, .fieldAddr 0 1 false (.var 4), false, []⟩,
      ⟨2, none, none, .load false 1 (.loc 1) false, false, []⟩,
      ⟨3, (some 9), none, .build [(.int .i64 0), (.int .i64 0)] [(0, 1, (.loc 0)), (1, 1, (.loc 2))], false, []⟩] false) (
   .block 0 (
    .seq (
     .region 3 [⟨0, none, none, .build [(.int .i64 0), (.int .i64 0)] [(0, 1, (.const (.int .i64 49187))), (1, 1, (.const (.int .i64 1)))], false, []⟩,
       ⟨1, none, none, .eqAgg false [(.i .i64), (.i .i64)] (.var 9) (.loc 0), false, []⟩,
       ⟨2, (some 10), none, .asg (.loc 1), false, []⟩] false) (
    .cond (.var 10) (
     .seq (
      .region 12 [⟨0, none, none, .fieldAddr 1 1 false (.var 3), false, []⟩,
        ⟨1, none, none, .load false 1 (.loc 0) true, false, []⟩,
        ⟨2, none, none, .bin .eql (.loc 1) (.const (.int .i64 49187)), false, []⟩,
        ⟨3, none, none, .mv (.loc 2) false, false, []⟩,
        ⟨4, none, (some ((.loc 3), true)), .fieldAddr 3 1 false (.var 3), false, []⟩,
        ⟨5, none, (some ((.loc 3), true)), .load false 1 (.loc 4) true, false, []⟩,
        ⟨6, none, (some ((.loc 3), true)), .un .not (.loc 5), false, []⟩,
        ⟨7, none, none, .pick (.loc 3) (.loc 6) (.const (.bool false)), false, []⟩,
        ⟨8, none, none, .mv (.loc 7) false, false, []⟩,
        ⟨9, none, (some ((.loc 8), true)), .load true 3 (.var 4) false, false, []⟩,
        ⟨10, none, (some ((.loc 8), true)), .callp 64 [(.loc 9)], false, []⟩,
        ⟨11, (some 11), none, .pick (.loc 8) (.loc 10) (.const (.bool false)), false, []⟩] false) (
     .cond (.var 11) (
      .seq (
       .region 6 [⟨0, none, none, .fieldAddr 1 1 false (.var 4), false, []⟩,
         ⟨1, none, none, .load false 1 (.loc 0) false, false, []⟩,
         ⟨2, none, none, .fieldAddr 7 1 false (.var 3), false, []⟩,
         ⟨3, (some 14), none, .store 1 (.loc 2) (.const (.bool true)), false, [((.loc 0), 1)]⟩,
         ⟨4, none, none, .fieldAddr 8 1 false (.var 3), false, []⟩,
         ⟨5, (some 14), none, .store 1 (.loc 4) (.loc 1), false, []⟩] true) (
      .seq (
       .region 3 [⟨0, none, none, .load true 9 (.var 3) false, false, []⟩,
         ⟨1, (some 14), none, .store 9 (.var 5) (.loc 0), false, []⟩,
         ⟨2, (some 6), none, .asg (.const (.bool true)), false, []⟩] false) (
      .ret))) (
      .skip))) (
     .seq (
      .region 3 [⟨0, none, none, .build [(.int .i64 0), (.int .i64 0)] [(0, 1, (.const (.int .i64 49699))), (1, 1, (.const (.int .i64 1)))], false, []⟩,
        ⟨1, none, none, .eqAgg false [(.i .i64), (.i .i64)] (.var 9) (.loc 0), false, []⟩,
        ⟨2, (some 12), none, .asg (.loc 1), false, []⟩] false) (
     .cond (.var 12) (
      .seq (
       .region 7 [⟨0, none, none, .load true 3 (.var 4) false, false, []⟩,
         ⟨1, none, none, .callp 61 [(.loc 0)], false, []⟩,
         ⟨2, none, none, .mv (.loc 1) false, false, []⟩,
         ⟨3, none, none, .extract (.loc 2) 0, false, []⟩,
         ⟨4, none, none, .extract (.loc 2) 1, false, []⟩,
         ⟨5, (some 7), none, .asg (.loc 3), false, []⟩,
         ⟨6, (some 8), none, .asg (.loc 4), false, []⟩] false) (
      .seq (
       .region 6 [⟨0, none, none, .mv (.var 8) false, false, []⟩,
         ⟨1, none, none, .mv (.loc 0) false, false, []⟩,
         ⟨2, none, (some ((.loc 1), true)), .fieldAddr 0 1 false (.var 3), false, []⟩,
         ⟨3, none, (some ((.loc 1), true)), .load false 1 (.loc 2) true, false, []⟩,
         ⟨4, none, (some ((.loc 1), true)), .bin .eql (.loc 3) (.const (.int .i64 49699)), false, []⟩,
         ⟨5, (some 13), none, .pick (.loc 1) (.loc 4) (.const (.bool false)), false, []⟩] false) (
      .cond (.var 13) (
       .seq (
        .region 10 [⟨0, none, none, .fieldAddr 1 1 false (.var 4), false, []⟩,
          ⟨1, none, none, .load false 1 (.loc 0) false, false, []⟩,
          ⟨2, none, none, .mv (.var 7) false, false, []⟩,
          ⟨3, none, none, .cvStr (.loc 2), false, []⟩,
          ⟨4, none, none, .fieldAddr 4 1 false (.var 3), false, []⟩,
          ⟨5, (some 14), none, .store 1 (.loc 4) (.const (.bool true)), false, [((.loc 0), 1)]⟩,
          ⟨6, none, none, .fieldAddr 5 1 false (.var 3), false, []⟩,
          ⟨7, (some 14), none, .store 1 (.loc 6) (.loc 1), false, []⟩,
          ⟨8, none, none, .fieldAddr 6 1 false (.var 3), false, []⟩,
          ⟨9, (some 14), none, .store 1 (.loc 8) (.loc 3), false, []⟩] true) (
       .seq (
        .region 3 [⟨0, none, none, .load true 9 (.var 3) false, false, []⟩,
          ⟨1, (some 14), none, .store 9 (.var 5) (.loc 0), false, []⟩,
          ⟨2, (some 6), none, .asg (.const (.bool true)), false, []⟩] false) (
       .ret))) (
       .skip)))) (
      .skip))))))) (
  .seq (
   .region 3 [⟨0, none, none, .load true 9 (.var 3) false, false, []⟩,
     ⟨1, (some 14), none, .store 9 (.var 5) (.loc 0), false, []⟩,
     ⟨2, (some 6), none, .asg (.const (.bool false)), false, []⟩] false) (
  .ret)))
def l51 : LFun := ⟨3, [(some 0), (some 1), (some 2), none, none, none, none, none, none, none, none, none, none, none], c51, [.cell 5 9 true, .var 6], .pure⟩
/-- (*umpire/spec.world).comes -/
def vm135 : List Nat := [0, 1, 2, 3, 8, 9, 10, 11, 12, 13, 14, 21, 40, 60, 73, 82, 91, 101, 124, 133, 144]
def r135_0 : LCode :=
  .region 18 [⟨0, none, none, .fieldAddr 0 1 false (.var 5), false, []⟩,
    ⟨1, none, none, .load false 1 (.loc 0) true, false, []⟩,
    ⟨2, none, none, .bin .eql (.loc 1) (.const (.int .i64 7)), false, []⟩,
    ⟨3, none, none, .mv (.loc 2) false, false, []⟩,
    ⟨4, none, (some ((.loc 3), true)), .fieldAddr 2 1 false (.var 5), false, []⟩,
    ⟨5, none, (some ((.loc 3), true)), .load false 1 (.loc 4) false, false, []⟩,
    ⟨6, none, (some ((.loc 3), true)), .idxAddrVs 1 (.loc 5) (.const (.int .i64 0)), false, []⟩,
    ⟨7, none, (some ((.loc 3), true)), .load false 1 (.loc 6) true, false, []⟩,
    ⟨8, none, (some ((.loc 3), true)), .bin .geq (.loc 7) (.const (.int .u8 1)), false, []⟩,
    ⟨9, none, none, .pick (.loc 3) (.loc 8) (.const (.bool false)), false, []⟩,
    ⟨10, none, none, .mv (.loc 9) false, false, []⟩,
    ⟨11, none, (some ((.loc 10), true)), .fieldAddr 2 1 false (.var 5), false, []⟩,
    ⟨12, none, (some ((.loc 10), true)), .load false 1 (.loc 11) false, false, []⟩,
    ⟨13, none, (some ((.loc 10), true)), .idxAddrVs 1 (.loc 12) (.const (.int .i64 0)), false, []⟩,
    ⟨14, none, (some ((.loc 10), true)), .load false 1 (.loc 13) true, false, []⟩,
    ⟨15, none, (some ((.loc 10), true)), .bin .leq (.loc 14) (.const (.int .u8 7)), false, []⟩,
    ⟨16, none, none, .pick (.loc 10) (.loc 15) (.const (.bool false)), false, []⟩,
    ⟨17, (some 17), none, .asg (.loc 16), false, []⟩] false
def c135 : LCode :=
  .seq (
   .region 1 [⟨0, (some 4), none, .asg (.const (.bool false)), false, []⟩] false) (
  .seq (
   .region 8 [⟨0, none, none, .mv (.var 2) false, false, []⟩,
     ⟨1, none, none, .callp 47 [(.loc 0)], false, []⟩,
     ⟨2, none, none, .mv (.loc 1) false, false, []⟩,
     ⟨3, none, none, .extract (.loc 2) 0, false, []⟩,
     ⟨4, none, none, .extract (.loc 2) 1, false, []⟩,
     ⟨5, (some 5), none, .alloc 57 [(.int .i64 0), (.int .i64 0), (.vs true .sh 0 [])], false, []⟩,
     ⟨6, (some 21), none, .store 3 (.var 5) (.loc 3), false, []⟩,
     ⟨7, (some 6), none, .asg (.loc 4), false, []⟩] false) (
  .seq (
   .seq (
    .region 2 [⟨0, none, none, .mv (.var 6) true, false, []⟩,
      ⟨1, (some 11), none, .bin .neq (.loc 0) (.const (.int .i64 0)), false, []⟩] false) (
   .cond (.var 11) (
    .seq (
     .region 1 [⟨0, (some 4), none, .asg (.const (.bool false)), false, []⟩] false) (
    .ret)) (
    .skip))) (
  .seq (
   .block 0 (
    .seq (
     .region 4 [⟨0, none, none, .fieldAddr 0 1 false (.var 5), false, []⟩,
       ⟨1, none, none, .load false 1 (.loc 0) true, false, []⟩,
       ⟨2, none, none, .bin .eql (.loc 1) (.const (.int .i64 1)), false, []⟩,
       ⟨3, (some 12), none, .asg (.loc 2), false, []⟩] false) (
    .cond (.var 12) (
     .seq (
      .region 7 [⟨0, none, none, .load true 3 (.var 5) false, false, []⟩,
        ⟨1, none, none, .callp 56 [(.loc 0)], false, []⟩,
        ⟨2, none, none, .mv (.loc 1) false, false, []⟩,
        ⟨3, none, none, .extract (.loc 2) 0, false, []⟩,
        ⟨4, none, none, .extract (.loc 2) 1, false, []⟩,
        ⟨5, (some 7), none, .asg (.loc 3), false, []⟩,
        ⟨6, (some 8), none, .asg (.loc 4), false, []⟩] false) (
     .seq (
      .region 12 [⟨0, none, none, .mv (.var 8) false, false, []⟩,
        ⟨1, none, none, .mv (.loc 0) false, false, []⟩,
        ⟨2, none, (some ((.loc 1), true)), .mv (.var 0) false, false, []⟩,
        ⟨3, none, (some ((.loc 1), true)), .mv (.var 1) false, false, []⟩,
        ⟨4, none, (some ((.loc 1), true)), .load true 3 (.var 5) false, false, []⟩,
        ⟨5, none, (some ((.loc 1), true)), .mv (.var 3) false, false, []⟩,
        ⟨6, none, (some ((.loc 1), true)), .call 138 [(.loc 2), (.loc 3), (.loc 4), (.loc 5)], false, []⟩,
        ⟨7, none, none, .pick (.loc 1) (.loc 6) (.const (.bool false)), false, []⟩,
        ⟨8, none, none, .mv (.loc 7) false, false, []⟩,
        ⟨9, none, (some ((.loc 8), true)), .mv (.var 3) false, false, []⟩,
        ⟨10, none, none, .pick (.loc 8) (.loc 9) (.const (.bool false)), false, []⟩,
        ⟨11, (some 4), none, .asg (.loc 10), false, []⟩] false) (
     .ret))) (
     .seq (
      .region 9 [⟨0, none, none, .fieldAddr 0 1 false (.var 5), false, []⟩,
        ⟨1, none, none, .load false 1 (.loc 0) true, false, []⟩,
        ⟨2, none, none, .bin .geq (.loc 1) (.const (.int .i64 2)), false, []⟩,
        ⟨3, none, none, .mv (.loc 2) false, false, []⟩,
        ⟨4, none, (some ((.loc 3), true)), .fieldAddr 0 1 false (.var 5), false, []⟩,
        ⟨5, none, (some ((.loc 3), true)), .load false 1 (.loc 4) true, false, []⟩,
        ⟨6, none, (some ((.loc 3), true)), .bin .leq (.loc 5) (.const (.int .i64 4)), false, []⟩,
        ⟨7, none, none, .pick (.loc 3) (.loc 6) (.const (.bool false)), false, []⟩,
        ⟨8, (some 13), none, .asg (.loc 7), false, []⟩] false) (
     .cond (.var 13) (
      .region 4 [⟨0, none, none, .mv (.var 0) false, false, []⟩,
        ⟨1, none, none, .mv (.var 1) false, false, []⟩,
        ⟨2, none, none, .load true 3 (.var 5) false, false, []⟩,
        ⟨3, none, none, .call 139 [(.loc 0), (.loc 1), (.loc 2)], false, []⟩] false) (
      .seq (
       .region 4 [⟨0, none, none, .fieldAddr 0 1 false (.var 5), false, []⟩,
         ⟨1, none, none, .load false 1 (.loc 0) true, false, []⟩,
         ⟨2, none, none, .bin .eql (.loc 1) (.const (.int .i64 5)), false, []⟩,
         ⟨3, (some 14), none, .asg (.loc 2), false, []⟩] false) (
      .cond (.var 14) (
       .region 5 [⟨0, none, none, .mv (.var 0) false, false, []⟩,
         ⟨1, none, none, .mv (.var 1) false, false, []⟩,
         ⟨2, none, none, .fieldAddr 1 1 false (.var 5), false, []⟩,
         ⟨3, none, none, .load false 1 (.loc 2) false, false, []⟩,
         ⟨4, none, none, .call 52 [(.loc 0), (.loc 1), (.const (.int .i64 11)), (.loc 3), (.const (.str []))], false, []⟩] false) (
       .seq (
        .region 4 [⟨0, none, none, .fieldAddr 0 1 false (.var 5), false, []⟩,
          ⟨1, none, none, .load false 1 (.loc 0) true, false, []⟩,
          ⟨2, none, none, .bin .eql (.loc 1) (.const (.int .i64 6)), false, []⟩,
          ⟨3, (some 15), none, .asg (.loc 2), false, []⟩] false) (
       .cond (.var 15) (
        .region 5 [⟨0, none, none, .mv (.var 0) false, false, []⟩,
          ⟨1, none, none, .mv (.var 1) false, false, []⟩,
          ⟨2, none, none, .fieldAddr 1 1 false (.var 5), false, []⟩,
          ⟨3, none, none, .load false 1 (.loc 2) false, false, []⟩,
          ⟨4, none, none, .call 52 [(.loc 0), (.loc 1), (.const (.int .i64 12)), (.loc 3), (.const (.str []))], false, []⟩] false) (
        .seq (
         .region 10 [⟨0, none, none, .fieldAddr 0 1 false (.var 5), false, []⟩,
           ⟨1, none, none, .load false 1 (.loc 0) true, false, []⟩,
           ⟨2, none, none, .bin .eql (.loc 1) (.const (.int .i64 7)), false, []⟩,
           ⟨3, none, none, .mv (.loc 2) false, false, []⟩,
           ⟨4, none, (some ((.loc 3), true)), .fieldAddr 2 1 false (.var 5), false, []⟩,
           ⟨5, none, (some ((.loc 3), true)), .load false 1 (.loc 4) true, false, []⟩,
           ⟨6, none, (some ((.loc 3), true)), .len 1 (.loc 5), false, []⟩,
           ⟨7, none, (some ((.loc 3), true)), .bin .lss (.loc 6) (.const (.int .i64 4)), false, []⟩,
           ⟨8, none, none, .pick (.loc 3) (.loc 7) (.const (.bool false)), false, []⟩,
           ⟨9, (some 16), none, .asg (.loc 8), false, []⟩] false) (
        .cond (.var 16) (
         .skip) (
         .seq (
          r135_0) (
         .cond (.var 17) (
          .region 5 [⟨0, none, none, .mv (.var 0) false, false, []⟩,
            ⟨1, none, none, .mv (.var 1) false, false, []⟩,
            ⟨2, none, none, .fieldAddr 1 1 false (.var 5), false, []⟩,
            ⟨3, none, none, .load false 1 (.loc 2) false, false, []⟩,
            ⟨4, none, none, .call 52 [(.loc 0), (.loc 1), (.const (.int .i64 15)), (.loc 3), (.const (.str []))], false, []⟩] false) (
          .seq (
           .region 4 [⟨0, none, none, .fieldAddr 0 1 false (.var 5), false, []⟩,
             ⟨1, none, none, .load false 1 (.loc 0) true, false, []⟩,
             ⟨2, none, none, .bin .eql (.loc 1) (.const (.int .i64 7)), false, []⟩,
             ⟨3, (some 18), none, .asg (.loc 2), false, []⟩] false) (
          .cond (.var 18) (
           .region 5 [⟨0, none, none, .mv (.var 0) false, false, []⟩,
             ⟨1, none, none, .mv (.var 1) false, false, []⟩,
             ⟨2, none, none, .fieldAddr 1 1 false (.var 5), false, []⟩,
             ⟨3, none, none, .load false 1 (.loc 2) false, false, []⟩,
             ⟨4, none, none, .call 52 [(.loc 0), (.loc 1), (.const (.int .i64 14)), (.loc 3), (.const (.str []))], false, []⟩] false) (
           .seq (
            .region 8 [⟨0, none, none, .mv (.var 1) true, false, []⟩,
              ⟨1, none, none, .bin .eql (.loc 0) (.const (.int .i64 0)), false, []⟩,
              ⟨2, none, none, .mv (.loc 1) false, false, []⟩,
              ⟨3, none, (some ((.loc 2), true)), .fieldAddr 0 1 false (.var 5), false, []⟩,
              ⟨4, none, (some ((.loc 2), true)), .load false 1 (.loc 3) true, false, []⟩,
              ⟨5, none, (some ((.loc 2), true)), .bin .eql (.loc 4) (.const (.int .i64 8)), false, []⟩,
              ⟨6, none, none, .pick (.loc 2) (.loc 5) (.const (.bool false)), false, []⟩,
              ⟨7, (some 19), none, .asg (.loc 6), false, []⟩] false) (
           .cond (.var 19) (
            .region 3 [⟨0, none, none, .mv (.var 0) false, false, []⟩,
              ⟨1, none, none, .load true 3 (.var 5) false, false, []⟩,
              ⟨2, none, none, .call 140 [(.loc 0), (.loc 1)], false, []⟩] false) (
            .seq (
             .region 13 [⟨0, none, none, .mv (.var 1) true, false, []⟩,
               ⟨1, none, none, .bin .eql (.loc 0) (.const (.int .i64 0)), false, []⟩,
               ⟨2, none, none, .mv (.loc 1) false, false, []⟩,
               ⟨3, none, (some ((.loc 2), true)), .fieldAddr 0 1 false (.var 5), false, []⟩,
               ⟨4, none, (some ((.loc 2), true)), .load false 1 (.loc 3) true, false, []⟩,
               ⟨5, none, (some ((.loc 2), true)), .bin .geq (.loc 4) (.const (.int .i64 9)), false, []⟩,
               ⟨6, none, none, .pick (.loc 2) (.loc 5) (.const (.bool false)), false, []⟩,
               ⟨7, none, none, .mv (.loc 6) false, false, []⟩,
               ⟨8, none, (some ((.loc 7), true)), .fieldAddr 0 1 false (.var 5), false, []⟩,
               ⟨9, none, (some ((.loc 7), true)), .load false 1 (.loc 8) true, false, []⟩,
               ⟨10, none, (some ((.loc 7), true)), .bin .leq (.loc 9) (.const (.int .i64 11)), false, []⟩,
               ⟨11, none, none, .pick (.loc 7) (.loc 10) (.const (.bool false)), false, []⟩,
               ⟨12, (some 20), none, .asg (.loc 11), false, []⟩] false) (
            .cond (.var 20) (
             .region 3 [⟨0, none, none, .mv (.var 0) false, false, []⟩,
               ⟨1, none, none, .load true 3 (.var 5) false, false, []⟩,
               ⟨2, none, none, .call 141 [(.loc 0), (.loc 1)], false, []⟩] false) (
             .seq (
              .region 7 [⟨0, none, none, .load true 3 (.var 5) false, false, []⟩,
                ⟨1, none, none, .callp 142 [(.loc 0)], false, []⟩,
                ⟨2, none, none, .mv (.loc 1) false, false, []⟩,
                ⟨3, none, none, .extract (.loc 2) 0, false, []⟩,
                ⟨4, none, none, .extract (.loc 2) 1, false, []⟩,
                ⟨5, (some 9), none, .asg (.loc 3), false, []⟩,
                ⟨6, (some 10), none, .asg (.loc 4), false, []⟩] false) (
             .region 13 [⟨0, none, none, .mv (.var 0) false, false, []⟩,
               ⟨1, none, none, .mv (.var 1) false, false, []⟩,
               ⟨2, none, none, .fieldAddr 1 1 false (.var 5), false, []⟩,
               ⟨3, none, none, .load false 1 (.loc 2) false, false, []⟩,
               ⟨4, none, none, .mv (.var 9) false, false, []⟩,
               ⟨5, none, none, .mv (.var 0) false, false, []⟩,
               ⟨6, none, none, .nilCheck (.loc 5), false, []⟩,
               ⟨7, none, none, .fieldAddr 0 9 true (.loc 6), false, []⟩,
               ⟨8, none, none, .fieldAddr 3 1 false (.loc 7), false, []⟩,
               ⟨9, none, none, .load false 1 (.loc 8) false, false, []⟩,
               ⟨10, none, none, .callp 143 [(.loc 4), (.loc 9)], false, []⟩,
               ⟨11, none, none, .cvStr (.loc 10), false, []⟩,
               ⟨12, none, none, .call 52 [(.loc 0), (.loc 1), (.const (.int .i64 13)), (.loc 3), (.loc 11)], false, []⟩] true))))))))))))))))))))) (
  .seq (
   .region 1 [⟨0, (some 4), none, .asg (.const (.bool false)), false, []⟩] false) (
  .ret)))))
def l135 : LFun := ⟨4, [(some 0), (some 1), (some 2), (some 3), none, none, none, none, none, none, none, none, none, none, none, none, none, none, none, none, none], c135, [.var 4], .trim⟩
end D
end Go.Proofs.YtpfnlpakcldobaaGreat
