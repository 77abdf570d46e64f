/- The interpreter's texts of this seat's functions, part B. -/
import Derived.Test.YtpfnlpakcldobaaGreatDumpA
set_option linter.unusedVariables false
namespace Go.Proofs.YtpfnlpakcldobaaGreat
open Go Go.L
namespace D
/-- (*umpire/spec.world).login -/
def vm136 : List Nat := [0, 1, 2, 6, 7, 8, 9, 16]
def c136 : LCode :=
  .seq (
   .region 8 [⟨0, none, none, .mv (.var 2) false, false, []⟩,
     ⟨1, none, none, .callp 47 [(.loc 0)], false, []⟩,
     ⟨2, none, none, .mv (.loc 1) false, false, []⟩,
     ⟨3, none, none, .extract (.loc 2) 0, false, []⟩,
     ⟨4, none, none, .extract (.loc 2) 1, false, []⟩,
     ⟨5, (some 3), none, .alloc 57 [(.int .i64 0), (.int .i64 0), (.vs true .sh 0 [])], false, []⟩,
     ⟨6, (some 8), none, .store 3 (.var 3) (.loc 3), false, []⟩,
     ⟨7, (some 4), none, .asg (.loc 4), false, []⟩] false) (
  .seq (
   .seq (
    .region 2 [⟨0, none, none, .mv (.var 4) true, false, []⟩,
      ⟨1, (some 7), none, .bin .neq (.loc 0) (.const (.int .i64 0)), false, []⟩] false) (
   .cond (.var 7) (
    .ret) (
    .skip))) (
  .seq (
   .region 14 [⟨0, none, none, .mv (.var 0) false, false, []⟩,
     ⟨1, none, none, .nilCheck (.loc 0), false, []⟩,
     ⟨2, none, none, .fieldAddr 9 31 true (.loc 1), false, []⟩,
     ⟨3, none, none, .fieldAddr 21 9 true (.loc 2), false, []⟩,
     ⟨4, none, none, .load true 9 (.loc 3) false, false, []⟩,
     ⟨5, none, none, .mv (.var 1) false, false, []⟩,
     ⟨6, none, none, .load true 3 (.var 3) false, false, []⟩,
     ⟨7, none, none, .callp 144 [(.loc 4), (.loc 5), (.loc 6)], false, []⟩,
     ⟨8, none, none, .mv (.loc 7) false, false, []⟩,
     ⟨9, none, none, .extract (.loc 8) 0, false, []⟩,
     ⟨10, none, none, .extract (.loc 8) 1, false, []⟩,
     ⟨11, (some 5), none, .alloc 31 [(.int .i64 0), (.int .i64 0), (.bool false), (.bool false), (.bool false), (.int .i64 0), (.str []), (.bool false), (.int .i64 0)], false, []⟩,
     ⟨12, (some 8), none, .store 9 (.var 5) (.loc 9), false, []⟩,
     ⟨13, (some 6), none, .asg (.loc 10), false, []⟩] true) (
  .seq (
   .region 6 [⟨0, none, none, .mv (.var 0) true, false, []⟩,
     ⟨1, none, none, .load true 9 (.var 5) false, false, []⟩,
     ⟨2, none, none, .nilCheck (.loc 0), false, []⟩,
     ⟨3, none, none, .fieldAddr 9 31 true (.loc 2), false, []⟩,
     ⟨4, none, none, .fieldAddr 21 9 true (.loc 3), false, []⟩,
     ⟨5, (some 8), none, .store 9 (.loc 4) (.loc 1), false, []⟩] false) (
  .region 12 [⟨0, none, none, .mv (.var 0) true, false, []⟩,
    ⟨1, none, none, .mv (.var 0) true, false, []⟩,
    ⟨2, none, none, .nilCheck (.loc 1), false, []⟩,
    ⟨3, none, none, .fieldAddr 9 31 true (.loc 2), false, []⟩,
    ⟨4, none, none, .fieldAddr 30 1 false (.loc 3), false, []⟩,
    ⟨5, none, none, .load false 1 (.loc 4) true, false, []⟩,
    ⟨6, none, none, .mv (.var 6) true, false, []⟩,
    ⟨7, none, none, .append 51 4 40 (.loc 5) (.loc 6), false, []⟩,
    ⟨8, none, none, .nilCheck (.loc 0), false, []⟩,
    ⟨9, none, none, .fieldAddr 9 31 true (.loc 8), false, []⟩,
    ⟨10, none, none, .fieldAddr 30 1 false (.loc 9), false, []⟩,
    ⟨11, (some 8), none, .store 1 (.loc 10) (.loc 7), false, []⟩] false))))
def l136 : LFun := ⟨3, [(some 0), (some 1), (some 2), none, none, none, none, none], c136, [], .trim⟩
/-- umpire/reply.ProtoReject -/
def vm137 : List Nat := [0, 1, 2, 6, 7, 8]
def c137 : LCode :=
  .seq (
   .region 1 [⟨0, (some 3), none, .asg (.const (.vs true .sh 0 [])), false, []⟩] false) (
  .seq (
   .region 8 [⟨0, none, none, .mv (.var 0) true, false, []⟩,
     ⟨1, none, none, .cvInt .u64 (.loc 0), false, []⟩,
     ⟨2, none, none, .callp 145 [(.loc 1), (.const (.int .i64 2)), (.const (.bool true))], false, []⟩,
     ⟨3, none, none, .mv (.loc 2) false, false, []⟩,
     ⟨4, none, none, .extract (.loc 3) 0, false, []⟩,
     ⟨5, none, none, .extract (.loc 3) 1, false, []⟩,
     ⟨6, (some 4), none, .asg (.loc 4), false, []⟩,
     ⟨7, (some 5), none, .asg (.loc 5), false, []⟩] false) (
  .seq (
   .region 9 [⟨0, none, none, .mv (.var 4) true, false, []⟩,
     ⟨1, none, none, .mv (.var 1) false, false, []⟩,
     ⟨2, none, none, .mv (.var 2) false, false, []⟩,
     ⟨3, none, none, .callp 147 [(.loc 2)], false, []⟩,
     ⟨4, none, none, .bin .sub (.loc 3) (.const (.int .i64 4)), false, []⟩,
     ⟨5, none, none, .bin .sub (.loc 4) (.const (.int .i64 2)), false, []⟩,
     ⟨6, none, none, .callp 146 [(.loc 1), (.loc 5)], false, []⟩,
     ⟨7, none, none, .append 5 1 1 (.loc 0) (.loc 6), false, []⟩,
     ⟨8, (some 3), none, .asg (.loc 7), false, []⟩] false) (
  .ret)))
def l137 : LFun := ⟨3, [(some 0), (some 1), (some 2), none, none, none], c137, [.var 3], .pure⟩
/-- (*umpire/spec.world).owes -/
def vm66 : List Nat := [0, 1, 3]
def c66 : LCode :=
  .seq (
   .region 1 [⟨0, (some 2), none, .box 51 (.var 1), false, []⟩] false) (
  .region 13 [⟨0, none, none, .mv (.var 0) false, true, []⟩,
    ⟨1, none, none, .mv (.var 0) false, false, []⟩,
    ⟨2, none, none, .nilCheck (.loc 1), false, []⟩,
    ⟨3, none, none, .fieldAddr 9 31 true (.loc 2), false, []⟩,
    ⟨4, none, none, .fieldAddr 30 1 false (.loc 3), false, []⟩,
    ⟨5, none, none, .load false 1 (.loc 4) true, false, []⟩,
    ⟨6, none, none, .load true 4 (.var 2) false, false, []⟩,
    ⟨7, none, none, .mkslice (.agg [(.int .i64 0), (.int .i64 0), (.int .i64 0), (.str [])]) 4 1 [(0, (.loc 6))], false, []⟩,
    ⟨8, none, none, .append 51 4 40 (.loc 5) (.loc 7), false, []⟩,
    ⟨9, none, none, .nilCheck (.loc 0), false, []⟩,
    ⟨10, none, none, .fieldAddr 9 31 true (.loc 9), false, []⟩,
    ⟨11, none, none, .fieldAddr 30 1 false (.loc 10), false, []⟩,
    ⟨12, (some 3), none, .store 1 (.loc 11) (.loc 8), false, []⟩] true)
def l66 : LFun := ⟨2, [(some 0), (some 1), none], c66, [], .trim⟩
/-- umpire/auto.Timed -/
def vm169 : List Nat := [0, 1, 2, 3, 4, 5, 6, 9, 19]
def c169 : LCode :=
  .seq (
   .region 2 [⟨0, (some 1), none, .box 26 (.var 0), false, []⟩,
     ⟨1, (some 2), none, .asg (.const (.int .i64 0)), false, []⟩] false) (
  .seq (
   .region 1 [⟨0, (some 3), none, .asg (.const (.int .i64 6)), false, []⟩] false) (
  .seq (
   .seq (
    .region 3 [⟨0, none, none, .fieldAddr 1 1 false (.var 1), false, []⟩,
      ⟨1, none, none, .load false 1 (.loc 0) true, false, []⟩,
      ⟨2, (some 7), none, .bin .gtr (.loc 1) (.const (.int .i64 0)), false, []⟩] false) (
   .cond (.var 7) (
    .region 1 [⟨0, (some 3), none, .asg (.const (.int .i64 5)), false, []⟩] false) (
    .skip))) (
  .seq (
   .seq (
    .region 11 [⟨0, none, none, .fieldAddr 0 1 false (.var 1), false, []⟩,
      ⟨1, none, none, .load false 1 (.loc 0) false, false, []⟩,
      ⟨2, none, none, .mv (.var 3) false, false, []⟩,
      ⟨3, none, none, .callp 83 [(.loc 1), (.loc 2)], false, []⟩,
      ⟨4, none, none, .mv (.loc 3) false, false, []⟩,
      ⟨5, none, none, .extract (.loc 4) 0, false, []⟩,
      ⟨6, none, none, .extract (.loc 4) 1, false, []⟩,
      ⟨7, none, none, .extract (.loc 4) 2, false, []⟩,
      ⟨8, (some 4), none, .asg (.loc 5), false, []⟩,
      ⟨9, (some 5), none, .asg (.loc 6), false, []⟩,
      ⟨10, (some 6), none, .asg (.loc 7), false, []⟩] false) (
   .seq (
    .region 2 [⟨0, none, none, .mv (.var 6) true, false, []⟩,
      ⟨1, (some 8), none, .un .not (.loc 0), false, []⟩] false) (
   .cond (.var 8) (
    .seq (
     .region 1 [⟨0, (some 2), none, .asg (.const (.int .i64 0)), false, []⟩] false) (
    .ret)) (
    .skip)))) (
  .seq (
   .region 2 [⟨0, none, none, .mv (.var 3) false, false, []⟩,
     ⟨1, (some 2), none, .asg (.loc 0), false, []⟩] false) (
  .ret)))))
def l169 : LFun := ⟨1, [(some 0), none, none, none, none, none, none, none, none], c169, [.var 2], .pure⟩
/-- (*umpire/spec.world).happen -/
def vm52 : List Nat := [0, 1, 2, 3, 4, 10, 11, 12, 13, 14, 15, 17, 39, 64, 65, 66, 67, 70, 71, 77, 85, 93, 99, 106, 113, 121, 124]
def r52_0 : LCode :=
  .region 18 [⟨0, none, none, .mv (.var 0) false, false, []⟩,
    ⟨1, none, none, .nilCheck (.loc 0), false, []⟩,
    ⟨2, none, none, .fieldAddr 0 9 true (.loc 1), false, []⟩,
    ⟨3, none, none, .load true 9 (.loc 2) false, false, []⟩,
    ⟨4, none, none, .mv (.var 6) false, false, []⟩,
    ⟨5, none, none, .nilCheck (.loc 4), false, []⟩,
    ⟨6, none, none, .fieldAddr 0 2 true (.loc 5), false, []⟩,
    ⟨7, none, none, .load true 2 (.loc 6) false, false, []⟩,
    ⟨8, none, none, .mv (.var 2) false, false, []⟩,
    ⟨9, none, none, .callp 65 [(.loc 3), (.loc 7), (.loc 8)], false, []⟩,
    ⟨10, none, none, .mv (.loc 9) false, false, []⟩,
    ⟨11, none, none, .extract (.loc 10) 0, false, []⟩,
    ⟨12, none, none, .extract (.loc 10) 1, false, []⟩,
    ⟨13, none, none, .extract (.loc 10) 2, false, []⟩,
    ⟨14, (some 7), none, .alloc 26 [(.int .i64 0), (.int .i64 0)], false, []⟩,
    ⟨15, (some 27), none, .store 2 (.var 7) (.loc 11), false, []⟩,
    ⟨16, (some 8), none, .asg (.loc 12), false, []⟩,
    ⟨17, (some 9), none, .asg (.loc 13), false, []⟩] true
def r52_1 : LCode :=
  .region 18 [⟨0, none, none, .mv (.var 0) false, true, []⟩,
    ⟨1, none, none, .mv (.var 0) false, false, []⟩,
    ⟨2, none, none, .nilCheck (.loc 1), false, []⟩,
    ⟨3, none, none, .fieldAddr 40 1 false (.loc 2), false, []⟩,
    ⟨4, none, none, .load false 1 (.loc 3) true, false, []⟩,
    ⟨5, none, none, .mv (.var 10) false, false, []⟩,
    ⟨6, none, none, .mv (.var 6) false, false, []⟩,
    ⟨7, none, none, .nilCheck (.loc 6), false, []⟩,
    ⟨8, none, none, .fieldAddr 0 2 true (.loc 7), false, []⟩,
    ⟨9, none, none, .fieldAddr 0 1 false (.loc 8), false, []⟩,
    ⟨10, none, none, .load false 1 (.loc 9) false, false, []⟩,
    ⟨11, none, none, .mv (.var 2) false, false, []⟩,
    ⟨12, none, none, .build [(.int .i64 0), (.int .i64 0), (.int .i64 0)] [(0, 1, (.loc 5)), (1, 1, (.loc 10)), (2, 1, (.loc 11))], false, []⟩,
    ⟨13, none, none, .mkslice (.agg [(.int .i64 0), (.int .i64 0), (.int .i64 0)]) 3 1 [(0, (.loc 12))], false, []⟩,
    ⟨14, none, none, .append 65 3 24 (.loc 4) (.loc 13), false, []⟩,
    ⟨15, none, none, .nilCheck (.loc 0), false, []⟩,
    ⟨16, none, none, .fieldAddr 40 1 false (.loc 15), false, []⟩,
    ⟨17, (some 27), none, .store 1 (.loc 16) (.loc 14), false, []⟩] true
def b52_2 : LCode :=
  .fence [2, 5, 6, 7, 8, 9, 11, 12, 16, 17, 18, 19, 20, 21, 22, 23, 24, 25, 26] (
   .seq (
    .region 1 [⟨0, (some 16), none, .bin .lss (.var 15) (.var 14), false, []⟩] false) (
   .seq (
    .cond (.var 16) (
     .skip) (
     .exit 0)) (
   .seq (
    .block 1 (
     .seq (
      .region 3 [⟨0, none, none, .idxAddrVs 1 (.var 13) (.var 15), false, []⟩,
        ⟨1, none, none, .load false 1 (.loc 0) false, false, []⟩,
        ⟨2, (some 11), none, .asg (.loc 1), false, []⟩] false) (
     .seq (
      .region 1 [⟨0, (some 17), none, .mv (.var 11) false, false, []⟩] false) (
     .block 2 (
      .seq (
       .region 2 [⟨0, none, none, .bin .eql (.var 17) (.const (.int .i64 7)), false, []⟩,
         ⟨1, (some 18), none, .asg (.loc 0), false, []⟩] false) (
      .cond (.var 18) (
       .region 4 [⟨0, none, none, .mv (.var 0) false, false, []⟩,
         ⟨1, none, none, .mv (.var 10) false, false, []⟩,
         ⟨2, none, none, .build [(.int .i64 0), (.int .i64 0), (.int .i64 0), (.str [])] [(0, 1, (.const (.int .i64 1))), (1, 1, (.loc 1))], false, []⟩,
         ⟨3, none, none, .call 66 [(.loc 0), (.loc 2)], false, []⟩] false) (
       .seq (
        .region 2 [⟨0, none, none, .bin .eql (.var 17) (.const (.int .i64 8)), false, []⟩,
          ⟨1, (some 19), none, .asg (.loc 0), false, []⟩] false) (
       .cond (.var 19) (
        .region 6 [⟨0, none, none, .mv (.var 0) false, false, []⟩,
          ⟨1, none, none, .mv (.var 10) false, false, []⟩,
          ⟨2, none, none, .mv (.var 3) false, false, []⟩,
          ⟨3, none, none, .mv (.var 4) false, false, []⟩,
          ⟨4, none, none, .build [(.int .i64 0), (.int .i64 0), (.int .i64 0), (.str [])] [(0, 1, (.const (.int .i64 2))), (1, 1, (.loc 1)), (2, 1, (.loc 2)), (3, 1, (.loc 3))], false, []⟩,
          ⟨5, none, none, .call 66 [(.loc 0), (.loc 4)], false, []⟩] false) (
        .seq (
         .region 2 [⟨0, none, none, .bin .eql (.var 17) (.const (.int .i64 9)), false, []⟩,
           ⟨1, (some 20), none, .asg (.loc 0), false, []⟩] false) (
        .cond (.var 20) (
         .region 6 [⟨0, none, none, .mv (.var 0) false, false, []⟩,
           ⟨1, none, none, .mv (.var 10) false, false, []⟩,
           ⟨2, none, none, .mv (.var 3) false, false, []⟩,
           ⟨3, none, none, .mv (.var 4) false, false, []⟩,
           ⟨4, none, none, .build [(.int .i64 0), (.int .i64 0), (.int .i64 0), (.str [])] [(0, 1, (.const (.int .i64 3))), (1, 1, (.loc 1)), (2, 1, (.loc 2)), (3, 1, (.loc 3))], false, []⟩,
           ⟨5, none, none, .call 66 [(.loc 0), (.loc 4)], false, []⟩] false) (
         .seq (
          .region 2 [⟨0, none, none, .bin .eql (.var 17) (.const (.int .i64 10)), false, []⟩,
            ⟨1, (some 21), none, .asg (.loc 0), false, []⟩] false) (
         .cond (.var 21) (
          .region 4 [⟨0, none, none, .mv (.var 0) false, false, []⟩,
            ⟨1, none, none, .mv (.var 10) false, false, []⟩,
            ⟨2, none, none, .build [(.int .i64 0), (.int .i64 0), (.int .i64 0), (.str [])] [(0, 1, (.const (.int .i64 4))), (1, 1, (.loc 1))], false, []⟩,
            ⟨3, none, none, .call 66 [(.loc 0), (.loc 2)], false, []⟩] false) (
          .seq (
           .region 2 [⟨0, none, none, .bin .eql (.var 17) (.const (.int .i64 11)), false, []⟩,
             ⟨1, (some 22), none, .asg (.loc 0), false, []⟩] false) (
          .cond (.var 22) (
           .region 5 [⟨0, none, none, .mv (.var 0) false, false, []⟩,
             ⟨1, none, none, .mv (.var 10) false, false, []⟩,
             ⟨2, none, none, .mv (.var 3) false, false, []⟩,
             ⟨3, none, none, .build [(.int .i64 0), (.int .i64 0), (.int .i64 0), (.str [])] [(0, 1, (.const (.int .i64 5))), (1, 1, (.loc 1)), (2, 1, (.loc 2))], false, []⟩,
             ⟨4, none, none, .call 66 [(.loc 0), (.loc 3)], false, []⟩] false) (
           .seq (
            .region 2 [⟨0, none, none, .bin .eql (.var 17) (.const (.int .i64 12)), false, []⟩,
              ⟨1, (some 23), none, .asg (.loc 0), false, []⟩] false) (
           .cond (.var 23) (
            .region 5 [⟨0, none, none, .mv (.var 0) false, false, []⟩,
              ⟨1, none, none, .mv (.var 10) false, false, []⟩,
              ⟨2, none, none, .mv (.var 4) false, false, []⟩,
              ⟨3, none, none, .build [(.int .i64 0), (.int .i64 0), (.int .i64 0), (.str [])] [(0, 1, (.const (.int .i64 6))), (1, 1, (.loc 1)), (3, 1, (.loc 2))], false, []⟩,
              ⟨4, none, none, .call 66 [(.loc 0), (.loc 3)], false, []⟩] false) (
            .seq (
             .region 2 [⟨0, none, none, .bin .eql (.var 17) (.const (.int .i64 13)), false, []⟩,
               ⟨1, (some 24), none, .asg (.loc 0), false, []⟩] false) (
            .cond (.var 24) (
             .region 6 [⟨0, none, none, .mv (.var 0) false, false, []⟩,
               ⟨1, none, none, .mv (.var 10) false, false, []⟩,
               ⟨2, none, none, .mv (.var 3) false, false, []⟩,
               ⟨3, none, none, .mv (.var 4) false, false, []⟩,
               ⟨4, none, none, .build [(.int .i64 0), (.int .i64 0), (.int .i64 0), (.str [])] [(0, 1, (.const (.int .i64 7))), (1, 1, (.loc 1)), (2, 1, (.loc 2)), (3, 1, (.loc 3))], false, []⟩,
               ⟨5, none, none, .call 66 [(.loc 0), (.loc 4)], false, []⟩] false) (
             .seq (
              .region 2 [⟨0, none, none, .bin .eql (.var 17) (.const (.int .i64 2)), false, []⟩,
                ⟨1, (some 25), none, .asg (.loc 0), false, []⟩] false) (
             .cond (.var 25) (
              .seq (
               .region 2 [⟨0, none, none, .mv (.var 1) true, false, []⟩,
                 ⟨1, (some 26), none, .bin .eql (.loc 0) (.const (.int .i64 0)), false, []⟩] false) (
              .cond (.var 26) (
               .region 6 [⟨0, none, none, .mv (.var 0) true, false, []⟩,
                 ⟨1, none, none, .build [(.int .i64 0), (.int .i64 0), (.bool false), (.bool false), (.bool false), (.int .i64 0), (.str []), (.bool false), (.int .i64 0)] [], false, []⟩,
                 ⟨2, none, none, .nilCheck (.loc 0), false, []⟩,
                 ⟨3, none, none, .fieldAddr 9 31 true (.loc 2), false, []⟩,
                 ⟨4, none, none, .fieldAddr 21 9 true (.loc 3), false, []⟩,
                 ⟨5, (some 27), none, .store 9 (.loc 4) (.loc 1), false, []⟩] false) (
               .skip))) (
              .skip))))))))))))))))))))) (
   .region 2 [⟨0, none, none, .bin .add (.var 15) (.const (.int .i64 1)), false, []⟩,
     ⟨1, (some 15), none, .mv (.loc 0) false, false, []⟩] false))))
def c52 : LCode :=
  .seq (
   .region 1 [⟨0, (some 5), none, .asg (.const (.bool false)), false, []⟩] false) (
  .seq (
   .region 7 [⟨0, none, none, .mv (.var 0) true, false, []⟩,
     ⟨1, none, none, .mv (.var 1) false, false, []⟩,
     ⟨2, none, none, .nilCheck (.loc 0), false, []⟩,
     ⟨3, none, none, .fieldAddr 9 31 true (.loc 2), false, []⟩,
     ⟨4, none, none, .fieldAddr 0 21 true (.loc 3), false, []⟩,
     ⟨5, none, none, .idxAddrArr 3 7 true (.loc 4) (.loc 1), false, []⟩,
     ⟨6, (some 6), none, .asg (.loc 5), false, []⟩] false) (
  .seq (
   r52_0) (
  .seq (
   .seq (
    .region 2 [⟨0, none, none, .mv (.var 9) true, false, []⟩,
      ⟨1, (some 12), none, .un .not (.loc 0), false, []⟩] false) (
   .cond (.var 12) (
    .seq (
     .region 1 [⟨0, (some 5), none, .asg (.const (.bool false)), false, []⟩] false) (
    .ret)) (
    .skip))) (
  .seq (
   .region 4 [⟨0, none, none, .callp 29 [], false, []⟩,
     ⟨1, none, none, .mv (.var 1) false, false, []⟩,
     ⟨2, none, none, .idxArr 3 1 false (.loc 0) (.loc 1), false, []⟩,
     ⟨3, (some 10), none, .asg (.loc 2), false, []⟩] false) (
  .seq (
   r52_1) (
  .seq (
   .region 5 [⟨0, none, none, .mv (.var 6) true, false, []⟩,
     ⟨1, none, none, .load true 2 (.var 7) false, false, []⟩,
     ⟨2, none, none, .nilCheck (.loc 0), false, []⟩,
     ⟨3, none, none, .fieldAddr 0 2 true (.loc 2), false, []⟩,
     ⟨4, (some 27), none, .store 2 (.loc 3) (.loc 1), false, []⟩] false) (
  .seq (
   .seq (
    .region 3 [⟨0, (some 13), none, .mv (.var 8) false, false, []⟩,
      ⟨1, (some 14), none, .len 1 (.var 13), false, []⟩,
      ⟨2, (some 15), none, .mv (.const (.int .i64 0)) false, false, []⟩] false) (
   .fence [0, 1, 2, 3, 4, 5, 6, 7, 8, 9, 10, 11, 12, 13, 14, 15, 16, 17, 18, 19, 20, 21, 22, 23, 24, 25, 26] (
    .block 0 (
     .loop b52_2)))) (
  .seq (
   .region 1 [⟨0, (some 5), none, .asg (.const (.bool true)), false, []⟩] false) (
  .ret)))))))))
def l52 : LFun := ⟨5, [(some 0), (some 1), (some 2), (some 3), (some 4), none, none, none, none, none, none, none, none, none, none, none, none, none, none, none, none, none, none, none, none, none, none], c52, [.var 5], .trim⟩
/-- umpire/octet.Cut -/
def vm55 : List Nat := [0, 1, 2, 6, 7, 27]
def r55_0 : LCode :=
  .region 20 [⟨0, none, none, .mv (.var 1) true, false, []⟩,
    ⟨1, none, none, .bin .lss (.loc 0) (.const (.int .i64 0)), false, []⟩,
    ⟨2, none, none, .mv (.loc 1) false, false, []⟩,
    ⟨3, none, (some ((.loc 2), false)), .mv (.var 2) true, false, []⟩,
    ⟨4, none, (some ((.loc 2), false)), .bin .lss (.loc 3) (.const (.int .i64 0)), false, []⟩,
    ⟨5, none, none, .pick (.loc 2) (.const (.bool true)) (.loc 4), false, []⟩,
    ⟨6, none, none, .mv (.loc 5) false, false, []⟩,
    ⟨7, none, (some ((.loc 6), false)), .mv (.var 1) true, false, []⟩,
    ⟨8, none, (some ((.loc 6), false)), .mv (.var 0) true, false, []⟩,
    ⟨9, none, (some ((.loc 6), false)), .len 1 (.loc 8), false, []⟩,
    ⟨10, none, (some ((.loc 6), false)), .bin .gtr (.loc 7) (.loc 9), false, []⟩,
    ⟨11, none, none, .pick (.loc 6) (.const (.bool true)) (.loc 10), false, []⟩,
    ⟨12, none, none, .mv (.loc 11) false, false, []⟩,
    ⟨13, none, (some ((.loc 12), false)), .mv (.var 2) true, false, []⟩,
    ⟨14, none, (some ((.loc 12), false)), .mv (.var 0) true, false, []⟩,
    ⟨15, none, (some ((.loc 12), false)), .len 1 (.loc 14), false, []⟩,
    ⟨16, none, (some ((.loc 12), false)), .mv (.var 1) true, false, []⟩,
    ⟨17, none, (some ((.loc 12), false)), .bin .sub (.loc 15) (.loc 16), false, []⟩,
    ⟨18, none, (some ((.loc 12), false)), .bin .gtr (.loc 13) (.loc 17), false, []⟩,
    ⟨19, (some 5), none, .pick (.loc 12) (.const (.bool true)) (.loc 18), false, []⟩] false
def c55 : LCode :=
  .seq (
   .region 2 [⟨0, (some 3), none, .asg (.const (.vs true .sh 0 [])), false, []⟩,
     ⟨1, (some 4), none, .asg (.const (.bool false)), false, []⟩] false) (
  .seq (
   .seq (
    r55_0) (
   .cond (.var 5) (
    .seq (
     .region 2 [⟨0, (some 3), none, .asg (.const (.vs true .sh 0 [])), false, []⟩,
       ⟨1, (some 4), none, .asg (.const (.bool false)), false, []⟩] false) (
    .ret)) (
    .skip))) (
  .seq (
   .region 9 [⟨0, none, none, .mv (.var 0) false, false, []⟩,
     ⟨1, none, none, .mv (.var 1) false, false, []⟩,
     ⟨2, none, none, .mv (.var 1) true, false, []⟩,
     ⟨3, none, none, .mv (.var 2) true, false, []⟩,
     ⟨4, none, none, .bin .add (.loc 2) (.loc 3), false, []⟩,
     ⟨5, none, none, .sliceVs 1 (.loc 0) (some (.loc 1)) (some (.loc 4)) none, false, []⟩,
     ⟨6, none, none, .callp 35 [(.loc 5)], false, []⟩,
     ⟨7, (some 3), none, .asg (.loc 6), false, []⟩,
     ⟨8, (some 4), none, .asg (.const (.bool true)), false, []⟩] false) (
  .ret)))
def l55 : LFun := ⟨3, [(some 0), (some 1), (some 2), none, none, none], c55, [.var 3, .var 4], .pure⟩
/-- umpire/packet.Options -/
def vm56 : List Nat := [0, 1, 2, 3, 4, 5, 7, 8]
def c56 : LCode :=
  .seq (
   .region 3 [⟨0, (some 1), none, .box 57 (.var 0), false, []⟩,
     ⟨1, (some 2), none, .asg (.const (.vs true .sh 0 [])), false, []⟩,
     ⟨2, (some 3), none, .asg (.const (.bool false)), false, []⟩] false) (
  .seq (
   .seq (
    .region 2 [⟨0, none, none, .fieldAddr 0 1 false (.var 1), false, []⟩,
      ⟨1, (some 6), none, .load false 1 (.loc 0) false, false, []⟩] false) (
   .block 0 (
    .seq (
     .seq (
      .region 2 [⟨0, none, none, .bin .eql (.var 6) (.const (.int .i64 1)), false, []⟩,
        ⟨1, (some 7), none, .asg (.loc 0), false, []⟩] false) (
     .cond (.var 7) (
      .skip) (
      .seq (
       .region 2 [⟨0, none, none, .bin .eql (.var 6) (.const (.int .i64 2)), false, []⟩,
         ⟨1, (some 7), none, .asg (.loc 0), false, []⟩] false) (
      .cond (.var 7) (
       .skip) (
       .seq (
        .region 2 [⟨0, none, none, .bin .eql (.var 6) (.const (.int .i64 3)), false, []⟩,
          ⟨1, (some 7), none, .asg (.loc 0), false, []⟩] false) (
       .cond (.var 7) (
        .skip) (
        .region 2 [⟨0, none, none, .bin .eql (.var 6) (.const (.int .i64 4)), false, []⟩,
          ⟨1, (some 7), none, .asg (.loc 0), false, []⟩] false))))))) (
    .cond (.var 7) (
     .seq (
      .region 9 [⟨0, none, none, .fieldAddr 2 1 false (.var 1), false, []⟩,
        ⟨1, none, none, .load false 1 (.loc 0) false, false, []⟩,
        ⟨2, none, none, .callp 67 [(.loc 1)], false, []⟩,
        ⟨3, none, none, .mv (.loc 2) false, false, []⟩,
        ⟨4, none, none, .extract (.loc 3) 0, false, []⟩,
        ⟨5, none, none, .extract (.loc 3) 1, false, []⟩,
        ⟨6, (some 5), none, .alloc 134 [(.int .i64 0), (.int .i64 0)], false, []⟩,
        ⟨7, (some 4), none, .asg (.loc 4), false, []⟩,
        ⟨8, (some 8), none, .store 2 (.var 5) (.loc 5), false, []⟩] false) (
     .seq (
      .region 6 [⟨0, none, none, .mv (.var 4) false, false, []⟩,
        ⟨1, none, none, .load true 2 (.var 5) false, false, []⟩,
        ⟨2, none, none, .build [(.int .i64 0), (.int .i64 0)] [], false, []⟩,
        ⟨3, none, none, .eqAgg false [(.i .i64), (.i .i64)] (.loc 1) (.loc 2), false, []⟩,
        ⟨4, (some 2), none, .asg (.loc 0), false, []⟩,
        ⟨5, (some 3), none, .asg (.loc 3), false, []⟩] true) (
     .ret))) (
     .skip))))) (
  .seq (
   .region 2 [⟨0, (some 2), none, .asg (.const (.vs true .sh 0 [])), false, []⟩,
     ⟨1, (some 3), none, .asg (.const (.bool false)), false, []⟩] false) (
  .ret)))
def l56 : LFun := ⟨1, [(some 0), none, none, none, none, none, none, none], c56, [.var 2, .var 3], .pure⟩
/-- umpire/reply.Acks -/
def vm57 : List Nat := [0, 1, 2, 3, 4]
def r57_0 : LCode :=
  .region 23 [⟨0, none, none, .fieldAddr 0 1 false (.var 2), false, []⟩,
    ⟨1, none, none, .load false 1 (.loc 0) true, false, []⟩,
    ⟨2, none, none, .bin .eql (.loc 1) (.const (.int .i64 1)), false, []⟩,
    ⟨3, none, none, .mv (.loc 2) false, false, []⟩,
    ⟨4, none, (some ((.loc 3), true)), .fieldAddr 0 1 false (.var 3), false, []⟩,
    ⟨5, none, (some ((.loc 3), true)), .load false 1 (.loc 4) true, false, []⟩,
    ⟨6, none, (some ((.loc 3), true)), .bin .eql (.loc 5) (.const (.int .i64 2)), false, []⟩,
    ⟨7, none, none, .pick (.loc 3) (.loc 6) (.const (.bool false)), false, []⟩,
    ⟨8, none, none, .mv (.loc 7) false, false, []⟩,
    ⟨9, none, (some ((.loc 8), true)), .fieldAddr 1 1 false (.var 3), false, []⟩,
    ⟨10, none, (some ((.loc 8), true)), .load false 1 (.loc 9) true, false, []⟩,
    ⟨11, none, (some ((.loc 8), true)), .fieldAddr 1 1 false (.var 2), false, []⟩,
    ⟨12, none, (some ((.loc 8), true)), .load false 1 (.loc 11) true, false, []⟩,
    ⟨13, none, (some ((.loc 8), true)), .bin .eql (.loc 10) (.loc 12), false, []⟩,
    ⟨14, none, none, .pick (.loc 8) (.loc 13) (.const (.bool false)), false, []⟩,
    ⟨15, none, none, .mv (.loc 14) false, false, []⟩,
    ⟨16, none, (some ((.loc 15), true)), .fieldAddr 2 1 false (.var 3), false, []⟩,
    ⟨17, none, (some ((.loc 15), true)), .load false 1 (.loc 16) false, false, []⟩,
    ⟨18, none, (some ((.loc 15), true)), .fieldAddr 2 1 false (.var 2), false, []⟩,
    ⟨19, none, (some ((.loc 15), true)), .load false 1 (.loc 18) false, false, []⟩,
    ⟨20, none, (some ((.loc 15), true)), .callp 68 [(.loc 17), (.loc 19)], false, []⟩,
    ⟨21, none, none, .pick (.loc 15) (.loc 20) (.const (.bool false)), false, []⟩,
    ⟨22, (some 4), none, .asg (.loc 21), false, []⟩] false
def c57 : LCode :=
  .seq (
   .region 3 [⟨0, (some 2), none, .box 57 (.var 0), false, []⟩,
     ⟨1, (some 3), none, .box 57 (.var 1), false, []⟩,
     ⟨2, (some 4), none, .asg (.const (.bool false)), false, []⟩] false) (
  .seq (
   r57_0) (
  .ret))
def l57 : LFun := ⟨2, [(some 0), (some 1), none, none, none], c57, [.var 4], .pure⟩
/-- umpire/reply.Rejects -/
def vm58 : List Nat := [0, 1, 2, 3, 4, 5, 6, 7]
def c58 : LCode :=
  .seq (
   .region 3 [⟨0, (some 2), none, .box 57 (.var 0), false, []⟩,
     ⟨1, (some 3), none, .box 57 (.var 1), false, []⟩,
     ⟨2, (some 4), none, .asg (.const (.bool false)), false, []⟩] false) (
  .seq (
   .region 10 [⟨0, none, none, .load true 3 (.var 2) false, false, []⟩,
     ⟨1, none, none, .load true 3 (.var 3) false, false, []⟩,
     ⟨2, none, none, .callp 69 [(.loc 0), (.loc 1), (.const (.int .i64 4))], false, []⟩,
     ⟨3, none, none, .mv (.loc 2) false, false, []⟩,
     ⟨4, none, none, .extract (.loc 3) 0, false, []⟩,
     ⟨5, none, none, .extract (.loc 3) 1, false, []⟩,
     ⟨6, none, none, .extract (.loc 3) 2, false, []⟩,
     ⟨7, (some 5), none, .asg (.loc 4), false, []⟩,
     ⟨8, (some 6), none, .asg (.loc 5), false, []⟩,
     ⟨9, (some 7), none, .asg (.loc 6), false, []⟩] false) (
  .seq (
   .region 7 [⟨0, none, none, .mv (.var 7) false, false, []⟩,
     ⟨1, none, none, .mv (.loc 0) false, false, []⟩,
     ⟨2, none, (some ((.loc 1), true)), .mv (.var 6) false, false, []⟩,
     ⟨3, none, (some ((.loc 1), true)), .mv (.var 5) false, false, []⟩,
     ⟨4, none, (some ((.loc 1), true)), .callp 70 [(.loc 2), (.loc 3)], false, []⟩,
     ⟨5, none, none, .pick (.loc 1) (.loc 4) (.const (.bool false)), false, []⟩,
     ⟨6, (some 4), none, .asg (.loc 5), false, []⟩] false) (
  .ret)))
def l58 : LFun := ⟨2, [(some 0), (some 1), none, none, none, none, none, none], c58, [.var 4], .pure⟩
/-- umpire/reply.Naks -/
def vm59 : List Nat := [0, 1, 2, 3, 4, 5, 6, 7, 8, 9, 22]
def c59 : LCode :=
  .seq (
   .region 3 [⟨0, (some 2), none, .box 57 (.var 0), false, []⟩,
     ⟨1, (some 3), none, .box 57 (.var 1), false, []⟩,
     ⟨2, (some 4), none, .asg (.const (.bool false)), false, []⟩] false) (
  .seq (
   .region 11 [⟨0, none, none, .load true 3 (.var 2) false, false, []⟩,
     ⟨1, none, none, .load true 3 (.var 3) false, false, []⟩,
     ⟨2, none, none, .callp 69 [(.loc 0), (.loc 1), (.const (.int .i64 3))], false, []⟩,
     ⟨3, none, none, .mv (.loc 2) false, false, []⟩,
     ⟨4, none, none, .extract (.loc 3) 0, false, []⟩,
     ⟨5, none, none, .extract (.loc 3) 1, false, []⟩,
     ⟨6, none, none, .extract (.loc 3) 2, false, []⟩,
     ⟨7, (some 5), none, .alloc 116 [(.vs true .sh 0 [])], false, []⟩,
     ⟨8, (some 11), none, .store 1 (.var 5) (.loc 4), false, []⟩,
     ⟨9, (some 6), none, .asg (.loc 5), false, []⟩,
     ⟨10, (some 7), none, .asg (.loc 6), false, []⟩] false) (
  .seq (
   .seq (
    .region 6 [⟨0, none, none, .mv (.var 7) true, false, []⟩,
      ⟨1, none, none, .un .not (.loc 0), false, []⟩,
      ⟨2, none, none, .mv (.loc 1) false, false, []⟩,
      ⟨3, none, (some ((.loc 2), false)), .mv (.var 6) false, false, []⟩,
      ⟨4, none, (some ((.loc 2), false)), .callp 71 [(.loc 3)], false, []⟩,
      ⟨5, (some 10), none, .pick (.loc 2) (.const (.bool true)) (.loc 4), false, []⟩] false) (
   .cond (.var 10) (
    .seq (
     .region 1 [⟨0, (some 4), none, .asg (.const (.bool false)), false, []⟩] false) (
    .ret)) (
    .skip))) (
  .seq (
   .region 4 [⟨0, none, none, .load false 1 (.var 5) false, false, []⟩,
     ⟨1, none, none, .call 72 [(.loc 0)], false, []⟩,
     ⟨2, (some 8), none, .alloc 142 [.nilmap], false, []⟩,
     ⟨3, (some 11), none, .store 1 (.var 8) (.loc 1), false, []⟩] false) (
  .seq (
   .region 2 [⟨0, (some 9), none, .alloc 3 [(.int .i64 0)], false, []⟩,
     ⟨1, (some 11), none, .store 1 (.var 9) (.const (.int .i64 (-1))), false, []⟩] false) (
  .seq (
   .region 5 [⟨0, none, none, .mv (.var 6) false, false, []⟩,
     ⟨1, none, none, .mkFunc 74 [(.var 8), (.var 5), (.var 9)], false, []⟩,
     ⟨2, none, none, .call 73 [(.loc 0), (.loc 1)], false, []⟩,
     ⟨3, none, none, .un .not (.loc 2), false, []⟩,
     ⟨4, (some 4), none, .asg (.loc 3), false, []⟩] false) (
  .ret))))))
def l59 : LFun := ⟨2, [(some 0), (some 1), none, none, none, none, none, none, none, none, none], c59, [.var 4], .pure⟩
/-- umpire/auth.judged -/
def vm60 : List Nat := [0, 1, 2, 3, 4, 5, 6, 7, 8, 9, 10, 11, 14, 61]
def r60_0 : LCode :=
  .region 22 [⟨0, none, none, .fieldAddr 0 1 false (.var 7), false, []⟩,
    ⟨1, none, none, .load false 1 (.loc 0) false, false, []⟩,
    ⟨2, none, none, .bin .eql (.loc 1) (.const (.int .i64 2)), false, []⟩,
    ⟨3, none, none, .fieldAddr 0 1 false (.var 7), false, []⟩,
    ⟨4, none, none, .load false 1 (.loc 3) false, false, []⟩,
    ⟨5, none, none, .bin .eql (.loc 4) (.const (.int .i64 2)), false, []⟩,
    ⟨6, none, none, .mv (.loc 5) false, false, []⟩,
    ⟨7, none, (some ((.loc 6), false)), .fieldAddr 0 1 false (.var 7), false, []⟩,
    ⟨8, none, (some ((.loc 6), false)), .load false 1 (.loc 7) false, false, []⟩,
    ⟨9, none, (some ((.loc 6), false)), .bin .eql (.loc 8) (.const (.int .i64 3)), false, []⟩,
    ⟨10, none, (some ((.loc 6), false)), .mv (.loc 9) false, false, []⟩,
    ⟨11, none, (some ((.loc 10), true)), .fieldAddr 2 1 false (.var 5), false, []⟩,
    ⟨12, none, (some ((.loc 10), true)), .load false 1 (.loc 11) false, false, []⟩,
    ⟨13, none, (some ((.loc 10), true)), .un .not (.loc 12), false, []⟩,
    ⟨14, none, (some ((.loc 6), false)), .pick (.loc 10) (.loc 13) (.const (.bool false)), false, []⟩,
    ⟨15, none, none, .pick (.loc 6) (.const (.bool true)) (.loc 14), false, []⟩,
    ⟨16, none, none, .mv (.loc 15) false, false, []⟩,
    ⟨17, none, (some ((.loc 16), true)), .load true 3 (.var 7) false, false, []⟩,
    ⟨18, none, (some ((.loc 16), true)), .callp 77 [(.loc 17)], false, []⟩,
    ⟨19, none, none, .pick (.loc 16) (.loc 18) (.const (.bool false)), false, []⟩,
    ⟨20, (some 8), none, .asg (.loc 2), false, []⟩,
    ⟨21, (some 9), none, .asg (.loc 19), false, []⟩] true
def r60_1 : LCode :=
  .region 18 [⟨0, none, none, .fieldAddr 4 1 false (.var 4), false, []⟩,
    ⟨1, none, none, .load false 1 (.loc 0) true, false, []⟩,
    ⟨2, none, none, .bin .neq (.loc 1) (.const (.str [])), false, []⟩,
    ⟨3, none, none, .mv (.loc 2) false, false, []⟩,
    ⟨4, none, (some ((.loc 3), true)), .fieldAddr 2 1 false (.var 6), false, []⟩,
    ⟨5, none, (some ((.loc 3), true)), .load false 1 (.loc 4) false, false, []⟩,
    ⟨6, none, (some ((.loc 3), true)), .fieldAddr 4 1 false (.var 4), false, []⟩,
    ⟨7, none, (some ((.loc 3), true)), .load false 1 (.loc 6) false, false, []⟩,
    ⟨8, none, (some ((.loc 3), true)), .fieldAddr 6 1 false (.var 5), false, []⟩,
    ⟨9, none, (some ((.loc 3), true)), .load false 1 (.loc 8) true, false, []⟩,
    ⟨10, none, (some ((.loc 3), true)), .cvBytes (.loc 9), false, []⟩,
    ⟨11, none, (some ((.loc 3), true)), .fieldAddr 3 1 false (.var 6), false, []⟩,
    ⟨12, none, (some ((.loc 3), true)), .load false 1 (.loc 11) true, false, []⟩,
    ⟨13, none, (some ((.loc 3), true)), .cvBytes (.loc 12), false, []⟩,
    ⟨14, none, (some ((.loc 3), true)), .callp 62 [(.loc 5), (.loc 7), (.loc 10), (.loc 13)], false, []⟩,
    ⟨15, none, (some ((.loc 3), true)), .mv (.var 10) true, false, []⟩,
    ⟨16, none, (some ((.loc 3), true)), .eqBool true (.loc 14) (.loc 15), false, []⟩,
    ⟨17, (some 13), none, .pick (.loc 3) (.loc 16) (.const (.bool false)), false, []⟩] false
def c60 : LCode :=
  .seq (
   .region 6 [⟨0, (some 4), none, .box 24 (.var 0), false, []⟩,
     ⟨1, (some 5), none, .box 31 (.var 1), false, []⟩,
     ⟨2, (some 6), none, .box 51 (.var 2), false, []⟩,
     ⟨3, (some 7), none, .box 57 (.var 3), false, []⟩,
     ⟨4, (some 8), none, .asg (.const (.bool false)), false, []⟩,
     ⟨5, (some 9), none, .asg (.const (.bool false)), false, []⟩] false) (
  .seq (
   .seq (
    .region 3 [⟨0, none, none, .fieldAddr 0 1 false (.var 6), false, []⟩,
      ⟨1, none, none, .load false 1 (.loc 0) true, false, []⟩,
      ⟨2, (some 12), none, .bin .eql (.loc 1) (.const (.int .i64 9)), false, []⟩] false) (
   .cond (.var 12) (
    .seq (
     r60_0) (
    .ret)) (
    .skip))) (
  .seq (
   .region 4 [⟨0, none, none, .fieldAddr 0 1 false (.var 7), false, []⟩,
     ⟨1, none, none, .load false 1 (.loc 0) true, false, []⟩,
     ⟨2, none, none, .bin .eql (.loc 1) (.const (.int .i64 3)), false, []⟩,
     ⟨3, (some 10), none, .asg (.loc 2), false, []⟩] false) (
  .seq (
   .region 7 [⟨0, none, none, .mv (.var 10) false, false, []⟩,
     ⟨1, none, none, .mv (.loc 0) false, false, []⟩,
     ⟨2, none, (some ((.loc 1), false)), .fieldAddr 0 1 false (.var 7), false, []⟩,
     ⟨3, none, (some ((.loc 1), false)), .load false 1 (.loc 2) true, false, []⟩,
     ⟨4, none, (some ((.loc 1), false)), .bin .eql (.loc 3) (.const (.int .i64 4)), false, []⟩,
     ⟨5, none, none, .pick (.loc 1) (.const (.bool true)) (.loc 4), false, []⟩,
     ⟨6, (some 11), none, .asg (.loc 5), false, []⟩] false) (
  .seq (
   .seq (
    r60_1) (
   .cond (.var 13) (
    .region 1 [⟨0, (some 11), none, .asg (.const (.bool false)), false, []⟩] false) (
    .skip))) (
  .seq (
   .region 4 [⟨0, none, none, .mv (.var 10) false, false, []⟩,
     ⟨1, none, none, .mv (.var 11) false, false, []⟩,
     ⟨2, (some 8), none, .asg (.loc 0), false, []⟩,
     ⟨3, (some 9), none, .asg (.loc 1), false, []⟩] false) (
  .ret))))))
def l60 : LFun := ⟨4, [(some 0), (some 1), (some 2), (some 3), none, none, none, none, none, none, none, none, none, none], c60, [.var 8, .var 9], .pure⟩
/-- umpire/auth.value -/
def vm61 : List Nat := [0, 1, 2, 3, 4, 5]
def c61 : LCode :=
  .seq (
   .region 3 [⟨0, (some 1), none, .box 57 (.var 0), false, []⟩,
     ⟨1, (some 2), none, .asg (.const (.vs true .sh 0 [])), false, []⟩,
     ⟨2, (some 3), none, .asg (.const (.bool false)), false, []⟩] false) (
  .seq (
   .region 9 [⟨0, none, none, .fieldAddr 2 1 false (.var 1), false, []⟩,
     ⟨1, none, none, .load false 1 (.loc 0) false, false, []⟩,
     ⟨2, none, none, .callp 78 [(.loc 1)], false, []⟩,
     ⟨3, none, none, .mv (.loc 2) false, false, []⟩,
     ⟨4, none, none, .extract (.loc 3) 0, false, []⟩,
     ⟨5, none, none, .extract (.loc 3) 1, false, []⟩,
     ⟨6, (some 4), none, .alloc 150 [(.vs true .sh 0 []), (.str [])], false, []⟩,
     ⟨7, (some 6), none, .store 2 (.var 4) (.loc 4), false, []⟩,
     ⟨8, (some 5), none, .asg (.loc 5), false, []⟩] false) (
  .seq (
   .region 6 [⟨0, none, none, .fieldAddr 0 1 false (.var 4), false, []⟩,
     ⟨1, none, none, .load false 1 (.loc 0) false, false, []⟩,
     ⟨2, none, none, .mv (.var 5) true, false, []⟩,
     ⟨3, none, none, .bin .eql (.loc 2) (.const (.int .i64 0)), false, []⟩,
     ⟨4, (some 2), none, .asg (.loc 1), false, []⟩,
     ⟨5, (some 3), none, .asg (.loc 3), false, []⟩] false) (
  .ret)))
def l61 : LFun := ⟨1, [(some 0), none, none, none, none, none], c61, [.var 2, .var 3], .pure⟩
/-- umpire/chap.Right -/
def vm62 : List Nat := [0, 1, 2, 3, 8]
def c62 : LCode :=
  .seq (
   .region 1 [⟨0, (some 4), none, .asg (.const (.bool false)), false, []⟩] false) (
  .seq (
   .region 14 [⟨0, none, none, .mv (.var 3) false, false, []⟩,
     ⟨1, none, none, .len 1 (.loc 0), false, []⟩,
     ⟨2, none, none, .bin .eql (.loc 1) (.const (.int .i64 16)), false, []⟩,
     ⟨3, none, none, .mv (.loc 2) false, false, []⟩,
     ⟨4, none, (some ((.loc 3), true)), .mv (.var 3) false, false, []⟩,
     ⟨5, none, (some ((.loc 3), true)), .s2ap 16 (.loc 4), false, []⟩,
     ⟨6, none, (some ((.loc 3), true)), .load true 16 (.loc 5) false, false, []⟩,
     ⟨7, none, (some ((.loc 3), true)), .mv (.var 0) false, false, []⟩,
     ⟨8, none, (some ((.loc 3), true)), .mv (.var 1) false, false, []⟩,
     ⟨9, none, (some ((.loc 3), true)), .mv (.var 2) false, false, []⟩,
     ⟨10, none, (some ((.loc 3), true)), .callp 79 [(.loc 7), (.loc 8), (.loc 9)], false, []⟩,
     ⟨11, none, (some ((.loc 3), true)), .eqAgg false [(.i .u8), (.i .u8), (.i .u8), (.i .u8), (.i .u8), (.i .u8), (.i .u8), (.i .u8), (.i .u8), (.i .u8), (.i .u8), (.i .u8), (.i .u8), (.i .u8), (.i .u8), (.i .u8)] (.loc 6) (.loc 10), false, []⟩,
     ⟨12, none, none, .pick (.loc 3) (.loc 11) (.const (.bool false)), false, []⟩,
     ⟨13, (some 4), none, .asg (.loc 12), false, []⟩] true) (
  .ret))
def l62 : LFun := ⟨4, [(some 0), (some 1), (some 2), (some 3), none], c62, [.var 4], .pure⟩
/-- umpire/packet.begins -/
def vm63 : List Nat := [0, 1, 2, 4, 5, 6, 7, 8, 9, 10, 19]
def c63 : LCode :=
  .seq (
   .region 4 [⟨0, (some 2), none, .box 57 (.var 0), false, []⟩,
     ⟨1, (some 3), none, .asg (.const (.int .u64 0)), false, []⟩,
     ⟨2, (some 4), none, .asg (.const (.vs true .sh 0 [])), false, []⟩,
     ⟨3, (some 5), none, .asg (.const (.bool false)), false, []⟩] false) (
  .seq (
   .region 9 [⟨0, none, none, .fieldAddr 2 1 false (.var 2), false, []⟩,
     ⟨1, none, none, .load false 1 (.loc 0) false, false, []⟩,
     ⟨2, none, none, .mv (.var 1) false, false, []⟩,
     ⟨3, none, none, .callp 55 [(.loc 1), (.const (.int .i64 0)), (.loc 2)], false, []⟩,
     ⟨4, none, none, .mv (.loc 3) false, false, []⟩,
     ⟨5, none, none, .extract (.loc 4) 0, false, []⟩,
     ⟨6, none, none, .extract (.loc 4) 1, false, []⟩,
     ⟨7, (some 6), none, .asg (.loc 5), false, []⟩,
     ⟨8, (some 7), none, .asg (.loc 6), false, []⟩] false) (
  .seq (
   .seq (
    .region 2 [⟨0, none, none, .mv (.var 7) true, false, []⟩,
      ⟨1, (some 10), none, .un .not (.loc 0), false, []⟩] false) (
   .cond (.var 10) (
    .seq (
     .region 3 [⟨0, (some 3), none, .asg (.const (.int .u64 0)), false, []⟩,
       ⟨1, (some 4), none, .asg (.const (.vs true .sh 0 [])), false, []⟩,
       ⟨2, (some 5), none, .asg (.const (.bool false)), false, []⟩] false) (
    .ret)) (
    .skip))) (
  .seq (
   .region 7 [⟨0, none, none, .mv (.var 6) false, false, []⟩,
     ⟨1, none, none, .callp 80 [(.loc 0), (.const (.bool true))], false, []⟩,
     ⟨2, none, none, .mv (.loc 1) false, false, []⟩,
     ⟨3, none, none, .extract (.loc 2) 0, false, []⟩,
     ⟨4, none, none, .extract (.loc 2) 1, false, []⟩,
     ⟨5, (some 8), none, .asg (.loc 3), false, []⟩,
     ⟨6, (some 9), none, .asg (.loc 4), false, []⟩] false) (
  .seq (
   .region 8 [⟨0, none, none, .mv (.var 8) false, false, []⟩,
     ⟨1, none, none, .fieldAddr 2 1 false (.var 2), false, []⟩,
     ⟨2, none, none, .load false 1 (.loc 1) false, false, []⟩,
     ⟨3, none, none, .mv (.var 1) false, false, []⟩,
     ⟨4, none, none, .callp 81 [(.loc 2), (.loc 3)], false, []⟩,
     ⟨5, (some 3), none, .asg (.loc 0), false, []⟩,
     ⟨6, (some 4), none, .asg (.loc 4), false, []⟩,
     ⟨7, (some 5), none, .asg (.const (.bool true)), false, []⟩] false) (
  .ret)))))
def l63 : LFun := ⟨2, [(some 0), (some 1), none, none, none, none, none, none, none, none, none], c63, [.var 3, .var 4, .var 5], .pure⟩
/-- umpire/auth.ask -/
def vm64 : List Nat := [0, 1, 2, 4]
def c64 : LCode :=
  .seq (
   .region 2 [⟨0, (some 1), none, .box 57 (.var 0), false, []⟩,
     ⟨1, (some 2), none, .asg (.const (.bool false)), false, []⟩] false) (
  .seq (
   .region 9 [⟨0, none, none, .fieldAddr 2 1 false (.var 1), false, []⟩,
     ⟨1, none, none, .load false 1 (.loc 0) false, false, []⟩,
     ⟨2, none, none, .callp 82 [(.loc 1)], false, []⟩,
     ⟨3, none, none, .mv (.loc 2) false, false, []⟩,
     ⟨4, none, none, .extract (.loc 3) 0, false, []⟩,
     ⟨5, none, none, .extract (.loc 3) 1, false, []⟩,
     ⟨6, none, none, .alloc 159 [(.str []), (.str [])], false, []⟩,
     ⟨7, (some 4), none, .store 2 (.loc 6) (.loc 4), false, []⟩,
     ⟨8, (some 3), none, .asg (.loc 5), false, []⟩] false) (
  .seq (
   .region 3 [⟨0, none, none, .mv (.var 3) true, false, []⟩,
     ⟨1, none, none, .bin .eql (.loc 0) (.const (.int .i64 0)), false, []⟩,
     ⟨2, (some 2), none, .asg (.loc 1), false, []⟩] false) (
  .ret)))
def l64 : LFun := ⟨1, [(some 0), none, none, none], c64, [.var 2], .pure⟩
/-- (*umpire/spec.world).request -/
def vm138 : List Nat := [0, 1, 2, 3, 6, 8, 9, 10, 11, 25]
def c138 : LCode :=
  .seq (
   .region 2 [⟨0, (some 4), none, .box 57 (.var 2), false, []⟩,
     ⟨1, (some 5), none, .asg (.const (.bool false)), false, []⟩] false) (
  .seq (
   .region 1 [⟨0, (some 6), none, .asg (.const (.int .i64 8)), false, []⟩] false) (
  .seq (
   .seq (
    .region 1 [⟨0, (some 8), none, .mv (.var 3) false, false, []⟩] false) (
   .cond (.var 8) (
    .region 1 [⟨0, (some 6), none, .asg (.const (.int .i64 7)), false, []⟩] false) (
    .skip))) (
  .seq (
   .region 10 [⟨0, none, none, .mv (.var 0) false, false, []⟩,
     ⟨1, none, none, .mv (.var 1) false, false, []⟩,
     ⟨2, none, none, .mv (.var 6) false, false, []⟩,
     ⟨3, none, none, .fieldAddr 1 1 false (.var 4), false, []⟩,
     ⟨4, none, none, .load false 1 (.loc 3) false, false, []⟩,
     ⟨5, none, none, .fieldAddr 2 1 false (.var 4), false, []⟩,
     ⟨6, none, none, .load false 1 (.loc 5) true, false, []⟩,
     ⟨7, none, none, .cvStr (.loc 6), false, []⟩,
     ⟨8, none, none, .call 52 [(.loc 0), (.loc 1), (.loc 2), (.loc 4), (.loc 7)], false, []⟩,
     ⟨9, (some 7), none, .asg (.loc 8), false, []⟩] false) (
  .seq (
   .seq (
    .region 5 [⟨0, none, none, .mv (.var 1) true, false, []⟩,
      ⟨1, none, none, .bin .eql (.loc 0) (.const (.int .i64 0)), false, []⟩,
      ⟨2, none, none, .mv (.loc 1) false, false, []⟩,
      ⟨3, none, (some ((.loc 2), true)), .mv (.var 3) false, false, []⟩,
      ⟨4, (some 9), none, .pick (.loc 2) (.loc 3) (.const (.bool false)), false, []⟩] false) (
   .cond (.var 9) (
    .region 9 [⟨0, none, none, .mv (.var 0) true, false, []⟩,
      ⟨1, none, none, .fieldAddr 2 1 false (.var 4), false, []⟩,
      ⟨2, none, none, .load false 1 (.loc 1) false, false, []⟩,
      ⟨3, none, none, .callp 148 [(.loc 2)], false, []⟩,
      ⟨4, none, none, .nilCheck (.loc 0), false, []⟩,
      ⟨5, none, none, .fieldAddr 9 31 true (.loc 4), false, []⟩,
      ⟨6, none, none, .fieldAddr 21 9 true (.loc 5), false, []⟩,
      ⟨7, none, none, .fieldAddr 1 1 false (.loc 6), false, []⟩,
      ⟨8, (some 10), none, .store 1 (.loc 7) (.loc 3), false, []⟩] false) (
    .skip))) (
  .seq (
   .region 2 [⟨0, none, none, .mv (.var 7) false, false, []⟩,
     ⟨1, (some 5), none, .asg (.loc 0), false, []⟩] false) (
  .ret))))))
def l138 : LFun := ⟨4, [(some 0), (some 1), (some 2), (some 3), none, none, none, none, none, none], c138, [.var 5], .trim⟩
/-- (*umpire/spec.world).answered -/
def vm139 : List Nat := [0, 1, 2, 5, 6, 7, 20, 35]
def c139 : LCode :=
  .seq (
   .region 1 [⟨0, (some 3), none, .box 57 (.var 2), false, []⟩] false) (
  .seq (
   .region 7 [⟨0, none, none, .mv (.var 0) true, false, []⟩,
     ⟨1, none, none, .mv (.var 1) false, false, []⟩,
     ⟨2, none, none, .nilCheck (.loc 0), false, []⟩,
     ⟨3, none, none, .fieldAddr 9 31 true (.loc 2), false, []⟩,
     ⟨4, none, none, .fieldAddr 0 21 true (.loc 3), false, []⟩,
     ⟨5, none, none, .idxAddrArr 3 7 true (.loc 4) (.loc 1), false, []⟩,
     ⟨6, (some 4), none, .asg (.loc 5), false, []⟩] false) (
  .seq (
   .region 6 [⟨0, none, none, .mv (.var 4) false, false, []⟩,
     ⟨1, none, none, .nilCheck (.loc 0), false, []⟩,
     ⟨2, none, none, .load true 7 (.loc 1) false, false, []⟩,
     ⟨3, none, none, .load true 3 (.var 3) false, false, []⟩,
     ⟨4, none, none, .callp 149 [(.loc 2), (.loc 3)], false, []⟩,
     ⟨5, (some 5), none, .asg (.loc 4), false, []⟩] true) (
  .seq (
   .seq (
    .region 2 [⟨0, none, none, .mv (.var 5) true, false, []⟩,
      ⟨1, (some 6), none, .bin .eql (.loc 0) (.const (.int .i64 0)), false, []⟩] false) (
   .cond (.var 6) (
    .ret) (
    .skip))) (
  .seq (
   .region 4 [⟨0, none, none, .mv (.var 4) true, false, []⟩,
     ⟨1, none, none, .nilCheck (.loc 0), false, []⟩,
     ⟨2, none, none, .fieldAddr 4 1 false (.loc 1), false, []⟩,
     ⟨3, (some 8), none, .store 1 (.loc 2) (.const (.bool true)), false, []⟩] false) (
  .seq (
   .region 6 [⟨0, none, none, .mv (.var 0) false, false, []⟩,
     ⟨1, none, none, .mv (.var 1) false, false, []⟩,
     ⟨2, none, none, .mv (.var 5) false, false, []⟩,
     ⟨3, none, none, .fieldAddr 1 1 false (.var 3), false, []⟩,
     ⟨4, none, none, .load false 1 (.loc 3) false, false, []⟩,
     ⟨5, none, none, .call 52 [(.loc 0), (.loc 1), (.loc 2), (.loc 4), (.const (.str []))], false, []⟩] false) (
  .seq (
   .region 6 [⟨0, none, none, .mv (.var 1) true, false, []⟩,
     ⟨1, none, none, .bin .eql (.loc 0) (.const (.int .i64 0)), false, []⟩,
     ⟨2, none, none, .mv (.loc 1) false, false, []⟩,
     ⟨3, none, (some ((.loc 2), true)), .mv (.var 5) true, false, []⟩,
     ⟨4, none, (some ((.loc 2), true)), .bin .eql (.loc 3) (.const (.int .i64 9)), false, []⟩,
     ⟨5, (some 7), none, .pick (.loc 2) (.loc 4) (.const (.bool false)), false, []⟩] false) (
  .cond (.var 7) (
   .region 12 [⟨0, none, none, .mv (.var 0) true, false, []⟩,
     ⟨1, none, none, .mv (.var 4) true, false, []⟩,
     ⟨2, none, none, .nilCheck (.loc 1), false, []⟩,
     ⟨3, none, none, .fieldAddr 6 1 false (.loc 2), false, []⟩,
     ⟨4, none, none, .load false 1 (.loc 3) true, false, []⟩,
     ⟨5, none, none, .cvBytes (.loc 4), false, []⟩,
     ⟨6, none, none, .callp 148 [(.loc 5)], false, []⟩,
     ⟨7, none, none, .nilCheck (.loc 0), false, []⟩,
     ⟨8, none, none, .fieldAddr 9 31 true (.loc 7), false, []⟩,
     ⟨9, none, none, .fieldAddr 21 9 true (.loc 8), false, []⟩,
     ⟨10, none, none, .fieldAddr 0 1 false (.loc 9), false, []⟩,
     ⟨11, (some 8), none, .store 1 (.loc 10) (.loc 6), false, []⟩] false) (
   .skip))))))))
def l139 : LFun := ⟨3, [(some 0), (some 1), (some 2), none, none, none, none, none], c139, [], .trim⟩
/-- (*umpire/spec.world).refused -/
def vm140 : List Nat := [0, 1, 3, 4, 5, 6, 7, 26, 29, 36]
def c140 : LCode :=
  .seq (
   .region 1 [⟨0, (some 2), none, .box 57 (.var 1), false, []⟩] false) (
  .seq (
   .region 9 [⟨0, none, none, .load true 3 (.var 2) false, false, []⟩,
     ⟨1, none, none, .callp 150 [(.loc 0)], false, []⟩,
     ⟨2, none, none, .mv (.loc 1) false, false, []⟩,
     ⟨3, none, none, .extract (.loc 2) 0, false, []⟩,
     ⟨4, none, none, .extract (.loc 2) 1, false, []⟩,
     ⟨5, none, none, .extract (.loc 2) 2, false, []⟩,
     ⟨6, (some 3), none, .asg (.loc 3), false, []⟩,
     ⟨7, (some 4), none, .asg (.loc 4), false, []⟩,
     ⟨8, (some 5), none, .asg (.loc 5), false, []⟩] false) (
  .seq (
   .seq (
    .region 13 [⟨0, none, none, .mv (.var 5) true, false, []⟩,
      ⟨1, none, none, .un .not (.loc 0), false, []⟩,
      ⟨2, none, none, .mv (.loc 1) false, false, []⟩,
      ⟨3, none, (some ((.loc 2), false)), .mv (.var 0) true, false, []⟩,
      ⟨4, none, (some ((.loc 2), false)), .nilCheck (.loc 3), false, []⟩,
      ⟨5, none, (some ((.loc 2), false)), .fieldAddr 9 31 true (.loc 4), false, []⟩,
      ⟨6, none, (some ((.loc 2), false)), .fieldAddr 0 21 true (.loc 5), false, []⟩,
      ⟨7, none, (some ((.loc 2), false)), .idxAddrArr 3 7 true (.loc 6) (.const (.int .i64 0)), false, []⟩,
      ⟨8, none, (some ((.loc 2), false)), .fieldAddr 0 2 true (.loc 7), false, []⟩,
      ⟨9, none, (some ((.loc 2), false)), .fieldAddr 0 1 false (.loc 8), false, []⟩,
      ⟨10, none, (some ((.loc 2), false)), .load false 1 (.loc 9) true, false, []⟩,
      ⟨11, none, (some ((.loc 2), false)), .bin .neq (.loc 10) (.const (.int .i64 9)), false, []⟩,
      ⟨12, (some 7), none, .pick (.loc 2) (.const (.bool true)) (.loc 11), false, []⟩] false) (
   .cond (.var 7) (
    .ret) (
    .skip))) (
  .seq (
   .region 3 [⟨0, none, none, .mv (.var 3) false, false, []⟩,
     ⟨1, none, none, .callp 44 [(.loc 0)], false, []⟩,
     ⟨2, (some 6), none, .asg (.loc 1), false, []⟩] false) (
  .block 0 (
   .seq (
    .region 3 [⟨0, none, none, .mv (.var 6) true, false, []⟩,
      ⟨1, none, none, .bin .lss (.loc 0) (.const (.int .i64 0)), false, []⟩,
      ⟨2, (some 8), none, .asg (.loc 1), false, []⟩] false) (
   .cond (.var 8) (
    .region 4 [⟨0, none, none, .mv (.var 0) false, false, []⟩,
      ⟨1, none, none, .fieldAddr 1 1 false (.var 2), false, []⟩,
      ⟨2, none, none, .load false 1 (.loc 1) false, false, []⟩,
      ⟨3, none, none, .call 52 [(.loc 0), (.const (.int .i64 0)), (.const (.int .i64 14)), (.loc 2), (.const (.str []))], false, []⟩] false) (
    .seq (
     .region 10 [⟨0, none, none, .mv (.var 6) true, false, []⟩,
       ⟨1, none, none, .bin .eql (.loc 0) (.const (.int .i64 0)), false, []⟩,
       ⟨2, none, none, .mv (.loc 1) false, false, []⟩,
       ⟨3, none, (some ((.loc 2), false)), .mv (.var 0) true, false, []⟩,
       ⟨4, none, (some ((.loc 2), false)), .nilCheck (.loc 3), false, []⟩,
       ⟨5, none, (some ((.loc 2), false)), .fieldAddr 9 31 true (.loc 4), false, []⟩,
       ⟨6, none, (some ((.loc 2), false)), .load true 31 (.loc 5) false, false, []⟩,
       ⟨7, none, (some ((.loc 2), false)), .callp 16 [(.loc 6)], false, []⟩,
       ⟨8, none, none, .pick (.loc 2) (.const (.bool true)) (.loc 7), false, []⟩,
       ⟨9, (some 9), none, .asg (.loc 8), false, []⟩] false) (
    .cond (.var 9) (
     .region 5 [⟨0, none, none, .mv (.var 0) false, false, []⟩,
       ⟨1, none, none, .mv (.var 6) false, false, []⟩,
       ⟨2, none, none, .fieldAddr 1 1 false (.var 2), false, []⟩,
       ⟨3, none, none, .load false 1 (.loc 2) false, false, []⟩,
       ⟨4, none, none, .call 52 [(.loc 0), (.loc 1), (.const (.int .i64 15)), (.loc 3), (.const (.str []))], false, []⟩] false) (
     .skip)))))))))
def l140 : LFun := ⟨2, [(some 0), (some 1), none, none, none, none, none, none, none, none], c140, [], .trim⟩
/-- (*umpire/spec.world).echo -/
def vm141 : List Nat := [0, 1, 3, 4, 5, 6, 18]
def c141 : LCode :=
  .seq (
   .region 1 [⟨0, (some 2), none, .box 57 (.var 1), false, []⟩] false) (
  .seq (
   .region 9 [⟨0, none, none, .load true 3 (.var 2) false, false, []⟩,
     ⟨1, none, none, .callp 50 [(.loc 0)], false, []⟩,
     ⟨2, none, none, .mv (.loc 1) false, false, []⟩,
     ⟨3, none, none, .extract (.loc 2) 0, false, []⟩,
     ⟨4, none, none, .extract (.loc 2) 1, false, []⟩,
     ⟨5, none, none, .extract (.loc 2) 2, false, []⟩,
     ⟨6, (some 3), none, .asg (.loc 3), false, []⟩,
     ⟨7, (some 4), none, .asg (.loc 4), false, []⟩,
     ⟨8, (some 5), none, .asg (.loc 5), false, []⟩] false) (
  .seq (
   .region 6 [⟨0, none, none, .mv (.var 5) false, false, []⟩,
     ⟨1, none, none, .mv (.loc 0) false, false, []⟩,
     ⟨2, none, (some ((.loc 1), true)), .fieldAddr 0 1 false (.var 2), false, []⟩,
     ⟨3, none, (some ((.loc 1), true)), .load false 1 (.loc 2) true, false, []⟩,
     ⟨4, none, (some ((.loc 1), true)), .bin .eql (.loc 3) (.const (.int .i64 9)), false, []⟩,
     ⟨5, (some 6), none, .pick (.loc 1) (.loc 4) (.const (.bool false)), false, []⟩] false) (
  .cond (.var 6) (
   .region 6 [⟨0, none, none, .mv (.var 0) false, false, []⟩,
     ⟨1, none, none, .fieldAddr 1 1 false (.var 2), false, []⟩,
     ⟨2, none, none, .load false 1 (.loc 1) false, false, []⟩,
     ⟨3, none, none, .mv (.var 4) true, false, []⟩,
     ⟨4, none, none, .cvStr (.loc 3), false, []⟩,
     ⟨5, none, none, .call 52 [(.loc 0), (.const (.int .i64 0)), (.const (.int .i64 16)), (.loc 2), (.loc 4)], false, []⟩] false) (
   .skip))))
def l141 : LFun := ⟨2, [(some 0), (some 1), none, none, none, none, none], c141, [], .trim⟩
/-- umpire/packet.Put -/
def vm142 : List Nat := [0, 1, 2, 3, 4, 22, 26]
def r142_0 : LCode :=
  .region 18 [⟨0, none, none, .fieldAddr 0 1 false (.var 1), false, []⟩,
    ⟨1, none, none, .load false 1 (.loc 0) true, false, []⟩,
    ⟨2, none, none, .bin .lss (.loc 1) (.const (.int .i64 0)), false, []⟩,
    ⟨3, none, none, .mv (.loc 2) false, false, []⟩,
    ⟨4, none, (some ((.loc 3), false)), .fieldAddr 0 1 false (.var 1), false, []⟩,
    ⟨5, none, (some ((.loc 3), false)), .load false 1 (.loc 4) true, false, []⟩,
    ⟨6, none, (some ((.loc 3), false)), .bin .gtr (.loc 5) (.const (.int .i64 255)), false, []⟩,
    ⟨7, none, none, .pick (.loc 3) (.const (.bool true)) (.loc 6), false, []⟩,
    ⟨8, none, none, .mv (.loc 7) false, false, []⟩,
    ⟨9, none, (some ((.loc 8), false)), .fieldAddr 1 1 false (.var 1), false, []⟩,
    ⟨10, none, (some ((.loc 8), false)), .load false 1 (.loc 9) true, false, []⟩,
    ⟨11, none, (some ((.loc 8), false)), .bin .lss (.loc 10) (.const (.int .i64 0)), false, []⟩,
    ⟨12, none, none, .pick (.loc 8) (.const (.bool true)) (.loc 11), false, []⟩,
    ⟨13, none, none, .mv (.loc 12) false, false, []⟩,
    ⟨14, none, (some ((.loc 13), false)), .fieldAddr 1 1 false (.var 1), false, []⟩,
    ⟨15, none, (some ((.loc 13), false)), .load false 1 (.loc 14) true, false, []⟩,
    ⟨16, none, (some ((.loc 13), false)), .bin .gtr (.loc 15) (.const (.int .i64 255)), false, []⟩,
    ⟨17, (some 5), none, .pick (.loc 13) (.const (.bool true)) (.loc 16), false, []⟩] false
def r142_1 : LCode :=
  .region 17 [⟨0, none, none, .fieldAddr 0 1 false (.var 1), false, []⟩,
    ⟨1, none, none, .load false 1 (.loc 0) true, false, []⟩,
    ⟨2, none, none, .cvInt .u8 (.loc 1), false, []⟩,
    ⟨3, none, none, .fieldAddr 1 1 false (.var 1), false, []⟩,
    ⟨4, none, none, .load false 1 (.loc 3) true, false, []⟩,
    ⟨5, none, none, .cvInt .u8 (.loc 4), false, []⟩,
    ⟨6, none, none, .mv (.var 4) true, false, []⟩,
    ⟨7, none, none, .bin .shr (.loc 6) (.const (.int .u64 8)), false, []⟩,
    ⟨8, none, none, .cvInt .u8 (.loc 7), false, []⟩,
    ⟨9, none, none, .mv (.var 4) true, false, []⟩,
    ⟨10, none, none, .cvInt .u8 (.loc 9), false, []⟩,
    ⟨11, none, none, .mkslice (.int .u8 0) 1 4 [(0, (.loc 2)), (1, (.loc 5)), (2, (.loc 8)), (3, (.loc 10))], false, []⟩,
    ⟨12, none, none, .fieldAddr 2 1 false (.var 1), false, []⟩,
    ⟨13, none, none, .load false 1 (.loc 12) true, false, []⟩,
    ⟨14, none, none, .append 5 1 1 (.loc 11) (.loc 13), false, []⟩,
    ⟨15, (some 2), none, .asg (.loc 14), false, []⟩,
    ⟨16, (some 3), none, .asg (.const (.int .i64 0)), false, []⟩] false
def c142 : LCode :=
  .seq (
   .region 3 [⟨0, (some 1), none, .box 57 (.var 0), false, []⟩,
     ⟨1, (some 2), none, .asg (.const (.vs true .sh 0 [])), false, []⟩,
     ⟨2, (some 3), none, .asg (.const (.int .i64 0)), false, []⟩] false) (
  .seq (
   .seq (
    r142_0) (
   .cond (.var 5) (
    .seq (
     .region 2 [⟨0, (some 2), none, .asg (.const (.vs true .sh 0 [])), false, []⟩,
       ⟨1, (some 3), none, .asg (.const (.int .i64 1)), false, []⟩] false) (
    .ret)) (
    .skip))) (
  .seq (
   .seq (
    .region 4 [⟨0, none, none, .fieldAddr 2 1 false (.var 1), false, []⟩,
      ⟨1, none, none, .load false 1 (.loc 0) true, false, []⟩,
      ⟨2, none, none, .len 1 (.loc 1), false, []⟩,
      ⟨3, (some 6), none, .bin .gtr (.loc 2) (.const (.int .i64 65531)), false, []⟩] false) (
   .cond (.var 6) (
    .seq (
     .region 2 [⟨0, (some 2), none, .asg (.const (.vs true .sh 0 [])), false, []⟩,
       ⟨1, (some 3), none, .asg (.const (.int .i64 4)), false, []⟩] false) (
    .ret)) (
    .skip))) (
  .seq (
   .region 5 [⟨0, none, none, .fieldAddr 2 1 false (.var 1), false, []⟩,
     ⟨1, none, none, .load false 1 (.loc 0) true, false, []⟩,
     ⟨2, none, none, .len 1 (.loc 1), false, []⟩,
     ⟨3, none, none, .bin .add (.const (.int .i64 4)) (.loc 2), false, []⟩,
     ⟨4, (some 4), none, .asg (.loc 3), false, []⟩] false) (
  .seq (
   r142_1) (
  .ret)))))
def l142 : LFun := ⟨1, [(some 0), none, none, none, none, none, none], c142, [.var 2, .var 3], .pure⟩
/-- umpire/reply.CodeReject -/
def vm143 : List Nat := [0, 1, 4]
def c143 : LCode :=
  .seq (
   .region 1 [⟨0, (some 2), none, .asg (.const (.vs true .sh 0 [])), false, []⟩] false) (
  .seq (
   .region 6 [⟨0, none, none, .mv (.var 0) false, false, []⟩,
     ⟨1, none, none, .mv (.var 1) false, false, []⟩,
     ⟨2, none, none, .callp 147 [(.loc 1)], false, []⟩,
     ⟨3, none, none, .bin .sub (.loc 2) (.const (.int .i64 4)), false, []⟩,
     ⟨4, none, none, .callp 146 [(.loc 0), (.loc 3)], false, []⟩,
     ⟨5, (some 2), none, .asg (.loc 4), false, []⟩] false) (
  .ret))
def l143 : LFun := ⟨2, [(some 0), (some 1), none], c143, [.var 2], .pure⟩
/-- umpire/auth.Hear -/
def vm144 : List Nat := [0, 1, 2, 3, 5, 6, 7, 8, 9, 10, 11, 12, 31, 32, 41, 46, 59, 73, 86, 92, 121, 127, 136]
def r144_0 : LCode :=
  .region 16 [⟨0, none, none, .fieldAddr 1 1 false (.var 3), false, []⟩,
    ⟨1, none, none, .load false 1 (.loc 0) true, false, []⟩,
    ⟨2, none, none, .mv (.var 1) true, false, []⟩,
    ⟨3, none, none, .bin .eql (.loc 1) (.loc 2), false, []⟩,
    ⟨4, none, none, .mv (.loc 3) false, false, []⟩,
    ⟨5, none, (some ((.loc 4), true)), .fieldAddr 7 1 false (.var 3), false, []⟩,
    ⟨6, none, (some ((.loc 4), true)), .load false 1 (.loc 5) false, false, []⟩,
    ⟨7, none, none, .pick (.loc 4) (.loc 6) (.const (.bool false)), false, []⟩,
    ⟨8, none, none, .mv (.loc 7) false, false, []⟩,
    ⟨9, none, (some ((.loc 8), true)), .fieldAddr 8 1 false (.var 3), false, []⟩,
    ⟨10, none, (some ((.loc 8), true)), .load false 1 (.loc 9) true, false, []⟩,
    ⟨11, none, (some ((.loc 8), true)), .fieldAddr 1 1 false (.var 4), false, []⟩,
    ⟨12, none, (some ((.loc 8), true)), .load false 1 (.loc 11) true, false, []⟩,
    ⟨13, none, (some ((.loc 8), true)), .bin .eql (.loc 10) (.loc 12), false, []⟩,
    ⟨14, none, none, .pick (.loc 8) (.loc 13) (.const (.bool false)), false, []⟩,
    ⟨15, (some 7), none, .asg (.loc 14), false, []⟩] false
def r144_1 : LCode :=
  .region 22 [⟨0, none, none, .mv (.var 11) false, false, []⟩,
    ⟨1, none, none, .mv (.loc 0) false, false, []⟩,
    ⟨2, none, (some ((.loc 1), true)), .fieldAddr 0 1 false (.var 3), false, []⟩,
    ⟨3, none, (some ((.loc 1), true)), .load false 1 (.loc 2) true, false, []⟩,
    ⟨4, none, (some ((.loc 1), true)), .bin .eql (.loc 3) (.const (.int .i64 49699)), false, []⟩,
    ⟨5, none, none, .pick (.loc 1) (.loc 4) (.const (.bool false)), false, []⟩,
    ⟨6, none, none, .mv (.loc 5) false, false, []⟩,
    ⟨7, none, (some ((.loc 6), true)), .fieldAddr 4 1 false (.var 3), false, []⟩,
    ⟨8, none, (some ((.loc 6), true)), .load false 1 (.loc 7) false, false, []⟩,
    ⟨9, none, none, .pick (.loc 6) (.loc 8) (.const (.bool false)), false, []⟩,
    ⟨10, none, none, .mv (.loc 9) false, false, []⟩,
    ⟨11, none, (some ((.loc 10), true)), .fieldAddr 5 1 false (.var 3), false, []⟩,
    ⟨12, none, (some ((.loc 10), true)), .load false 1 (.loc 11) true, false, []⟩,
    ⟨13, none, (some ((.loc 10), true)), .fieldAddr 1 1 false (.var 4), false, []⟩,
    ⟨14, none, (some ((.loc 10), true)), .load false 1 (.loc 13) true, false, []⟩,
    ⟨15, none, (some ((.loc 10), true)), .bin .eql (.loc 12) (.loc 14), false, []⟩,
    ⟨16, none, none, .pick (.loc 10) (.loc 15) (.const (.bool false)), false, []⟩,
    ⟨17, none, none, .mv (.loc 16) false, false, []⟩,
    ⟨18, none, (some ((.loc 17), true)), .mv (.var 10) true, false, []⟩,
    ⟨19, none, (some ((.loc 17), true)), .len 1 (.loc 18), false, []⟩,
    ⟨20, none, (some ((.loc 17), true)), .bin .eql (.loc 19) (.const (.int .i64 16)), false, []⟩,
    ⟨21, (some 20), none, .pick (.loc 17) (.loc 20) (.const (.bool false)), false, []⟩] false
def c144 : LCode :=
  .seq (
   .region 4 [⟨0, (some 3), none, .box 31 (.var 0), false, []⟩,
     ⟨1, (some 4), none, .box 57 (.var 2), false, []⟩,
     ⟨2, (some 5), none, .alloc 31 [(.int .i64 0), (.int .i64 0), (.bool false), (.bool false), (.bool false), (.int .i64 0), (.str []), (.bool false), (.int .i64 0)], false, []⟩,
     ⟨3, (some 6), none, .asg (.const (.vs true .sh 0 [])), false, []⟩] false) (
  .seq (
   r144_0) (
  .seq (
   .seq (
    .region 4 [⟨0, none, none, .mv (.var 1) false, false, []⟩,
      ⟨1, none, none, .fieldAddr 0 1 false (.var 4), false, []⟩,
      ⟨2, none, none, .load false 1 (.loc 1) false, false, []⟩,
      ⟨3, (some 12), none, .build [(.int .i64 0), (.int .i64 0)] [(0, 1, (.loc 0)), (1, 1, (.loc 2))], false, []⟩] false) (
   .block 0 (
    .seq (
     .region 3 [⟨0, none, none, .build [(.int .i64 0), (.int .i64 0)] [(0, 1, (.const (.int .i64 49187))), (1, 1, (.const (.int .i64 1)))], false, []⟩,
       ⟨1, none, none, .eqAgg false [(.i .i64), (.i .i64)] (.var 12) (.loc 0), false, []⟩,
       ⟨2, (some 13), none, .asg (.loc 1), false, []⟩] false) (
    .cond (.var 13) (
     .seq (
      .region 7 [⟨0, none, none, .fieldAddr 0 1 false (.var 3), false, []⟩,
        ⟨1, none, none, .load false 1 (.loc 0) true, false, []⟩,
        ⟨2, none, none, .bin .eql (.loc 1) (.const (.int .i64 49187)), false, []⟩,
        ⟨3, none, none, .mv (.loc 2) false, false, []⟩,
        ⟨4, none, (some ((.loc 3), true)), .load true 3 (.var 4) false, false, []⟩,
        ⟨5, none, (some ((.loc 3), true)), .callp 64 [(.loc 4)], false, []⟩,
        ⟨6, (some 14), none, .pick (.loc 3) (.loc 5) (.const (.bool false)), false, []⟩] false) (
     .cond (.var 14) (
      .seq (
       .region 6 [⟨0, none, none, .load true 9 (.var 3) false, false, []⟩,
         ⟨1, none, none, .mv (.var 1) false, false, []⟩,
         ⟨2, none, none, .load true 3 (.var 4) false, false, []⟩,
         ⟨3, none, none, .callp 151 [(.const (.int .i64 9)), (.loc 1), (.loc 2), (.const (.vs true .sh 0 []))], false, []⟩,
         ⟨4, (some 23), none, .store 9 (.var 5) (.loc 0), false, []⟩,
         ⟨5, (some 6), none, .asg (.loc 3), false, []⟩] true) (
      .ret)) (
      .skip))) (
     .seq (
      .region 3 [⟨0, none, none, .build [(.int .i64 0), (.int .i64 0)] [(0, 1, (.const (.int .i64 49187))), (1, 1, (.const (.int .i64 2)))], false, []⟩,
        ⟨1, none, none, .eqAgg false [(.i .i64), (.i .i64)] (.var 12) (.loc 0), false, []⟩,
        ⟨2, (some 15), none, .asg (.loc 1), false, []⟩] false) (
     .cond (.var 15) (
      .region 11 [⟨0, none, none, .fieldAddr 3 1 false (.var 3), false, []⟩,
        ⟨1, none, none, .load false 1 (.loc 0) false, false, []⟩,
        ⟨2, none, none, .mv (.loc 1) false, false, []⟩,
        ⟨3, none, (some ((.loc 2), false)), .mv (.var 7) false, false, []⟩,
        ⟨4, none, (some ((.loc 2), false)), .mv (.loc 3) false, false, []⟩,
        ⟨5, none, (some ((.loc 4), true)), .load true 3 (.var 4) false, false, []⟩,
        ⟨6, none, (some ((.loc 4), true)), .callp 77 [(.loc 5)], false, []⟩,
        ⟨7, none, (some ((.loc 2), false)), .pick (.loc 4) (.loc 6) (.const (.bool false)), false, []⟩,
        ⟨8, none, none, .pick (.loc 2) (.const (.bool true)) (.loc 7), false, []⟩,
        ⟨9, none, none, .fieldAddr 3 1 false (.var 3), false, []⟩,
        ⟨10, (some 23), none, .store 1 (.loc 9) (.loc 8), false, []⟩] false) (
      .seq (
       .region 3 [⟨0, none, none, .build [(.int .i64 0), (.int .i64 0)] [(0, 1, (.const (.int .i64 49187))), (1, 1, (.const (.int .i64 3)))], false, []⟩,
         ⟨1, none, none, .eqAgg false [(.i .i64), (.i .i64)] (.var 12) (.loc 0), false, []⟩,
         ⟨2, (some 16), none, .asg (.loc 1), false, []⟩] false) (
      .cond (.var 16) (
       .region 12 [⟨0, none, none, .fieldAddr 7 1 false (.var 3), false, []⟩,
         ⟨1, none, none, .load false 1 (.loc 0) false, false, []⟩,
         ⟨2, none, none, .mv (.loc 1) false, false, []⟩,
         ⟨3, none, (some ((.loc 2), true)), .mv (.var 7) false, false, []⟩,
         ⟨4, none, (some ((.loc 2), true)), .mv (.loc 3) false, false, []⟩,
         ⟨5, none, (some ((.loc 4), true)), .load true 3 (.var 4) false, false, []⟩,
         ⟨6, none, (some ((.loc 4), true)), .callp 77 [(.loc 5)], false, []⟩,
         ⟨7, none, (some ((.loc 2), true)), .pick (.loc 4) (.loc 6) (.const (.bool false)), false, []⟩,
         ⟨8, none, (some ((.loc 2), true)), .un .not (.loc 7), false, []⟩,
         ⟨9, none, none, .pick (.loc 2) (.loc 8) (.const (.bool false)), false, []⟩,
         ⟨10, none, none, .fieldAddr 7 1 false (.var 3), false, []⟩,
         ⟨11, (some 23), none, .store 1 (.loc 10) (.loc 9), false, []⟩] false) (
       .seq (
        .region 3 [⟨0, none, none, .build [(.int .i64 0), (.int .i64 0)] [(0, 1, (.const (.int .i64 49699))), (1, 1, (.const (.int .i64 1)))], false, []⟩,
          ⟨1, none, none, .eqAgg false [(.i .i64), (.i .i64)] (.var 12) (.loc 0), false, []⟩,
          ⟨2, (some 17), none, .asg (.loc 1), false, []⟩] false) (
       .cond (.var 17) (
        .seq (
         .region 7 [⟨0, none, none, .load true 3 (.var 4) false, false, []⟩,
           ⟨1, none, none, .callp 61 [(.loc 0)], false, []⟩,
           ⟨2, none, none, .mv (.loc 1) false, false, []⟩,
           ⟨3, none, none, .extract (.loc 2) 0, false, []⟩,
           ⟨4, none, none, .extract (.loc 2) 1, false, []⟩,
           ⟨5, (some 8), none, .asg (.loc 3), false, []⟩,
           ⟨6, (some 9), none, .asg (.loc 4), false, []⟩] false) (
        .seq (
         .region 6 [⟨0, none, none, .mv (.var 9) false, false, []⟩,
           ⟨1, none, none, .mv (.loc 0) false, false, []⟩,
           ⟨2, none, (some ((.loc 1), true)), .fieldAddr 1 1 false (.var 3), false, []⟩,
           ⟨3, none, (some ((.loc 1), true)), .load false 1 (.loc 2) true, false, []⟩,
           ⟨4, none, (some ((.loc 1), true)), .bin .eql (.loc 3) (.const (.int .i64 49699)), false, []⟩,
           ⟨5, (some 18), none, .pick (.loc 1) (.loc 4) (.const (.bool false)), false, []⟩] false) (
        .cond (.var 18) (
         .seq (
          .region 7 [⟨0, none, none, .load true 9 (.var 3) false, false, []⟩,
            ⟨1, none, none, .mv (.var 1) false, false, []⟩,
            ⟨2, none, none, .load true 3 (.var 4) false, false, []⟩,
            ⟨3, none, none, .mv (.var 8) false, false, []⟩,
            ⟨4, none, none, .callp 151 [(.const (.int .i64 11)), (.loc 1), (.loc 2), (.loc 3)], false, []⟩,
            ⟨5, (some 23), none, .store 9 (.var 5) (.loc 0), false, []⟩,
            ⟨6, (some 6), none, .asg (.loc 4), false, []⟩] true) (
         .ret)) (
         .skip)))) (
        .seq (
         .region 3 [⟨0, none, none, .build [(.int .i64 0), (.int .i64 0)] [(0, 1, (.const (.int .i64 49699))), (1, 1, (.const (.int .i64 2)))], false, []⟩,
           ⟨1, none, none, .eqAgg false [(.i .i64), (.i .i64)] (.var 12) (.loc 0), false, []⟩,
           ⟨2, (some 19), none, .asg (.loc 1), false, []⟩] false) (
        .cond (.var 19) (
         .seq (
          .region 7 [⟨0, none, none, .load true 3 (.var 4) false, false, []⟩,
            ⟨1, none, none, .callp 61 [(.loc 0)], false, []⟩,
            ⟨2, none, none, .mv (.loc 1) false, false, []⟩,
            ⟨3, none, none, .extract (.loc 2) 0, false, []⟩,
            ⟨4, none, none, .extract (.loc 2) 1, false, []⟩,
            ⟨5, (some 10), none, .asg (.loc 3), false, []⟩,
            ⟨6, (some 11), none, .asg (.loc 4), false, []⟩] false) (
         .seq (
          r144_1) (
         .cond (.var 20) (
          .seq (
           .region 7 [⟨0, none, none, .load true 9 (.var 3) false, false, []⟩,
             ⟨1, none, none, .mv (.var 1) false, false, []⟩,
             ⟨2, none, none, .load true 3 (.var 4) false, false, []⟩,
             ⟨3, none, none, .mv (.var 10) false, false, []⟩,
             ⟨4, none, none, .callp 151 [(.const (.int .i64 10)), (.loc 1), (.loc 2), (.loc 3)], false, []⟩,
             ⟨5, (some 23), none, .store 9 (.var 5) (.loc 0), false, []⟩,
             ⟨6, (some 6), none, .asg (.loc 4), false, []⟩] true) (
          .ret)) (
          .skip)))) (
         .seq (
          .region 3 [⟨0, none, none, .build [(.int .i64 0), (.int .i64 0)] [(0, 1, (.const (.int .i64 49699))), (1, 1, (.const (.int .i64 3)))], false, []⟩,
            ⟨1, none, none, .eqAgg false [(.i .i64), (.i .i64)] (.var 12) (.loc 0), false, []⟩,
            ⟨2, (some 21), none, .asg (.loc 1), false, []⟩] false) (
         .cond (.var 21) (
          .region 7 [⟨0, none, none, .fieldAddr 3 1 false (.var 3), false, []⟩,
            ⟨1, none, none, .load false 1 (.loc 0) false, false, []⟩,
            ⟨2, none, none, .mv (.loc 1) false, false, []⟩,
            ⟨3, none, (some ((.loc 2), false)), .mv (.var 7) false, false, []⟩,
            ⟨4, none, none, .pick (.loc 2) (.const (.bool true)) (.loc 3), false, []⟩,
            ⟨5, none, none, .fieldAddr 3 1 false (.var 3), false, []⟩,
            ⟨6, (some 23), none, .store 1 (.loc 5) (.loc 4), false, []⟩] false) (
          .seq (
           .region 3 [⟨0, none, none, .build [(.int .i64 0), (.int .i64 0)] [(0, 1, (.const (.int .i64 49699))), (1, 1, (.const (.int .i64 4)))], false, []⟩,
             ⟨1, none, none, .eqAgg false [(.i .i64), (.i .i64)] (.var 12) (.loc 0), false, []⟩,
             ⟨2, (some 22), none, .asg (.loc 1), false, []⟩] false) (
          .cond (.var 22) (
           .region 8 [⟨0, none, none, .fieldAddr 3 1 false (.var 3), false, []⟩,
             ⟨1, none, none, .load false 1 (.loc 0) false, false, []⟩,
             ⟨2, none, none, .mv (.loc 1) false, false, []⟩,
             ⟨3, none, (some ((.loc 2), true)), .mv (.var 7) true, false, []⟩,
             ⟨4, none, (some ((.loc 2), true)), .un .not (.loc 3), false, []⟩,
             ⟨5, none, none, .pick (.loc 2) (.loc 4) (.const (.bool false)), false, []⟩,
             ⟨6, none, none, .fieldAddr 3 1 false (.var 3), false, []⟩,
             ⟨7, (some 23), none, .store 1 (.loc 6) (.loc 5), false, []⟩] false) (
           .skip))))))))))))))))) (
  .seq (
   .region 3 [⟨0, none, none, .load true 9 (.var 3) false, false, []⟩,
     ⟨1, (some 23), none, .store 9 (.var 5) (.loc 0), false, []⟩,
     ⟨2, (some 6), none, .asg (.const (.vs true .sh 0 [])), false, []⟩] false) (
  .ret))))
def l144 : LFun := ⟨3, [(some 0), (some 1), (some 2), none, none, none, none, none, none, none, none, none, none, none, none, none, none, none, none, none, none, none, none], c144, [.cell 5 9 true, .var 6], .pure⟩
/-- umpire/octet.Put -/
def vm145 : List Nat := [0, 1, 2, 6, 7, 8, 9, 13, 16, 17, 18, 29]
def b145_0 : LCode :=
  .fence [1, 3, 4, 6, 7, 10, 11] (
   .seq (
    .region 1 [⟨0, (some 10), none, .bin .lss (.var 9) (.var 8), false, []⟩] false) (
   .seq (
    .cond (.var 10) (
     .skip) (
     .exit 0)) (
   .seq (
    .block 1 (
     .seq (
      .region 2 [⟨0, none, none, .mv (.var 9) false, false, []⟩,
        ⟨1, (some 6), none, .asg (.loc 0), false, []⟩] false) (
     .region 9 [⟨0, none, none, .mv (.var 5) false, false, []⟩,
       ⟨1, none, none, .mv (.var 6) false, false, []⟩,
       ⟨2, none, none, .mv (.var 0) true, false, []⟩,
       ⟨3, none, none, .mv (.var 6) true, false, []⟩,
       ⟨4, none, none, .bin .mul (.const (.int .i64 8)) (.loc 3), false, []⟩,
       ⟨5, none, none, .bin .shr (.loc 2) (.loc 4), false, []⟩,
       ⟨6, none, none, .cvInt .u8 (.loc 5), false, []⟩,
       ⟨7, none, none, .idxAddrVs 1 (.loc 0) (.loc 1), false, []⟩,
       ⟨8, (some 12), none, .store 1 (.loc 7) (.loc 6), false, []⟩] false))) (
   .region 2 [⟨0, none, none, .bin .add (.var 9) (.const (.int .i64 1)), false, []⟩,
     ⟨1, (some 9), none, .mv (.loc 0) false, false, []⟩] false))))
def c145 : LCode :=
  .seq (
   .region 2 [⟨0, (some 3), none, .asg (.const (.vs true .sh 0 [])), false, []⟩,
     ⟨1, (some 4), none, .asg (.const (.bool false)), false, []⟩] false) (
  .seq (
   .seq (
    .region 4 [⟨0, none, none, .mv (.var 0) false, false, []⟩,
      ⟨1, none, none, .mv (.var 1) false, false, []⟩,
      ⟨2, none, none, .callp 152 [(.loc 0), (.loc 1)], false, []⟩,
      ⟨3, (some 7), none, .un .not (.loc 2), false, []⟩] false) (
   .cond (.var 7) (
    .seq (
     .region 2 [⟨0, (some 3), none, .asg (.const (.vs true .sh 0 [])), false, []⟩,
       ⟨1, (some 4), none, .asg (.const (.bool false)), false, []⟩] false) (
    .ret)) (
    .skip))) (
  .seq (
   .region 3 [⟨0, none, none, .mv (.var 1) false, false, []⟩,
     ⟨1, none, none, .makeSlice (.int .u8 0) 5 1 1 (.loc 0) (.loc 0) true, false, []⟩,
     ⟨2, (some 5), none, .asg (.loc 1), false, []⟩] false) (
  .seq (
   .seq (
    .region 2 [⟨0, (some 8), none, .mv (.var 1) false, false, []⟩,
      ⟨1, (some 9), none, .mv (.const (.int .i64 0)) false, false, []⟩] false) (
   .fence [0, 1, 3, 4, 6, 7, 8, 9, 10, 11] (
    .block 0 (
     .loop b145_0)))) (
  .seq (
   .seq (
    .region 1 [⟨0, (some 11), none, .mv (.var 2) false, false, []⟩] false) (
   .cond (.var 11) (
    .region 2 [⟨0, none, none, .thaw 5 1 false, false, []⟩,
      ⟨1, none, none, .callp 153 [(.loc 0)], false, []⟩] false) (
    .skip))) (
  .seq (
   .region 3 [⟨0, none, none, .mv (.var 5) false, false, []⟩,
     ⟨1, (some 3), none, .asg (.loc 0), false, []⟩,
     ⟨2, (some 4), none, .asg (.const (.bool true)), false, []⟩] false) (
  .ret))))))
def l145 : LFun := ⟨3, [(some 0), (some 1), (some 2), none, none, none, none, none, none, none, none, none], c145, [.var 3, .var 4], .pureF⟩
/-- umpire/reply.fit -/
def vm147 : List Nat := [0, 2]
def c147 : LCode :=
  .seq (
   .region 1 [⟨0, (some 1), none, .asg (.const (.int .i64 0)), false, []⟩] false) (
  .seq (
   .region 4 [⟨0, none, none, .mv (.var 0) false, false, []⟩,
     ⟨1, none, none, .minmax true (.loc 0) [(.const (.int .i64 0))], false, []⟩,
     ⟨2, none, none, .minmax false (.loc 1) [(.const (.int .i64 65531))], false, []⟩,
     ⟨3, (some 1), none, .asg (.loc 2), false, []⟩] false) (
  .ret))
def l147 : LFun := ⟨1, [(some 0), none], c147, [.var 1], .pure⟩
/-- umpire/reply.cut -/
def vm146 : List Nat := [0, 1, 4, 5, 6]
def c146 : LCode :=
  .seq (
   .region 1 [⟨0, (some 2), none, .asg (.const (.vs true .sh 0 [])), false, []⟩] false) (
  .seq (
   .region 12 [⟨0, none, none, .mv (.var 0) false, false, []⟩,
     ⟨1, none, none, .mv (.var 1) false, false, []⟩,
     ⟨2, none, none, .minmax true (.loc 1) [(.const (.int .i64 0))], false, []⟩,
     ⟨3, none, none, .mv (.var 0) true, false, []⟩,
     ⟨4, none, none, .len 1 (.loc 3), false, []⟩,
     ⟨5, none, none, .minmax false (.loc 2) [(.loc 4)], false, []⟩,
     ⟨6, none, none, .callp 55 [(.loc 0), (.const (.int .i64 0)), (.loc 5)], false, []⟩,
     ⟨7, none, none, .mv (.loc 6) false, false, []⟩,
     ⟨8, none, none, .extract (.loc 7) 0, false, []⟩,
     ⟨9, none, none, .extract (.loc 7) 1, false, []⟩,
     ⟨10, (some 3), none, .asg (.loc 8), false, []⟩,
     ⟨11, (some 4), none, .asg (.loc 9), false, []⟩] false) (
  .seq (
   .region 2 [⟨0, none, none, .mv (.var 3) false, false, []⟩,
     ⟨1, (some 2), none, .asg (.loc 0), false, []⟩] false) (
  .ret)))
def l146 : LFun := ⟨2, [(some 0), (some 1), none, none, none], c146, [.var 2], .pure⟩
/-- umpire/table.Look -/
def vm83 : List Nat := [0, 1, 4, 5, 6, 7, 8]
def c83 : LCode :=
  .seq (
   .region 3 [⟨0, (some 2), none, .asg (.const (.int .i64 0)), false, []⟩,
     ⟨1, (some 3), none, .asg (.const (.vs true .sh 0 [])), false, []⟩,
     ⟨2, (some 4), none, .asg (.const (.bool false)), false, []⟩] false) (
  .seq (
   .region 9 [⟨0, none, none, .mv (.var 0) false, false, []⟩,
     ⟨1, none, none, .mv (.var 1) false, false, []⟩,
     ⟨2, none, none, .callp 93 [(.loc 0), (.loc 1)], false, []⟩,
     ⟨3, none, none, .mv (.loc 2) false, false, []⟩,
     ⟨4, none, none, .extract (.loc 3) 0, false, []⟩,
     ⟨5, none, none, .extract (.loc 3) 1, false, []⟩,
     ⟨6, (some 5), none, .alloc 176 [(.int .i64 0), (.vs true .sh 0 [])], false, []⟩,
     ⟨7, (some 7), none, .store 2 (.var 5) (.loc 4), false, []⟩,
     ⟨8, (some 6), none, .asg (.loc 5), false, []⟩] false) (
  .seq (
   .region 8 [⟨0, none, none, .fieldAddr 0 1 false (.var 5), false, []⟩,
     ⟨1, none, none, .load false 1 (.loc 0) false, false, []⟩,
     ⟨2, none, none, .fieldAddr 1 1 false (.var 5), false, []⟩,
     ⟨3, none, none, .load false 1 (.loc 2) false, false, []⟩,
     ⟨4, none, none, .mv (.var 6) false, false, []⟩,
     ⟨5, (some 2), none, .asg (.loc 1), false, []⟩,
     ⟨6, (some 3), none, .asg (.loc 3), false, []⟩,
     ⟨7, (some 4), none, .asg (.loc 4), false, []⟩] true) (
  .ret)))
def l83 : LFun := ⟨2, [(some 0), (some 1), none, none, none, none, none], c83, [.var 2, .var 3, .var 4], .pure⟩
/-- umpire/auto.Step -/
def vm65 : List Nat := [0, 1, 2, 3, 4, 6, 7, 8, 9, 10, 11, 12, 13, 41, 45, 46, 47, 48, 52, 53, 61, 65, 68]
def r65_0 : LCode :=
  .region 20 [⟨0, none, none, .mv (.var 10) true, false, []⟩,
    ⟨1, none, none, .un .not (.loc 0), false, []⟩,
    ⟨2, none, none, .mv (.loc 1) false, false, []⟩,
    ⟨3, none, (some ((.loc 2), false)), .mv (.var 2) true, false, []⟩,
    ⟨4, none, (some ((.loc 2), false)), .bin .eql (.loc 3) (.const (.int .i64 5)), false, []⟩,
    ⟨5, none, (some ((.loc 2), false)), .mv (.loc 4) false, false, []⟩,
    ⟨6, none, (some ((.loc 5), true)), .fieldAddr 1 1 false (.var 4), false, []⟩,
    ⟨7, none, (some ((.loc 5), true)), .load false 1 (.loc 6) true, false, []⟩,
    ⟨8, none, (some ((.loc 5), true)), .bin .eql (.loc 7) (.const (.int .i64 0)), false, []⟩,
    ⟨9, none, (some ((.loc 2), false)), .pick (.loc 5) (.loc 8) (.const (.bool false)), false, []⟩,
    ⟨10, none, none, .pick (.loc 2) (.const (.bool true)) (.loc 9), false, []⟩,
    ⟨11, none, none, .mv (.loc 10) false, false, []⟩,
    ⟨12, none, (some ((.loc 11), false)), .mv (.var 2) true, false, []⟩,
    ⟨13, none, (some ((.loc 11), false)), .bin .eql (.loc 12) (.const (.int .i64 6)), false, []⟩,
    ⟨14, none, (some ((.loc 11), false)), .mv (.loc 13) false, false, []⟩,
    ⟨15, none, (some ((.loc 14), true)), .fieldAddr 1 1 false (.var 4), false, []⟩,
    ⟨16, none, (some ((.loc 14), true)), .load false 1 (.loc 15) true, false, []⟩,
    ⟨17, none, (some ((.loc 14), true)), .bin .gtr (.loc 16) (.const (.int .i64 0)), false, []⟩,
    ⟨18, none, (some ((.loc 11), false)), .pick (.loc 14) (.loc 17) (.const (.bool false)), false, []⟩,
    ⟨19, (some 13), none, .pick (.loc 11) (.const (.bool true)) (.loc 18), false, []⟩] false
def b65_1 : LCode :=
  .fence [0, 1, 2, 6, 7, 8, 10, 11, 12, 13, 17, 18, 19, 20, 21, 22] (
   .seq (
    .region 1 [⟨0, (some 17), none, .bin .lss (.var 16) (.var 15), false, []⟩] false) (
   .seq (
    .cond (.var 17) (
     .skip) (
     .exit 0)) (
   .seq (
    .block 1 (
     .seq (
      .region 5 [⟨0, none, none, .mv (.var 16) false, false, []⟩,
        ⟨1, none, none, .idxAddrVs 1 (.var 14) (.var 16), false, []⟩,
        ⟨2, none, none, .load false 1 (.loc 1) false, false, []⟩,
        ⟨3, (some 11), none, .asg (.loc 0), false, []⟩,
        ⟨4, (some 12), none, .asg (.loc 2), false, []⟩] false) (
     .seq (
      .region 1 [⟨0, (some 18), none, .mv (.var 12) false, false, []⟩] false) (
     .block 2 (
      .seq (
       .region 2 [⟨0, none, none, .bin .eql (.var 18) (.const (.int .i64 5)), false, []⟩,
         ⟨1, (some 19), none, .asg (.loc 0), false, []⟩] false) (
      .cond (.var 19) (
       .seq (
        .region 4 [⟨0, none, none, .fieldAddr 0 1 false (.var 3), false, []⟩,
          ⟨1, none, none, .load false 1 (.loc 0) false, false, []⟩,
          ⟨2, none, none, .fieldAddr 1 1 false (.var 4), false, []⟩,
          ⟨3, (some 23), none, .store 1 (.loc 2) (.loc 1), false, []⟩] false) (
       .seq (
        .region 4 [⟨0, none, none, .mv (.var 9) false, false, []⟩,
          ⟨1, none, none, .mv (.var 11) false, false, []⟩,
          ⟨2, none, none, .sliceVs 1 (.loc 0) (some (.loc 1)) none none, false, []⟩,
          ⟨3, (some 20), none, .callp 84 [(.loc 2), (.const (.int .i64 10))], false, []⟩] false) (
       .cond (.var 20) (
        .region 4 [⟨0, none, none, .fieldAddr 1 1 false (.var 3), false, []⟩,
          ⟨1, none, none, .load false 1 (.loc 0) false, false, []⟩,
          ⟨2, none, none, .fieldAddr 1 1 false (.var 4), false, []⟩,
          ⟨3, (some 23), none, .store 1 (.loc 2) (.loc 1), false, []⟩] false) (
        .skip)))) (
       .seq (
        .region 2 [⟨0, none, none, .bin .eql (.var 18) (.const (.int .i64 6)), false, []⟩,
          ⟨1, (some 21), none, .asg (.loc 0), false, []⟩] false) (
       .cond (.var 21) (
        .region 2 [⟨0, none, none, .fieldAddr 1 1 false (.var 4), false, []⟩,
          ⟨1, (some 23), none, .store 1 (.loc 0) (.const (.int .i64 0)), false, []⟩] false) (
        .seq (
         .seq (
          .region 2 [⟨0, none, none, .bin .eql (.var 18) (.const (.int .i64 7)), false, []⟩,
            ⟨1, (some 22), none, .asg (.loc 0), false, []⟩] false) (
         .cond (.var 22) (
          .skip) (
          .region 2 [⟨0, none, none, .bin .eql (.var 18) (.const (.int .i64 10)), false, []⟩,
            ⟨1, (some 22), none, .asg (.loc 0), false, []⟩] false))) (
        .cond (.var 22) (
         .region 6 [⟨0, none, none, .fieldAddr 1 1 false (.var 4), false, []⟩,
           ⟨1, none, none, .load false 1 (.loc 0) true, false, []⟩,
           ⟨2, none, none, .bin .sub (.loc 1) (.const (.int .i64 1)), false, []⟩,
           ⟨3, none, none, .minmax true (.loc 2) [(.const (.int .i64 0))], false, []⟩,
           ⟨4, none, none, .fieldAddr 1 1 false (.var 4), false, []⟩,
           ⟨5, (some 23), none, .store 1 (.loc 4) (.loc 3), false, []⟩] false) (
         .skip))))))))))) (
   .region 2 [⟨0, none, none, .bin .add (.var 16) (.const (.int .i64 1)), false, []⟩,
     ⟨1, (some 16), none, .mv (.loc 0) false, false, []⟩] false))))
def c65 : LCode :=
  .seq (
   .region 5 [⟨0, (some 3), none, .box 24 (.var 0), false, []⟩,
     ⟨1, (some 4), none, .box 26 (.var 1), false, []⟩,
     ⟨2, (some 5), none, .alloc 26 [(.int .i64 0), (.int .i64 0)], false, []⟩,
     ⟨3, (some 6), none, .asg (.const (.vs true .sh 0 [])), false, []⟩,
     ⟨4, (some 7), none, .asg (.const (.bool false)), false, []⟩] false) (
  .seq (
   .region 11 [⟨0, none, none, .fieldAddr 0 1 false (.var 4), false, []⟩,
     ⟨1, none, none, .load false 1 (.loc 0) false, false, []⟩,
     ⟨2, none, none, .mv (.var 2) false, false, []⟩,
     ⟨3, none, none, .callp 83 [(.loc 1), (.loc 2)], false, []⟩,
     ⟨4, none, none, .mv (.loc 3) false, false, []⟩,
     ⟨5, none, none, .extract (.loc 4) 0, false, []⟩,
     ⟨6, none, none, .extract (.loc 4) 1, false, []⟩,
     ⟨7, none, none, .extract (.loc 4) 2, false, []⟩,
     ⟨8, (some 8), none, .asg (.loc 5), false, []⟩,
     ⟨9, (some 9), none, .asg (.loc 6), false, []⟩,
     ⟨10, (some 10), none, .asg (.loc 7), false, []⟩] false) (
  .seq (
   .seq (
    r65_0) (
   .cond (.var 13) (
    .seq (
     .region 4 [⟨0, none, none, .build [(.int .i64 0), (.int .i64 0)] [], false, []⟩,
       ⟨1, (some 23), none, .store 2 (.var 5) (.loc 0), false, []⟩,
       ⟨2, (some 6), none, .asg (.const (.vs true .sh 0 [])), false, []⟩,
       ⟨3, (some 7), none, .asg (.const (.bool false)), false, []⟩] false) (
    .ret)) (
    .skip))) (
  .seq (
   .region 3 [⟨0, none, none, .mv (.var 8) false, false, []⟩,
     ⟨1, none, none, .fieldAddr 0 1 false (.var 4), false, []⟩,
     ⟨2, (some 23), none, .store 1 (.loc 1) (.loc 0), false, []⟩] false) (
  .seq (
   .seq (
    .region 3 [⟨0, (some 14), none, .mv (.var 9) false, false, []⟩,
      ⟨1, (some 15), none, .len 1 (.var 14), false, []⟩,
      ⟨2, (some 16), none, .mv (.const (.int .i64 0)) false, false, []⟩] false) (
   .fence [0, 1, 2, 3, 6, 7, 8, 10, 11, 12, 13, 14, 15, 16, 17, 18, 19, 20, 21, 22] (
    .block 0 (
     .loop b65_1)))) (
  .seq (
   .region 5 [⟨0, none, none, .load true 2 (.var 4) false, false, []⟩,
     ⟨1, none, none, .mv (.var 9) false, false, []⟩,
     ⟨2, (some 23), none, .store 2 (.var 5) (.loc 0), false, []⟩,
     ⟨3, (some 6), none, .asg (.loc 1), false, []⟩,
     ⟨4, (some 7), none, .asg (.const (.bool true)), false, []⟩] false) (
  .ret))))))
def l65 : LFun := ⟨3, [(some 0), (some 1), (some 2), none, none, none, none, none, none, none, none, none, none, none, none, none, none, none, none, none, none, none, none], c65, [.cell 5 2 true, .var 6, .var 7], .pure⟩
/-- umpire/option.Read -/
def vm67 : List Nat := [0, 2, 3, 4, 5, 6, 7, 11, 17, 24, 29]
def b67_0 : LCode :=
  .fence [1, 5, 6, 7, 8, 9, 10] (
   .seq (
    .seq (
     .region 4 [⟨0, none, none, .mv (.var 4) true, false, []⟩,
       ⟨1, none, none, .mv (.var 0) true, false, []⟩,
       ⟨2, none, none, .len 1 (.loc 1), false, []⟩,
       ⟨3, (some 7), none, .bin .lss (.loc 0) (.loc 2), false, []⟩] false) (
    .cond (.var 7) (
     .skip) (
     .exit 0))) (
   .block 1 (
    .seq (
     .region 4 [⟨0, none, none, .mv (.var 0) false, false, []⟩,
       ⟨1, none, none, .mv (.var 4) false, false, []⟩,
       ⟨2, none, none, .sliceVs 1 (.loc 0) (some (.loc 1)) none none, false, []⟩,
       ⟨3, (some 5), none, .asg (.loc 2), false, []⟩] false) (
    .seq (
     .seq (
      .region 3 [⟨0, none, none, .mv (.var 5) true, false, []⟩,
        ⟨1, none, none, .len 1 (.loc 0), false, []⟩,
        ⟨2, (some 8), none, .bin .lss (.loc 1) (.const (.int .i64 2)), false, []⟩] false) (
     .cond (.var 8) (
      .seq (
       .region 4 [⟨0, none, none, .mv (.var 4) false, false, []⟩,
         ⟨1, none, none, .build [(.int .i64 0), (.int .i64 0)] [(0, 1, (.loc 0)), (1, 1, (.const (.int .i64 2)))], false, []⟩,
         ⟨2, (some 1), none, .asg (.const (.vs true .sh 0 [])), false, []⟩,
         ⟨3, (some 11), none, .store 2 (.var 2) (.loc 1), false, []⟩] false) (
      .ret)) (
      .skip))) (
    .seq (
     .region 5 [⟨0, none, none, .mv (.var 5) false, false, []⟩,
       ⟨1, none, none, .idxAddrVs 1 (.loc 0) (.const (.int .i64 1)), false, []⟩,
       ⟨2, none, none, .load false 1 (.loc 1) true, false, []⟩,
       ⟨3, none, none, .cvInt .i64 (.loc 2), false, []⟩,
       ⟨4, (some 6), none, .asg (.loc 3), false, []⟩] false) (
    .seq (
     .block 2 (
      .seq (
       .region 3 [⟨0, none, none, .mv (.var 6) true, false, []⟩,
         ⟨1, none, none, .bin .lss (.loc 0) (.const (.int .i64 2)), false, []⟩,
         ⟨2, (some 9), none, .asg (.loc 1), false, []⟩] false) (
      .cond (.var 9) (
       .seq (
        .region 4 [⟨0, none, none, .mv (.var 4) false, false, []⟩,
          ⟨1, none, none, .build [(.int .i64 0), (.int .i64 0)] [(0, 1, (.loc 0)), (1, 1, (.const (.int .i64 3)))], false, []⟩,
          ⟨2, (some 1), none, .asg (.const (.vs true .sh 0 [])), false, []⟩,
          ⟨3, (some 11), none, .store 2 (.var 2) (.loc 1), false, []⟩] false) (
       .ret)) (
       .seq (
        .region 5 [⟨0, none, none, .mv (.var 6) true, false, []⟩,
          ⟨1, none, none, .mv (.var 5) true, false, []⟩,
          ⟨2, none, none, .len 1 (.loc 1), false, []⟩,
          ⟨3, none, none, .bin .gtr (.loc 0) (.loc 2), false, []⟩,
          ⟨4, (some 10), none, .asg (.loc 3), false, []⟩] false) (
       .cond (.var 10) (
        .seq (
         .region 4 [⟨0, none, none, .mv (.var 4) false, false, []⟩,
           ⟨1, none, none, .build [(.int .i64 0), (.int .i64 0)] [(0, 1, (.loc 0)), (1, 1, (.const (.int .i64 2)))], false, []⟩,
           ⟨2, (some 1), none, .asg (.const (.vs true .sh 0 [])), false, []⟩,
           ⟨3, (some 11), none, .store 2 (.var 2) (.loc 1), false, []⟩] false) (
        .ret)) (
        .skip)))))) (
    .seq (
     .region 13 [⟨0, none, none, .mv (.var 3) true, false, []⟩,
       ⟨1, none, none, .mv (.var 5) false, false, []⟩,
       ⟨2, none, none, .idxAddrVs 1 (.loc 1) (.const (.int .i64 0)), false, []⟩,
       ⟨3, none, none, .load false 1 (.loc 2) false, false, []⟩,
       ⟨4, none, none, .cvInt .i64 (.loc 3), false, []⟩,
       ⟨5, none, none, .mv (.var 5) false, false, []⟩,
       ⟨6, none, none, .mv (.var 6) false, false, []⟩,
       ⟨7, none, none, .sliceVs 1 (.loc 5) (some (.const (.int .i64 2))) (some (.loc 6)) none, false, []⟩,
       ⟨8, none, none, .callp 85 [(.loc 7)], false, []⟩,
       ⟨9, none, none, .build [(.int .i64 0), (.vs true .sh 0 [])] [(0, 1, (.loc 4)), (1, 1, (.loc 8))], false, []⟩,
       ⟨10, none, none, .mkslice (.agg [(.int .i64 0), (.vs true .sh 0 [])]) 2 1 [(0, (.loc 9))], false, []⟩,
       ⟨11, none, none, .append 146 2 32 (.loc 0) (.loc 10), false, []⟩,
       ⟨12, (some 3), none, .asg (.loc 11), false, []⟩] true) (
    .region 4 [⟨0, none, none, .mv (.var 4) true, false, []⟩,
      ⟨1, none, none, .mv (.var 6) true, false, []⟩,
      ⟨2, none, none, .bin .add (.loc 0) (.loc 1), false, []⟩,
      ⟨3, (some 4), none, .asg (.loc 2), false, []⟩] false))))))))
def c67 : LCode :=
  .seq (
   .region 2 [⟨0, (some 1), none, .asg (.const (.vs true .sh 0 [])), false, []⟩,
     ⟨1, (some 2), none, .alloc 134 [(.int .i64 0), (.int .i64 0)], false, []⟩] false) (
  .seq (
   .region 1 [⟨0, (some 3), none, .asg (.const (.vs true .sh 0 [])), false, []⟩] false) (
  .seq (
   .seq (
    .region 1 [⟨0, (some 4), none, .asg (.const (.int .i64 0)), false, []⟩] false) (
   .fence [0, 1, 4, 5, 6, 7, 8, 9, 10] (
    .block 0 (
     .loop b67_0)))) (
  .seq (
   .region 4 [⟨0, none, none, .mv (.var 3) false, false, []⟩,
     ⟨1, none, none, .build [(.int .i64 0), (.int .i64 0)] [], false, []⟩,
     ⟨2, (some 1), none, .asg (.loc 0), false, []⟩,
     ⟨3, (some 11), none, .store 2 (.var 2) (.loc 1), false, []⟩] false) (
  .ret))))
def l67 : LFun := ⟨1, [(some 0), none, none, none, none, none, none, none, none, none, none], c67, [.var 1, .cell 2 2 true], .pure⟩
/-- bytes.Equal -/
def vm68 : List Nat := [0, 1, 4]
def c68 : LCode :=
  .seq (
   .region 1 [⟨0, (some 2), none, .asg (.const (.bool false)), false, []⟩] false) (
  .seq (
   .region 6 [⟨0, none, none, .mv (.var 0) true, false, []⟩,
     ⟨1, none, none, .cvStr (.loc 0), false, []⟩,
     ⟨2, none, none, .mv (.var 1) true, false, []⟩,
     ⟨3, none, none, .cvStr (.loc 2), false, []⟩,
     ⟨4, none, none, .bin .eql (.loc 1) (.loc 3), false, []⟩,
     ⟨5, (some 2), none, .asg (.loc 4), false, []⟩] false) (
  .ret))
def l68 : LFun := ⟨2, [(some 0), (some 1), none], c68, [.var 2], .pure⟩
/-- umpire/reply.both -/
def vm69 : List Nat := [0, 1, 2, 3, 4, 6, 7, 8, 9, 10, 11, 12, 28]
def r69_0 : LCode :=
  .region 16 [⟨0, none, none, .fieldAddr 0 1 false (.var 3), false, []⟩,
    ⟨1, none, none, .load false 1 (.loc 0) true, false, []⟩,
    ⟨2, none, none, .bin .neq (.loc 1) (.const (.int .i64 1)), false, []⟩,
    ⟨3, none, none, .mv (.loc 2) false, false, []⟩,
    ⟨4, none, (some ((.loc 3), false)), .fieldAddr 0 1 false (.var 4), false, []⟩,
    ⟨5, none, (some ((.loc 3), false)), .load false 1 (.loc 4) true, false, []⟩,
    ⟨6, none, (some ((.loc 3), false)), .mv (.var 2) true, false, []⟩,
    ⟨7, none, (some ((.loc 3), false)), .bin .neq (.loc 5) (.loc 6), false, []⟩,
    ⟨8, none, none, .pick (.loc 3) (.const (.bool true)) (.loc 7), false, []⟩,
    ⟨9, none, none, .mv (.loc 8) false, false, []⟩,
    ⟨10, none, (some ((.loc 9), false)), .fieldAddr 1 1 false (.var 4), false, []⟩,
    ⟨11, none, (some ((.loc 9), false)), .load false 1 (.loc 10) true, false, []⟩,
    ⟨12, none, (some ((.loc 9), false)), .fieldAddr 1 1 false (.var 3), false, []⟩,
    ⟨13, none, (some ((.loc 9), false)), .load false 1 (.loc 12) true, false, []⟩,
    ⟨14, none, (some ((.loc 9), false)), .bin .neq (.loc 11) (.loc 13), false, []⟩,
    ⟨15, (some 12), none, .pick (.loc 9) (.const (.bool true)) (.loc 14), false, []⟩] false
def c69 : LCode :=
  .seq (
   .region 5 [⟨0, (some 3), none, .box 57 (.var 0), false, []⟩,
     ⟨1, (some 4), none, .box 57 (.var 1), false, []⟩,
     ⟨2, (some 5), none, .asg (.const (.vs true .sh 0 [])), false, []⟩,
     ⟨3, (some 6), none, .asg (.const (.vs true .sh 0 [])), false, []⟩,
     ⟨4, (some 7), none, .asg (.const (.bool false)), false, []⟩] false) (
  .seq (
   .seq (
    r69_0) (
   .cond (.var 12) (
    .seq (
     .region 3 [⟨0, (some 5), none, .asg (.const (.vs true .sh 0 [])), false, []⟩,
       ⟨1, (some 6), none, .asg (.const (.vs true .sh 0 [])), false, []⟩,
       ⟨2, (some 7), none, .asg (.const (.bool false)), false, []⟩] false) (
    .ret)) (
    .skip))) (
  .seq (
   .region 7 [⟨0, none, none, .load true 3 (.var 3) false, false, []⟩,
     ⟨1, none, none, .callp 56 [(.loc 0)], false, []⟩,
     ⟨2, none, none, .mv (.loc 1) false, false, []⟩,
     ⟨3, none, none, .extract (.loc 2) 0, false, []⟩,
     ⟨4, none, none, .extract (.loc 2) 1, false, []⟩,
     ⟨5, (some 8), none, .asg (.loc 3), false, []⟩,
     ⟨6, (some 9), none, .asg (.loc 4), false, []⟩] false) (
  .seq (
   .region 7 [⟨0, none, none, .load true 3 (.var 4) false, false, []⟩,
     ⟨1, none, none, .callp 56 [(.loc 0)], false, []⟩,
     ⟨2, none, none, .mv (.loc 1) false, false, []⟩,
     ⟨3, none, none, .extract (.loc 2) 0, false, []⟩,
     ⟨4, none, none, .extract (.loc 2) 1, false, []⟩,
     ⟨5, (some 10), none, .asg (.loc 3), false, []⟩,
     ⟨6, (some 11), none, .asg (.loc 4), false, []⟩] false) (
  .seq (
   .region 14 [⟨0, none, none, .mv (.var 8) false, false, []⟩,
     ⟨1, none, none, .mv (.var 10) false, false, []⟩,
     ⟨2, none, none, .mv (.var 9) false, false, []⟩,
     ⟨3, none, none, .mv (.loc 2) false, false, []⟩,
     ⟨4, none, (some ((.loc 3), true)), .mv (.var 11) false, false, []⟩,
     ⟨5, none, none, .pick (.loc 3) (.loc 4) (.const (.bool false)), false, []⟩,
     ⟨6, none, none, .mv (.loc 5) false, false, []⟩,
     ⟨7, none, (some ((.loc 6), true)), .mv (.var 10) true, false, []⟩,
     ⟨8, none, (some ((.loc 6), true)), .len 1 (.loc 7), false, []⟩,
     ⟨9, none, (some ((.loc 6), true)), .bin .gtr (.loc 8) (.const (.int .i64 0)), false, []⟩,
     ⟨10, none, none, .pick (.loc 6) (.loc 9) (.const (.bool false)), false, []⟩,
     ⟨11, (some 5), none, .asg (.loc 0), false, []⟩,
     ⟨12, (some 6), none, .asg (.loc 1), false, []⟩,
     ⟨13, (some 7), none, .asg (.loc 10), false, []⟩] false) (
  .ret)))))
def l69 : LFun := ⟨3, [(some 0), (some 1), (some 2), none, none, none, none, none, none, none, none, none, none], c69, [.var 5, .var 6, .var 7], .pure⟩
/-- umpire/option.Within -/
def vm70 : List Nat := [0, 1, 4, 6, 7, 8, 9, 10, 22]
def b70_0 : LCode :=
  .fence [1, 2, 3, 7, 8] (
   .seq (
    .region 1 [⟨0, (some 7), none, .bin .lss (.var 6) (.var 5), false, []⟩] false) (
   .seq (
    .cond (.var 7) (
     .skip) (
     .exit 0)) (
   .seq (
    .block 1 (
     .seq (
      .region 4 [⟨0, none, none, .idxAddrVs 2 (.var 4) (.var 6), false, []⟩,
        ⟨1, none, none, .load true 2 (.loc 0) false, false, []⟩,
        ⟨2, (some 3), none, .alloc 146 [(.int .i64 0), (.vs true .sh 0 [])], false, []⟩,
        ⟨3, (some 9), none, .store 2 (.var 3) (.loc 1), false, []⟩] false) (
     .seq (
      .region 10 [⟨0, none, none, .mv (.var 0) false, false, []⟩,
        ⟨1, none, none, .len 1 (.loc 0), false, []⟩,
        ⟨2, none, none, .bin .gtr (.loc 1) (.const (.int .i64 0)), false, []⟩,
        ⟨3, none, none, .mv (.loc 2) false, false, []⟩,
        ⟨4, none, (some ((.loc 3), true)), .mv (.var 0) false, false, []⟩,
        ⟨5, none, (some ((.loc 3), true)), .idxAddrVs 2 (.loc 4) (.const (.int .i64 0)), false, []⟩,
        ⟨6, none, (some ((.loc 3), true)), .load true 2 (.loc 5) false, false, []⟩,
        ⟨7, none, (some ((.loc 3), true)), .load true 2 (.var 3) false, false, []⟩,
        ⟨8, none, (some ((.loc 3), true)), .callp 86 [(.loc 6), (.loc 7)], false, []⟩,
        ⟨9, (some 8), none, .pick (.loc 3) (.loc 8) (.const (.bool false)), false, []⟩] true) (
     .cond (.var 8) (
      .region 3 [⟨0, none, none, .mv (.var 0) false, false, []⟩,
        ⟨1, none, none, .sliceVs 2 (.loc 0) (some (.const (.int .i64 1))) none none, false, []⟩,
        ⟨2, (some 0), none, .asg (.loc 1), false, []⟩] false) (
      .skip))))) (
   .region 2 [⟨0, none, none, .bin .add (.var 6) (.const (.int .i64 1)), false, []⟩,
     ⟨1, (some 6), none, .mv (.loc 0) false, false, []⟩] false))))
def c70 : LCode :=
  .seq (
   .region 1 [⟨0, (some 2), none, .asg (.const (.bool false)), false, []⟩] false) (
  .seq (
   .seq (
    .region 3 [⟨0, (some 4), none, .mv (.var 1) false, false, []⟩,
      ⟨1, (some 5), none, .len 1 (.var 4), false, []⟩,
      ⟨2, (some 6), none, .mv (.const (.int .i64 0)) false, false, []⟩] false) (
   .fence [1, 2, 3, 4, 5, 6, 7, 8] (
    .block 0 (
     .loop b70_0)))) (
  .seq (
   .region 4 [⟨0, none, none, .mv (.var 0) true, false, []⟩,
     ⟨1, none, none, .len 1 (.loc 0), false, []⟩,
     ⟨2, none, none, .bin .eql (.loc 1) (.const (.int .i64 0)), false, []⟩,
     ⟨3, (some 2), none, .asg (.loc 2), false, []⟩] false) (
  .ret)))
def l70 : LFun := ⟨2, [(some 0), (some 1), none, none, none, none, none, none, none], c70, [.var 2], .pure⟩
/-- umpire/option.Twice -/
def vm71 : List Nat := [0, 2, 3, 5, 7, 8, 9, 10, 16]
def b71_0 : LCode :=
  .fence [0, 1, 3, 7, 8] (
   .seq (
    .region 1 [⟨0, (some 7), none, .bin .lss (.var 6) (.var 5), false, []⟩] false) (
   .seq (
    .cond (.var 7) (
     .skip) (
     .exit 0)) (
   .seq (
    .block 1 (
     .seq (
      .region 4 [⟨0, none, none, .idxAddrVs 2 (.var 4) (.var 6), false, []⟩,
        ⟨1, none, none, .load true 2 (.loc 0) false, false, []⟩,
        ⟨2, (some 3), none, .alloc 146 [(.int .i64 0), (.vs true .sh 0 [])], false, []⟩,
        ⟨3, (some 9), none, .store 2 (.var 3) (.loc 1), false, []⟩] false) (
     .seq (
      .seq (
       .region 4 [⟨0, none, none, .mv (.var 2) false, false, []⟩,
         ⟨1, none, none, .fieldAddr 0 1 false (.var 3), false, []⟩,
         ⟨2, none, none, .load false 1 (.loc 1) false, false, []⟩,
         ⟨3, (some 8), none, .lookup (.i .i64) (.bool false) (.loc 0) (.loc 2) false, false, []⟩] false) (
      .cond (.var 8) (
       .seq (
        .region 1 [⟨0, (some 1), none, .asg (.const (.bool true)), false, []⟩] false) (
       .ret)) (
       .skip))) (
     .region 4 [⟨0, none, none, .mv (.var 2) false, false, []⟩,
       ⟨1, none, none, .fieldAddr 0 1 false (.var 3), false, []⟩,
       ⟨2, none, none, .load false 1 (.loc 1) false, false, []⟩,
       ⟨3, (some 9), none, .mapUpdate (.i .i64) (.loc 0) (.loc 2) (.const (.bool true)), false, []⟩] false)))) (
   .region 2 [⟨0, none, none, .bin .add (.var 6) (.const (.int .i64 1)), false, []⟩,
     ⟨1, (some 6), none, .mv (.loc 0) false, false, []⟩] false))))
def c71 : LCode :=
  .seq (
   .region 1 [⟨0, (some 1), none, .asg (.const (.bool false)), false, []⟩] false) (
  .seq (
   .region 2 [⟨0, none, none, .mkMap, false, []⟩,
     ⟨1, (some 2), none, .asg (.loc 0), false, []⟩] false) (
  .seq (
   .seq (
    .region 3 [⟨0, (some 4), none, .mv (.var 0) false, false, []⟩,
      ⟨1, (some 5), none, .len 1 (.var 4), false, []⟩,
      ⟨2, (some 6), none, .mv (.const (.int .i64 0)) false, false, []⟩] false) (
   .fence [0, 1, 2, 3, 4, 5, 6, 7, 8] (
    .block 0 (
     .loop b71_0)))) (
  .seq (
   .region 1 [⟨0, (some 1), none, .asg (.const (.bool false)), false, []⟩] false) (
  .ret))))
def l71 : LFun := ⟨1, [(some 0), none, none, none, none, none, none, none, none], c71, [.var 1], .pure⟩
/-- umpire/reply.places -/
def vm72 : List Nat := [0, 2, 3, 4, 5, 6, 7, 9, 10, 11, 12, 24]
def b72_0 : LCode :=
  .fence [0, 1, 3, 4, 5, 6, 10, 11] (
   .seq (
    .region 1 [⟨0, (some 10), none, .bin .lss (.var 9) (.var 8), false, []⟩] false) (
   .seq (
    .cond (.var 10) (
     .skip) (
     .exit 0)) (
   .seq (
    .block 1 (
     .seq (
      .region 6 [⟨0, none, none, .mv (.var 9) false, false, []⟩,
        ⟨1, none, none, .idxAddrVs 2 (.var 7) (.var 9), false, []⟩,
        ⟨2, none, none, .load true 2 (.loc 1) false, false, []⟩,
        ⟨3, (some 4), none, .alloc 146 [(.int .i64 0), (.vs true .sh 0 [])], false, []⟩,
        ⟨4, (some 3), none, .asg (.loc 0), false, []⟩,
        ⟨5, (some 12), none, .store 2 (.var 4) (.loc 2), false, []⟩] false) (
     .seq (
      .region 9 [⟨0, none, none, .mv (.var 2) false, false, []⟩,
        ⟨1, none, none, .fieldAddr 0 1 false (.var 4), false, []⟩,
        ⟨2, none, none, .load false 1 (.loc 1) false, false, []⟩,
        ⟨3, none, none, .lookup (.i .i64) (.int .i64 0) (.loc 0) (.loc 2) true, false, []⟩,
        ⟨4, none, none, .mv (.loc 3) false, false, []⟩,
        ⟨5, none, none, .extract (.loc 4) 0, false, []⟩,
        ⟨6, none, none, .extract (.loc 4) 1, false, []⟩,
        ⟨7, (some 5), none, .asg (.loc 5), false, []⟩,
        ⟨8, (some 6), none, .asg (.loc 6), false, []⟩] false) (
     .seq (
      .region 2 [⟨0, none, none, .mv (.var 6) true, false, []⟩,
        ⟨1, (some 11), none, .un .not (.loc 0), false, []⟩] false) (
     .cond (.var 11) (
      .region 5 [⟨0, none, none, .mv (.var 2) false, false, []⟩,
        ⟨1, none, none, .fieldAddr 0 1 false (.var 4), false, []⟩,
        ⟨2, none, none, .load false 1 (.loc 1) false, false, []⟩,
        ⟨3, none, none, .mv (.var 3) false, false, []⟩,
        ⟨4, (some 12), none, .mapUpdate (.i .i64) (.loc 0) (.loc 2) (.loc 3), false, []⟩] false) (
      .skip)))))) (
   .region 2 [⟨0, none, none, .bin .add (.var 9) (.const (.int .i64 1)), false, []⟩,
     ⟨1, (some 9), none, .mv (.loc 0) false, false, []⟩] false))))
def c72 : LCode :=
  .seq (
   .region 1 [⟨0, (some 1), none, .asg (.const .nilmap), false, []⟩] false) (
  .seq (
   .region 2 [⟨0, none, none, .mkMap, false, []⟩,
     ⟨1, (some 2), none, .asg (.loc 0), false, []⟩] false) (
  .seq (
   .seq (
    .region 3 [⟨0, (some 7), none, .mv (.var 0) false, false, []⟩,
      ⟨1, (some 8), none, .len 1 (.var 7), false, []⟩,
      ⟨2, (some 9), none, .mv (.const (.int .i64 0)) false, false, []⟩] false) (
   .fence [0, 1, 3, 4, 5, 6, 7, 8, 9, 10, 11] (
    .block 0 (
     .loop b72_0)))) (
  .seq (
   .region 2 [⟨0, none, none, .mv (.var 2) false, false, []⟩,
     ⟨1, (some 1), none, .asg (.loc 0), false, []⟩] false) (
  .ret))))
def l72 : LFun := ⟨1, [(some 0), none, none, none, none, none, none, none, none, none, none, none], c72, [.var 1], .keep⟩
/-- umpire/reply.Naks$1 -/
def vm74 : List Nat := [0, 1, 2, 3, 4, 5, 6, 7, 8, 17]
def c74 : LCode :=
  .seq (
   .region 2 [⟨0, (some 4), none, .box 146 (.var 0), false, []⟩,
     ⟨1, (some 5), none, .asg (.const (.bool false)), false, []⟩] false) (
  .seq (
   .region 9 [⟨0, none, none, .load false 1 (.var 1) false, false, []⟩,
     ⟨1, none, none, .fieldAddr 0 1 false (.var 4), false, []⟩,
     ⟨2, none, none, .load false 1 (.loc 1) false, false, []⟩,
     ⟨3, none, none, .lookup (.i .i64) (.int .i64 0) (.loc 0) (.loc 2) true, false, []⟩,
     ⟨4, none, none, .mv (.loc 3) false, false, []⟩,
     ⟨5, none, none, .extract (.loc 4) 0, false, []⟩,
     ⟨6, none, none, .extract (.loc 4) 1, false, []⟩,
     ⟨7, (some 6), none, .asg (.loc 5), false, []⟩,
     ⟨8, (some 7), none, .asg (.loc 6), false, []⟩] false) (
  .seq (
   .seq (
    .region 2 [⟨0, none, none, .mv (.var 7) true, false, []⟩,
      ⟨1, (some 9), none, .un .not (.loc 0), false, []⟩] false) (
   .cond (.var 9) (
    .region 3 [⟨0, none, none, .load false 1 (.var 2) true, false, []⟩,
      ⟨1, none, none, .len 1 (.loc 0), false, []⟩,
      ⟨2, (some 6), none, .asg (.loc 1), false, []⟩] false) (
    .skip))) (
  .seq (
   .region 12 [⟨0, none, none, .mv (.var 7) false, false, []⟩,
     ⟨1, none, none, .mv (.loc 0) false, false, []⟩,
     ⟨2, none, (some ((.loc 1), true)), .mv (.var 6) true, false, []⟩,
     ⟨3, none, (some ((.loc 1), true)), .load false 1 (.var 3) true, false, []⟩,
     ⟨4, none, (some ((.loc 1), true)), .bin .lss (.loc 2) (.loc 3), false, []⟩,
     ⟨5, none, none, .pick (.loc 1) (.loc 4) (.const (.bool false)), false, []⟩,
     ⟨6, none, none, .mv (.loc 5) false, false, []⟩,
     ⟨7, none, (some ((.loc 6), false)), .load false 1 (.var 2) false, false, []⟩,
     ⟨8, none, (some ((.loc 6), false)), .mkFunc 75 [(.var 4)], false, []⟩,
     ⟨9, none, (some ((.loc 6), false)), .call 73 [(.loc 7), (.loc 8)], false, []⟩,
     ⟨10, none, none, .pick (.loc 6) (.const (.bool true)) (.loc 9), false, []⟩,
     ⟨11, (some 8), none, .asg (.loc 10), false, []⟩] false) (
  .seq (
   .region 4 [⟨0, none, none, .load false 1 (.var 3) false, false, []⟩,
     ⟨1, none, none, .mv (.var 6) false, false, []⟩,
     ⟨2, none, none, .minmax true (.loc 0) [(.loc 1)], false, []⟩,
     ⟨3, (some 10), none, .store 1 (.var 3) (.loc 2), false, []⟩] false) (
  .seq (
   .region 2 [⟨0, none, none, .mv (.var 8) false, false, []⟩,
     ⟨1, (some 5), none, .asg (.loc 0), false, []⟩] false) (
  .ret))))))
def l74 : LFun := ⟨4, [(some 0), (some 1), (some 2), (some 3), none, none, none, none, none, none], c74, [.var 5], .trim⟩
/-- slices.ContainsFunc[[]umpire/api.Option,umpire/api.Option] -/
def vm73 : List Nat := [0, 1, 4]
def c73 : LCode :=
  .seq (
   .region 1 [⟨0, (some 2), none, .asg (.const (.bool false)), false, []⟩] false) (
  .seq (
   .region 5 [⟨0, none, none, .mv (.var 0) false, false, []⟩,
     ⟨1, none, none, .mv (.var 1) false, false, []⟩,
     ⟨2, none, none, .call 87 [(.loc 0), (.loc 1)], false, []⟩,
     ⟨3, none, none, .bin .geq (.loc 2) (.const (.int .i64 0)), false, []⟩,
     ⟨4, (some 2), none, .asg (.loc 3), false, []⟩] false) (
  .ret))
def l73 : LFun := ⟨2, [(some 0), (some 1), none], c73, [.var 2], .trim⟩
/-- umpire/auth.say -/
def vm77 : List Nat := [0, 1, 2, 3, 4]
def c77 : LCode :=
  .seq (
   .region 2 [⟨0, (some 1), none, .box 57 (.var 0), false, []⟩,
     ⟨1, (some 2), none, .asg (.const (.bool false)), false, []⟩] false) (
  .seq (
   .region 8 [⟨0, none, none, .fieldAddr 2 1 false (.var 1), false, []⟩,
     ⟨1, none, none, .load false 1 (.loc 0) false, false, []⟩,
     ⟨2, none, none, .callp 89 [(.loc 1)], false, []⟩,
     ⟨3, none, none, .mv (.loc 2) false, false, []⟩,
     ⟨4, none, none, .extract (.loc 3) 0, false, []⟩,
     ⟨5, none, none, .extract (.loc 3) 1, false, []⟩,
     ⟨6, (some 3), none, .asg (.loc 4), false, []⟩,
     ⟨7, (some 4), none, .asg (.loc 5), false, []⟩] false) (
  .seq (
   .region 3 [⟨0, none, none, .mv (.var 4) true, false, []⟩,
     ⟨1, none, none, .bin .eql (.loc 0) (.const (.int .i64 0)), false, []⟩,
     ⟨2, (some 2), none, .asg (.loc 1), false, []⟩] false) (
  .ret)))
def l77 : LFun := ⟨1, [(some 0), none, none, none, none], c77, [.var 2], .pure⟩
/-- umpire/chap.Read -/
def vm78 : List Nat := [0, 2, 3, 4, 5, 8, 16, 20, 26]
def c78 : LCode :=
  .seq (
   .region 2 [⟨0, (some 1), none, .alloc 150 [(.vs true .sh 0 []), (.str [])], false, []⟩,
     ⟨1, (some 2), none, .asg (.const (.int .i64 0)), false, []⟩] false) (
  .seq (
   .seq (
    .region 3 [⟨0, none, none, .mv (.var 0) true, false, []⟩,
      ⟨1, none, none, .len 1 (.loc 0), false, []⟩,
      ⟨2, (some 5), none, .bin .eql (.loc 1) (.const (.int .i64 0)), false, []⟩] false) (
   .cond (.var 5) (
    .seq (
     .region 3 [⟨0, none, none, .build [(.vs true .sh 0 []), (.str [])] [], false, []⟩,
       ⟨1, (some 9), none, .store 2 (.var 1) (.loc 0), false, []⟩,
       ⟨2, (some 2), none, .asg (.const (.int .i64 2)), false, []⟩] false) (
    .ret)) (
    .skip))) (
  .seq (
   .region 5 [⟨0, none, none, .mv (.var 0) false, false, []⟩,
     ⟨1, none, none, .idxAddrVs 1 (.loc 0) (.const (.int .i64 0)), false, []⟩,
     ⟨2, none, none, .load false 1 (.loc 1) true, false, []⟩,
     ⟨3, none, none, .cvInt .i64 (.loc 2), false, []⟩,
     ⟨4, (some 3), none, .asg (.loc 3), false, []⟩] false) (
  .seq (
   .region 3 [⟨0, none, none, .mv (.var 0) false, false, []⟩,
     ⟨1, none, none, .sliceVs 1 (.loc 0) (some (.const (.int .i64 1))) none none, false, []⟩,
     ⟨2, (some 4), none, .asg (.loc 1), false, []⟩] false) (
  .seq (
   .block 0 (
    .seq (
     .region 3 [⟨0, none, none, .mv (.var 3) true, false, []⟩,
       ⟨1, none, none, .bin .eql (.loc 0) (.const (.int .i64 0)), false, []⟩,
       ⟨2, (some 6), none, .asg (.loc 1), false, []⟩] false) (
    .cond (.var 6) (
     .seq (
      .region 3 [⟨0, none, none, .build [(.vs true .sh 0 []), (.str [])] [], false, []⟩,
        ⟨1, (some 9), none, .store 2 (.var 1) (.loc 0), false, []⟩,
        ⟨2, (some 2), none, .asg (.const (.int .i64 1)), false, []⟩] false) (
     .ret)) (
     .seq (
      .region 5 [⟨0, none, none, .mv (.var 3) true, false, []⟩,
        ⟨1, none, none, .mv (.var 4) true, false, []⟩,
        ⟨2, none, none, .len 1 (.loc 1), false, []⟩,
        ⟨3, none, none, .bin .gtr (.loc 0) (.loc 2), false, []⟩,
        ⟨4, (some 7), none, .asg (.loc 3), false, []⟩] false) (
     .cond (.var 7) (
      .seq (
       .region 3 [⟨0, none, none, .build [(.vs true .sh 0 []), (.str [])] [], false, []⟩,
         ⟨1, (some 9), none, .store 2 (.var 1) (.loc 0), false, []⟩,
         ⟨2, (some 2), none, .asg (.const (.int .i64 2)), false, []⟩] false) (
      .ret)) (
      .seq (
       .region 6 [⟨0, none, none, .mv (.var 4) true, false, []⟩,
         ⟨1, none, none, .len 1 (.loc 0), false, []⟩,
         ⟨2, none, none, .mv (.var 3) true, false, []⟩,
         ⟨3, none, none, .bin .sub (.loc 1) (.loc 2), false, []⟩,
         ⟨4, none, none, .bin .gtr (.loc 3) (.const (.int .i64 65526)), false, []⟩,
         ⟨5, (some 8), none, .asg (.loc 4), false, []⟩] false) (
      .cond (.var 8) (
       .seq (
        .region 3 [⟨0, none, none, .build [(.vs true .sh 0 []), (.str [])] [], false, []⟩,
          ⟨1, (some 9), none, .store 2 (.var 1) (.loc 0), false, []⟩,
          ⟨2, (some 2), none, .asg (.const (.int .i64 4)), false, []⟩] false) (
       .ret)) (
       .skip)))))))) (
  .seq (
   .region 11 [⟨0, none, none, .mv (.var 4) false, false, []⟩,
     ⟨1, none, none, .mv (.var 3) false, false, []⟩,
     ⟨2, none, none, .sliceVs 1 (.loc 0) none (some (.loc 1)) none, false, []⟩,
     ⟨3, none, none, .callp 85 [(.loc 2)], false, []⟩,
     ⟨4, none, none, .mv (.var 4) false, false, []⟩,
     ⟨5, none, none, .mv (.var 3) false, false, []⟩,
     ⟨6, none, none, .sliceVs 1 (.loc 4) (some (.loc 5)) none none, false, []⟩,
     ⟨7, none, none, .cvStr (.loc 6), false, []⟩,
     ⟨8, none, none, .build [(.vs true .sh 0 []), (.str [])] [(0, 1, (.loc 3)), (1, 1, (.loc 7))], false, []⟩,
     ⟨9, (some 9), none, .store 2 (.var 1) (.loc 8), false, []⟩,
     ⟨10, (some 2), none, .asg (.const (.int .i64 0)), false, []⟩] true) (
  .ret))))))
def l78 : LFun := ⟨1, [(some 0), none, none, none, none, none, none, none, none], c78, [.cell 1 2 true, .var 2], .pure⟩
/-- umpire/chap.Answer -/
def vm79 : List Nat := [0, 1, 2, 6]
def c79 : LCode :=
  .seq (
   .region 1 [⟨0, (some 3), none, .alloc 153 [(.int .u8 0), (.int .u8 0), (.int .u8 0), (.int .u8 0), (.int .u8 0), (.int .u8 0), (.int .u8 0), (.int .u8 0), (.int .u8 0), (.int .u8 0), (.int .u8 0), (.int .u8 0), (.int .u8 0), (.int .u8 0), (.int .u8 0), (.int .u8 0)], false, []⟩] false) (
  .seq (
   .region 9 [⟨0, none, none, .mv (.var 0) true, false, []⟩,
     ⟨1, none, none, .cvInt .u8 (.loc 0), false, []⟩,
     ⟨2, none, none, .mkslice (.int .u8 0) 1 1 [(0, (.loc 1))], false, []⟩,
     ⟨3, none, none, .mv (.var 1) true, false, []⟩,
     ⟨4, none, none, .cvBytes (.loc 3), false, []⟩,
     ⟨5, none, none, .mv (.var 2) false, false, []⟩,
     ⟨6, none, none, .mkslice (.vs true .sh 0 []) 1 3 [(0, (.loc 2)), (1, (.loc 4)), (2, (.loc 5))], false, []⟩,
     ⟨7, none, none, .callp 90 [(.loc 6)], false, []⟩,
     ⟨8, (some 4), none, .store 16 (.var 3) (.loc 7), false, []⟩] false) (
  .ret))
def l79 : LFun := ⟨3, [(some 0), (some 1), (some 2), none], c79, [.cell 3 16 true], .pure⟩
/-- umpire/octet.Get -/
def vm80 : List Nat := [0, 1, 4, 5, 6, 7, 8, 16, 18, 19, 20, 30]
def b80_0 : LCode :=
  .fence [2, 3, 5, 6, 7, 10, 11] (
   .seq (
    .region 1 [⟨0, (some 10), none, .bin .lss (.var 9) (.var 8), false, []⟩] false) (
   .seq (
    .cond (.var 10) (
     .skip) (
     .exit 0)) (
   .seq (
    .block 1 (
     .seq (
      .region 2 [⟨0, none, none, .mv (.var 9) false, false, []⟩,
        ⟨1, (some 5), none, .asg (.loc 0), false, []⟩] false) (
     .seq (
      .region 9 [⟨0, none, none, .mv (.var 0) false, false, []⟩,
        ⟨1, none, none, .mv (.var 0) true, false, []⟩,
        ⟨2, none, none, .len 1 (.loc 1), false, []⟩,
        ⟨3, none, none, .bin .sub (.loc 2) (.const (.int .i64 1)), false, []⟩,
        ⟨4, none, none, .mv (.var 5) true, false, []⟩,
        ⟨5, none, none, .bin .sub (.loc 3) (.loc 4), false, []⟩,
        ⟨6, none, none, .idxAddrVs 1 (.loc 0) (.loc 5), false, []⟩,
        ⟨7, none, none, .load false 1 (.loc 6) false, false, []⟩,
        ⟨8, (some 6), none, .asg (.loc 7), false, []⟩] false) (
     .seq (
      .seq (
       .region 1 [⟨0, (some 11), none, .mv (.var 1) false, false, []⟩] false) (
      .cond (.var 11) (
       .region 5 [⟨0, none, none, .mv (.var 0) false, false, []⟩,
         ⟨1, none, none, .mv (.var 5) false, false, []⟩,
         ⟨2, none, none, .idxAddrVs 1 (.loc 0) (.loc 1), false, []⟩,
         ⟨3, none, none, .load false 1 (.loc 2) false, false, []⟩,
         ⟨4, (some 6), none, .asg (.loc 3), false, []⟩] false) (
       .skip))) (
     .region 6 [⟨0, none, none, .mv (.var 4) true, false, []⟩,
       ⟨1, none, none, .bin .shl (.loc 0) (.const (.int .u64 8)), false, []⟩,
       ⟨2, none, none, .mv (.var 6) true, false, []⟩,
       ⟨3, none, none, .cvInt .u64 (.loc 2), false, []⟩,
       ⟨4, none, none, .bin .or (.loc 1) (.loc 3), false, []⟩,
       ⟨5, (some 4), none, .asg (.loc 4), false, []⟩] false))))) (
   .region 2 [⟨0, none, none, .bin .add (.var 9) (.const (.int .i64 1)), false, []⟩,
     ⟨1, (some 9), none, .mv (.loc 0) false, false, []⟩] false))))
def c80 : LCode :=
  .seq (
   .region 2 [⟨0, (some 2), none, .asg (.const (.int .u64 0)), false, []⟩,
     ⟨1, (some 3), none, .asg (.const (.bool false)), false, []⟩] false) (
  .seq (
   .seq (
    .region 8 [⟨0, none, none, .mv (.var 0) true, false, []⟩,
      ⟨1, none, none, .len 1 (.loc 0), false, []⟩,
      ⟨2, none, none, .bin .lss (.loc 1) (.const (.int .i64 1)), false, []⟩,
      ⟨3, none, none, .mv (.loc 2) false, false, []⟩,
      ⟨4, none, (some ((.loc 3), false)), .mv (.var 0) true, false, []⟩,
      ⟨5, none, (some ((.loc 3), false)), .len 1 (.loc 4), false, []⟩,
      ⟨6, none, (some ((.loc 3), false)), .bin .gtr (.loc 5) (.const (.int .i64 8)), false, []⟩,
      ⟨7, (some 7), none, .pick (.loc 3) (.const (.bool true)) (.loc 6), false, []⟩] false) (
   .cond (.var 7) (
    .seq (
     .region 2 [⟨0, (some 2), none, .asg (.const (.int .u64 0)), false, []⟩,
       ⟨1, (some 3), none, .asg (.const (.bool false)), false, []⟩] false) (
    .ret)) (
    .skip))) (
  .seq (
   .region 1 [⟨0, (some 4), none, .asg (.const (.int .u64 0)), false, []⟩] false) (
  .seq (
   .seq (
    .region 3 [⟨0, none, none, .mv (.var 0) true, false, []⟩,
      ⟨1, (some 8), none, .len 1 (.loc 0), false, []⟩,
      ⟨2, (some 9), none, .mv (.const (.int .i64 0)) false, false, []⟩] false) (
   .fence [0, 1, 2, 3, 5, 6, 7, 8, 9, 10, 11] (
    .block 0 (
     .loop b80_0)))) (
  .seq (
   .region 3 [⟨0, none, none, .mv (.var 4) false, false, []⟩,
     ⟨1, (some 2), none, .asg (.loc 0), false, []⟩,
     ⟨2, (some 3), none, .asg (.const (.bool true)), false, []⟩] false) (
  .ret)))))
def l80 : LFun := ⟨2, [(some 0), (some 1), none, none, none, none, none, none, none, none, none, none], c80, [.var 2, .var 3], .pure⟩
/-- umpire/octet.Behind -/
def vm81 : List Nat := [0, 1, 4]
def c81 : LCode :=
  .seq (
   .region 1 [⟨0, (some 2), none, .asg (.const (.vs true .sh 0 [])), false, []⟩] false) (
  .seq (
   .region 9 [⟨0, none, none, .mv (.var 0) false, false, []⟩,
     ⟨1, none, none, .mv (.var 1) false, false, []⟩,
     ⟨2, none, none, .minmax true (.loc 1) [(.const (.int .i64 0))], false, []⟩,
     ⟨3, none, none, .mv (.var 0) true, false, []⟩,
     ⟨4, none, none, .len 1 (.loc 3), false, []⟩,
     ⟨5, none, none, .minmax false (.loc 2) [(.loc 4)], false, []⟩,
     ⟨6, none, none, .sliceVs 1 (.loc 0) (some (.loc 5)) none none, false, []⟩,
     ⟨7, none, none, .callp 35 [(.loc 6)], false, []⟩,
     ⟨8, (some 2), none, .asg (.loc 7), false, []⟩] false) (
  .ret))
def l81 : LFun := ⟨2, [(some 0), (some 1), none], c81, [.var 2], .pure⟩
/-- umpire/pap.ReadAsk -/
def vm82 : List Nat := [0, 2, 3, 4, 5, 6, 7, 14, 22, 25]
def c82 : LCode :=
  .seq (
   .region 2 [⟨0, (some 1), none, .alloc 159 [(.str []), (.str [])], false, []⟩,
     ⟨1, (some 2), none, .asg (.const (.int .i64 0)), false, []⟩] false) (
  .seq (
   .region 3 [⟨0, none, none, .mv (.var 0) false, false, []⟩,
     ⟨1, (some 3), none, .alloc 172 [(.vs true .sh 0 [])], false, []⟩,
     ⟨2, (some 10), none, .store 1 (.var 3) (.loc 0), false, []⟩] false) (
  .seq (
   .region 6 [⟨0, none, none, .call 91 [(.var 3)], false, []⟩,
     ⟨1, none, none, .mv (.loc 0) false, false, []⟩,
     ⟨2, none, none, .extract (.loc 1) 0, false, []⟩,
     ⟨3, none, none, .extract (.loc 1) 1, false, []⟩,
     ⟨4, (some 4), none, .asg (.loc 2), false, []⟩,
     ⟨5, (some 5), none, .asg (.loc 3), false, []⟩] false) (
  .seq (
   .seq (
    .region 2 [⟨0, none, none, .mv (.var 5) true, false, []⟩,
      ⟨1, (some 7), none, .bin .neq (.loc 0) (.const (.int .i64 0)), false, []⟩] false) (
   .cond (.var 7) (
    .seq (
     .region 4 [⟨0, none, none, .build [(.str []), (.str [])] [], false, []⟩,
       ⟨1, none, none, .mv (.var 5) false, false, []⟩,
       ⟨2, (some 10), none, .store 2 (.var 1) (.loc 0), false, []⟩,
       ⟨3, (some 2), none, .asg (.loc 1), false, []⟩] false) (
    .ret)) (
    .skip))) (
  .seq (
   .region 6 [⟨0, none, none, .call 91 [(.var 3)], false, []⟩,
     ⟨1, none, none, .mv (.loc 0) false, false, []⟩,
     ⟨2, none, none, .extract (.loc 1) 0, false, []⟩,
     ⟨3, none, none, .extract (.loc 1) 1, false, []⟩,
     ⟨4, (some 6), none, .asg (.loc 2), false, []⟩,
     ⟨5, (some 5), none, .asg (.loc 3), false, []⟩] false) (
  .seq (
   .seq (
    .region 2 [⟨0, none, none, .mv (.var 5) true, false, []⟩,
      ⟨1, (some 8), none, .bin .eql (.loc 0) (.const (.int .i64 0)), false, []⟩] false) (
   .cond (.var 8) (
    .region 2 [⟨0, none, none, .call 92 [(.var 3)], false, []⟩,
      ⟨1, (some 5), none, .asg (.loc 0), false, []⟩] false) (
    .skip))) (
  .seq (
   .seq (
    .region 2 [⟨0, none, none, .mv (.var 5) true, false, []⟩,
      ⟨1, (some 9), none, .bin .neq (.loc 0) (.const (.int .i64 0)), false, []⟩] false) (
   .cond (.var 9) (
    .seq (
     .region 4 [⟨0, none, none, .build [(.str []), (.str [])] [], false, []⟩,
       ⟨1, none, none, .mv (.var 5) false, false, []⟩,
       ⟨2, (some 10), none, .store 2 (.var 1) (.loc 0), false, []⟩,
       ⟨3, (some 2), none, .asg (.loc 1), false, []⟩] false) (
    .ret)) (
    .skip))) (
  .seq (
   .region 5 [⟨0, none, none, .mv (.var 4) false, false, []⟩,
     ⟨1, none, none, .mv (.var 6) false, false, []⟩,
     ⟨2, none, none, .build [(.str []), (.str [])] [(0, 1, (.loc 0)), (1, 1, (.loc 1))], false, []⟩,
     ⟨3, (some 10), none, .store 2 (.var 1) (.loc 2), false, []⟩,
     ⟨4, (some 2), none, .asg (.const (.int .i64 0)), false, []⟩] false) (
  .ret))))))))
def l82 : LFun := ⟨1, [(some 0), none, none, none, none, none, none, none, none, none], c82, [.cell 1 2 true, .var 2], .pure⟩
/-- umpire/spec.asks -/
def vm148 : List Nat := [0, 2, 3, 4]
def c148 : LCode :=
  .seq (
   .region 1 [⟨0, (some 1), none, .asg (.const (.int .i64 0)), false, []⟩] false) (
  .seq (
   .region 8 [⟨0, none, none, .mv (.var 0) false, false, []⟩,
     ⟨1, none, none, .build [(.int .i64 0), (.int .i64 0), (.vs true .sh 0 [])] [(0, 1, (.const (.int .i64 1))), (2, 1, (.loc 0))], false, []⟩,
     ⟨2, none, none, .callp 56 [(.loc 1)], false, []⟩,
     ⟨3, none, none, .mv (.loc 2) false, false, []⟩,
     ⟨4, none, none, .extract (.loc 3) 0, false, []⟩,
     ⟨5, none, none, .extract (.loc 3) 1, false, []⟩,
     ⟨6, (some 2), none, .asg (.loc 4), false, []⟩,
     ⟨7, (some 3), none, .asg (.loc 5), false, []⟩] false) (
  .seq (
   .region 3 [⟨0, none, none, .mv (.var 2) false, false, []⟩,
     ⟨1, none, none, .callp 154 [(.loc 0)], false, []⟩,
     ⟨2, (some 1), none, .asg (.loc 1), false, []⟩] false) (
  .ret)))
def l148 : LFun := ⟨1, [(some 0), none, none, none], c148, [.var 1], .pure⟩
/-- umpire/reply.Event -/
def vm149 : List Nat := [0, 1, 2, 3, 4, 5, 6, 7, 23, 25, 26, 30, 31, 43, 44, 48]
def c149 : LCode :=
  .seq (
   .region 3 [⟨0, (some 2), none, .box 28 (.var 0), false, []⟩,
     ⟨1, (some 3), none, .box 57 (.var 1), false, []⟩,
     ⟨2, (some 4), none, .asg (.const (.int .i64 0)), false, []⟩] false) (
  .seq (
   .region 8 [⟨0, none, none, .fieldAddr 5 1 false (.var 2), false, []⟩,
     ⟨1, none, none, .load false 1 (.loc 0) false, false, []⟩,
     ⟨2, none, none, .fieldAddr 6 1 false (.var 2), false, []⟩,
     ⟨3, none, none, .load false 1 (.loc 2) true, false, []⟩,
     ⟨4, none, none, .cvBytes (.loc 3), false, []⟩,
     ⟨5, none, none, .build [(.int .i64 0), (.int .i64 0), (.vs true .sh 0 [])] [(0, 1, (.const (.int .i64 1))), (1, 1, (.loc 1)), (2, 1, (.loc 4))], false, []⟩,
     ⟨6, (some 5), none, .alloc 57 [(.int .i64 0), (.int .i64 0), (.vs true .sh 0 [])], false, []⟩,
     ⟨7, (some 16), none, .store 3 (.var 5) (.loc 5), false, []⟩] false) (
  .seq (
   .seq (
    .region 10 [⟨0, none, none, .fieldAddr 3 1 false (.var 2), false, []⟩,
      ⟨1, none, none, .load false 1 (.loc 0) true, false, []⟩,
      ⟨2, none, none, .un .not (.loc 1), false, []⟩,
      ⟨3, none, none, .mv (.loc 2) false, false, []⟩,
      ⟨4, none, (some ((.loc 3), false)), .fieldAddr 1 1 false (.var 3), false, []⟩,
      ⟨5, none, (some ((.loc 3), false)), .load false 1 (.loc 4) true, false, []⟩,
      ⟨6, none, (some ((.loc 3), false)), .fieldAddr 5 1 false (.var 2), false, []⟩,
      ⟨7, none, (some ((.loc 3), false)), .load false 1 (.loc 6) true, false, []⟩,
      ⟨8, none, (some ((.loc 3), false)), .bin .neq (.loc 5) (.loc 7), false, []⟩,
      ⟨9, (some 8), none, .pick (.loc 3) (.const (.bool true)) (.loc 8), false, []⟩] false) (
   .cond (.var 8) (
    .seq (
     .region 1 [⟨0, (some 4), none, .asg (.const (.int .i64 0)), false, []⟩] false) (
    .ret)) (
    .skip))) (
  .seq (
   .seq (
    .region 2 [⟨0, none, none, .fieldAddr 0 1 false (.var 3), false, []⟩,
      ⟨1, (some 9), none, .load false 1 (.loc 0) false, false, []⟩] false) (
   .block 0 (
    .seq (
     .region 2 [⟨0, none, none, .bin .eql (.var 9) (.const (.int .i64 2)), false, []⟩,
       ⟨1, (some 10), none, .asg (.loc 0), false, []⟩] false) (
    .cond (.var 10) (
     .seq (
      .region 3 [⟨0, none, none, .load true 3 (.var 5) false, false, []⟩,
        ⟨1, none, none, .load true 3 (.var 3) false, false, []⟩,
        ⟨2, (some 11), none, .callp 57 [(.loc 0), (.loc 1)], false, []⟩] false) (
     .cond (.var 11) (
      .seq (
       .region 1 [⟨0, (some 4), none, .asg (.const (.int .i64 9)), false, []⟩] false) (
      .ret)) (
      .skip))) (
     .seq (
      .region 2 [⟨0, none, none, .bin .eql (.var 9) (.const (.int .i64 3)), false, []⟩,
        ⟨1, (some 12), none, .asg (.loc 0), false, []⟩] false) (
     .cond (.var 12) (
      .seq (
       .region 7 [⟨0, none, none, .load true 3 (.var 3) false, false, []⟩,
         ⟨1, none, none, .callp 56 [(.loc 0)], false, []⟩,
         ⟨2, none, none, .mv (.loc 1) false, false, []⟩,
         ⟨3, none, none, .extract (.loc 2) 0, false, []⟩,
         ⟨4, none, none, .extract (.loc 2) 1, false, []⟩,
         ⟨5, (some 6), none, .asg (.loc 3), false, []⟩,
         ⟨6, (some 7), none, .asg (.loc 4), false, []⟩] false) (
      .seq (
       .region 6 [⟨0, none, none, .mv (.var 7) false, false, []⟩,
         ⟨1, none, none, .mv (.loc 0) false, false, []⟩,
         ⟨2, none, (some ((.loc 1), true)), .mv (.var 6) true, false, []⟩,
         ⟨3, none, (some ((.loc 1), true)), .len 1 (.loc 2), false, []⟩,
         ⟨4, none, (some ((.loc 1), true)), .bin .gtr (.loc 3) (.const (.int .i64 0)), false, []⟩,
         ⟨5, (some 13), none, .pick (.loc 1) (.loc 4) (.const (.bool false)), false, []⟩] false) (
      .cond (.var 13) (
       .seq (
        .region 1 [⟨0, (some 4), none, .asg (.const (.int .i64 10)), false, []⟩] false) (
       .ret)) (
       .skip)))) (
      .seq (
       .region 2 [⟨0, none, none, .bin .eql (.var 9) (.const (.int .i64 4)), false, []⟩,
         ⟨1, (some 14), none, .asg (.loc 0), false, []⟩] false) (
      .cond (.var 14) (
       .seq (
        .region 3 [⟨0, none, none, .load true 3 (.var 5) false, false, []⟩,
          ⟨1, none, none, .load true 3 (.var 3) false, false, []⟩,
          ⟨2, (some 15), none, .callp 58 [(.loc 0), (.loc 1)], false, []⟩] false) (
       .cond (.var 15) (
        .seq (
         .region 1 [⟨0, (some 4), none, .asg (.const (.int .i64 10)), false, []⟩] false) (
        .ret)) (
        .skip))) (
       .skip))))))))) (
  .seq (
   .region 1 [⟨0, (some 4), none, .asg (.const (.int .i64 0)), false, []⟩] false) (
  .ret)))))
def l149 : LFun := ⟨2, [(some 0), (some 1), none, none, none, none, none, none, none, none, none, none, none, none, none, none], c149, [.var 4], .pure⟩
/-- umpire/packet.Rejected -/
def vm150 : List Nat := [0, 1, 2, 3, 4, 5, 6, 7, 10]
def c150 : LCode :=
  .seq (
   .region 4 [⟨0, (some 1), none, .box 57 (.var 0), false, []⟩,
     ⟨1, (some 2), none, .asg (.const (.int .i64 0)), false, []⟩,
     ⟨2, (some 3), none, .asg (.const (.vs true .sh 0 [])), false, []⟩,
     ⟨3, (some 4), none, .asg (.const (.bool false)), false, []⟩] false) (
  .seq (
   .seq (
    .region 3 [⟨0, none, none, .fieldAddr 0 1 false (.var 1), false, []⟩,
      ⟨1, none, none, .load false 1 (.loc 0) true, false, []⟩,
      ⟨2, (some 8), none, .bin .neq (.loc 1) (.const (.int .i64 8)), false, []⟩] false) (
   .cond (.var 8) (
    .seq (
     .region 3 [⟨0, (some 2), none, .asg (.const (.int .i64 0)), false, []⟩,
       ⟨1, (some 3), none, .asg (.const (.vs true .sh 0 [])), false, []⟩,
       ⟨2, (some 4), none, .asg (.const (.bool false)), false, []⟩] false) (
    .ret)) (
    .skip))) (
  .seq (
   .region 9 [⟨0, none, none, .load true 3 (.var 1) false, false, []⟩,
     ⟨1, none, none, .callp 63 [(.loc 0), (.const (.int .i64 2))], false, []⟩,
     ⟨2, none, none, .mv (.loc 1) false, false, []⟩,
     ⟨3, none, none, .extract (.loc 2) 0, false, []⟩,
     ⟨4, none, none, .extract (.loc 2) 1, false, []⟩,
     ⟨5, none, none, .extract (.loc 2) 2, false, []⟩,
     ⟨6, (some 5), none, .asg (.loc 3), false, []⟩,
     ⟨7, (some 6), none, .asg (.loc 4), false, []⟩,
     ⟨8, (some 7), none, .asg (.loc 5), false, []⟩] false) (
  .seq (
   .region 7 [⟨0, none, none, .mv (.var 5) true, false, []⟩,
     ⟨1, none, none, .cvInt .i64 (.loc 0), false, []⟩,
     ⟨2, none, none, .mv (.var 6) false, false, []⟩,
     ⟨3, none, none, .mv (.var 7) false, false, []⟩,
     ⟨4, (some 2), none, .asg (.loc 1), false, []⟩,
     ⟨5, (some 3), none, .asg (.loc 2), false, []⟩,
     ⟨6, (some 4), none, .asg (.loc 3), false, []⟩] false) (
  .ret))))
def l150 : LFun := ⟨1, [(some 0), none, none, none, none, none, none, none, none], c150, [.var 2, .var 3, .var 4], .pure⟩
/-- umpire/auth.owed -/
def vm151 : List Nat := [0, 1, 2, 3, 6, 8]
def c151 : LCode :=
  .seq (
   .region 2 [⟨0, (some 4), none, .box 57 (.var 2), false, []⟩,
     ⟨1, (some 5), none, .asg (.const (.vs true .sh 0 [])), false, []⟩] false) (
  .seq (
   .region 9 [⟨0, none, none, .mv (.var 0) false, false, []⟩,
     ⟨1, none, none, .mv (.var 1) false, false, []⟩,
     ⟨2, none, none, .fieldAddr 1 1 false (.var 4), false, []⟩,
     ⟨3, none, none, .load false 1 (.loc 2) false, false, []⟩,
     ⟨4, none, none, .mv (.var 3) true, false, []⟩,
     ⟨5, none, none, .cvStr (.loc 4), false, []⟩,
     ⟨6, none, none, .build [(.int .i64 0), (.int .i64 0), (.int .i64 0), (.str [])] [(0, 1, (.loc 0)), (1, 1, (.loc 1)), (2, 1, (.loc 3)), (3, 1, (.loc 5))], false, []⟩,
     ⟨7, none, none, .mkslice (.agg [(.int .i64 0), (.int .i64 0), (.int .i64 0), (.str [])]) 4 1 [(0, (.loc 6))], false, []⟩,
     ⟨8, (some 5), none, .asg (.loc 7), false, []⟩] false) (
  .ret))
def l151 : LFun := ⟨4, [(some 0), (some 1), (some 2), (some 3), none, none], c151, [.var 5], .pure⟩
/-- umpire/octet.Fits -/
def vm152 : List Nat := [0, 1, 4]
def r152_0 : LCode :=
  .region 18 [⟨0, none, none, .mv (.var 1) true, false, []⟩,
    ⟨1, none, none, .bin .geq (.loc 0) (.const (.int .i64 1)), false, []⟩,
    ⟨2, none, none, .mv (.loc 1) false, false, []⟩,
    ⟨3, none, (some ((.loc 2), true)), .mv (.var 1) true, false, []⟩,
    ⟨4, none, (some ((.loc 2), true)), .bin .leq (.loc 3) (.const (.int .i64 8)), false, []⟩,
    ⟨5, none, none, .pick (.loc 2) (.loc 4) (.const (.bool false)), false, []⟩,
    ⟨6, none, none, .mv (.loc 5) false, false, []⟩,
    ⟨7, none, (some ((.loc 6), true)), .mv (.var 1) true, false, []⟩,
    ⟨8, none, (some ((.loc 6), true)), .bin .eql (.loc 7) (.const (.int .i64 8)), false, []⟩,
    ⟨9, none, (some ((.loc 6), true)), .mv (.loc 8) false, false, []⟩,
    ⟨10, none, (some ((.loc 9), false)), .mv (.var 0) true, false, []⟩,
    ⟨11, none, (some ((.loc 9), false)), .mv (.var 1) true, false, []⟩,
    ⟨12, none, (some ((.loc 9), false)), .bin .mul (.const (.int .i64 8)) (.loc 11), false, []⟩,
    ⟨13, none, (some ((.loc 9), false)), .bin .shr (.loc 10) (.loc 12), false, []⟩,
    ⟨14, none, (some ((.loc 9), false)), .bin .eql (.loc 13) (.const (.int .u64 0)), false, []⟩,
    ⟨15, none, (some ((.loc 6), true)), .pick (.loc 9) (.const (.bool true)) (.loc 14), false, []⟩,
    ⟨16, none, none, .pick (.loc 6) (.loc 15) (.const (.bool false)), false, []⟩,
    ⟨17, (some 2), none, .asg (.loc 16), false, []⟩] false
def c152 : LCode :=
  .seq (
   .region 1 [⟨0, (some 2), none, .asg (.const (.bool false)), false, []⟩] false) (
  .seq (
   r152_0) (
  .ret))
def l152 : LFun := ⟨2, [(some 0), (some 1), none], c152, [.var 2], .pure⟩
/-- slices.Reverse[[]byte,byte] -/
def vm153 : List Nat := [0, 2, 3, 9]
def r153_0 : LCode :=
  .region 16 [⟨0, none, none, .mv (.var 0) false, false, []⟩,
    ⟨1, none, none, .mv (.var 1) false, false, []⟩,
    ⟨2, none, none, .mv (.var 0) false, false, []⟩,
    ⟨3, none, none, .mv (.var 2) false, false, []⟩,
    ⟨4, none, none, .mv (.var 0) false, false, []⟩,
    ⟨5, none, none, .mv (.var 2) false, false, []⟩,
    ⟨6, none, none, .idxAddrVs 1 (.loc 4) (.loc 5), false, []⟩,
    ⟨7, none, none, .load false 1 (.loc 6) false, false, []⟩,
    ⟨8, none, none, .mv (.var 0) false, false, []⟩,
    ⟨9, none, none, .mv (.var 1) false, false, []⟩,
    ⟨10, none, none, .idxAddrVs 1 (.loc 8) (.loc 9), false, []⟩,
    ⟨11, none, none, .load false 1 (.loc 10) false, false, []⟩,
    ⟨12, none, none, .idxAddrVs 1 (.loc 0) (.loc 1), false, []⟩,
    ⟨13, (some 4), none, .store 1 (.loc 12) (.loc 7), false, []⟩,
    ⟨14, none, none, .idxAddrVs 1 (.loc 2) (.loc 3), false, []⟩,
    ⟨15, (some 4), none, .store 1 (.loc 14) (.loc 11), false, []⟩] true
def b153_1 : LCode :=
  .fence [3] (
   .seq (
    .seq (
     .region 3 [⟨0, none, none, .mv (.var 1) true, false, []⟩,
       ⟨1, none, none, .mv (.var 2) true, false, []⟩,
       ⟨2, (some 3), none, .bin .lss (.loc 0) (.loc 1), false, []⟩] false) (
    .cond (.var 3) (
     .skip) (
     .exit 0))) (
   .seq (
    .block 1 (
     r153_0)) (
   .region 6 [⟨0, none, none, .mv (.var 1) true, false, []⟩,
     ⟨1, none, none, .bin .add (.loc 0) (.const (.int .i64 1)), false, []⟩,
     ⟨2, none, none, .mv (.var 2) true, false, []⟩,
     ⟨3, none, none, .bin .sub (.loc 2) (.const (.int .i64 1)), false, []⟩,
     ⟨4, (some 1), none, .asg (.loc 1), false, []⟩,
     ⟨5, (some 2), none, .asg (.loc 3), false, []⟩] false)))
def c153 : LCode :=
  .seq (
   .region 5 [⟨0, none, none, .mv (.var 0) true, false, []⟩,
     ⟨1, none, none, .len 1 (.loc 0), false, []⟩,
     ⟨2, none, none, .bin .sub (.loc 1) (.const (.int .i64 1)), false, []⟩,
     ⟨3, (some 1), none, .asg (.const (.int .i64 0)), false, []⟩,
     ⟨4, (some 2), none, .asg (.loc 2), false, []⟩] false) (
  .fence [0, 1, 2, 3] (
   .block 0 (
    .loop b153_1)))
def l153 : LFun := ⟨1, [(some 0), none, none, none], c153, [], .pure⟩
/-- umpire/table.find -/
def vm93 : List Nat := [0, 1, 4, 5, 6, 24, 32, 40, 46, 54, 62]
def c93 : LCode :=
  .seq (
   .region 2 [⟨0, (some 2), none, .alloc 176 [(.int .i64 0), (.vs true .sh 0 [])], false, []⟩,
     ⟨1, (some 3), none, .asg (.const (.bool false)), false, []⟩] false) (
  .seq (
   .block 0 (
    .seq (
     .region 15 [⟨0, none, none, .mv (.var 0) true, false, []⟩,
       ⟨1, none, none, .bin .lss (.loc 0) (.const (.int .i64 0)), false, []⟩,
       ⟨2, none, none, .mv (.loc 1) false, false, []⟩,
       ⟨3, none, (some ((.loc 2), false)), .mv (.var 0) true, false, []⟩,
       ⟨4, none, (some ((.loc 2), false)), .bin .gtr (.loc 3) (.const (.int .i64 9)), false, []⟩,
       ⟨5, none, none, .pick (.loc 2) (.const (.bool true)) (.loc 4), false, []⟩,
       ⟨6, none, none, .mv (.loc 5) false, false, []⟩,
       ⟨7, none, (some ((.loc 6), false)), .mv (.var 1) true, false, []⟩,
       ⟨8, none, (some ((.loc 6), false)), .bin .lss (.loc 7) (.const (.int .i64 1)), false, []⟩,
       ⟨9, none, none, .pick (.loc 6) (.const (.bool true)) (.loc 8), false, []⟩,
       ⟨10, none, none, .mv (.loc 9) false, false, []⟩,
       ⟨11, none, (some ((.loc 10), false)), .mv (.var 1) true, false, []⟩,
       ⟨12, none, (some ((.loc 10), false)), .bin .gtr (.loc 11) (.const (.int .i64 16)), false, []⟩,
       ⟨13, none, none, .pick (.loc 10) (.const (.bool true)) (.loc 12), false, []⟩,
       ⟨14, (some 4), none, .asg (.loc 13), false, []⟩] false) (
    .cond (.var 4) (
     .seq (
      .region 5 [⟨0, none, none, .callp 98 [], false, []⟩,
        ⟨1, none, none, .extract (.loc 0) 0, false, []⟩,
        ⟨2, none, none, .extract (.loc 0) 1, false, []⟩,
        ⟨3, (some 11), none, .store 2 (.var 2) (.loc 1), false, []⟩,
        ⟨4, (some 3), none, .asg (.loc 2), false, []⟩] false) (
     .ret)) (
     .seq (
      .region 3 [⟨0, none, none, .mv (.var 1) true, false, []⟩,
        ⟨1, none, none, .bin .leq (.loc 0) (.const (.int .i64 4)), false, []⟩,
        ⟨2, (some 5), none, .asg (.loc 1), false, []⟩] false) (
     .cond (.var 5) (
      .seq (
       .region 7 [⟨0, none, none, .mv (.var 0) false, false, []⟩,
         ⟨1, none, none, .mv (.var 1) false, false, []⟩,
         ⟨2, none, none, .callp 99 [(.loc 0), (.loc 1)], false, []⟩,
         ⟨3, none, none, .extract (.loc 2) 0, false, []⟩,
         ⟨4, none, none, .extract (.loc 2) 1, false, []⟩,
         ⟨5, (some 11), none, .store 2 (.var 2) (.loc 3), false, []⟩,
         ⟨6, (some 3), none, .asg (.loc 4), false, []⟩] false) (
      .ret)) (
      .seq (
       .region 3 [⟨0, none, none, .mv (.var 1) true, false, []⟩,
         ⟨1, none, none, .bin .leq (.loc 0) (.const (.int .i64 6)), false, []⟩,
         ⟨2, (some 6), none, .asg (.loc 1), false, []⟩] false) (
      .cond (.var 6) (
       .seq (
        .region 7 [⟨0, none, none, .mv (.var 0) false, false, []⟩,
          ⟨1, none, none, .mv (.var 1) false, false, []⟩,
          ⟨2, none, none, .callp 100 [(.loc 0), (.loc 1)], false, []⟩,
          ⟨3, none, none, .extract (.loc 2) 0, false, []⟩,
          ⟨4, none, none, .extract (.loc 2) 1, false, []⟩,
          ⟨5, (some 11), none, .store 2 (.var 2) (.loc 3), false, []⟩,
          ⟨6, (some 3), none, .asg (.loc 4), false, []⟩] false) (
       .ret)) (
       .seq (
        .region 3 [⟨0, none, none, .mv (.var 0) true, false, []⟩,
          ⟨1, none, none, .bin .lss (.loc 0) (.const (.int .i64 2)), false, []⟩,
          ⟨2, (some 7), none, .asg (.loc 1), false, []⟩] false) (
       .cond (.var 7) (
        .seq (
         .region 5 [⟨0, none, none, .callp 98 [], false, []⟩,
           ⟨1, none, none, .extract (.loc 0) 0, false, []⟩,
           ⟨2, none, none, .extract (.loc 0) 1, false, []⟩,
           ⟨3, (some 11), none, .store 2 (.var 2) (.loc 1), false, []⟩,
           ⟨4, (some 3), none, .asg (.loc 2), false, []⟩] false) (
        .ret)) (
        .seq (
         .region 3 [⟨0, none, none, .mv (.var 1) true, false, []⟩,
           ⟨1, none, none, .bin .leq (.loc 0) (.const (.int .i64 8)), false, []⟩,
           ⟨2, (some 8), none, .asg (.loc 1), false, []⟩] false) (
        .cond (.var 8) (
         .seq (
          .region 7 [⟨0, none, none, .mv (.var 0) false, false, []⟩,
            ⟨1, none, none, .mv (.var 1) false, false, []⟩,
            ⟨2, none, none, .callp 101 [(.loc 0), (.loc 1)], false, []⟩,
            ⟨3, none, none, .extract (.loc 2) 0, false, []⟩,
            ⟨4, none, none, .extract (.loc 2) 1, false, []⟩,
            ⟨5, (some 11), none, .store 2 (.var 2) (.loc 3), false, []⟩,
            ⟨6, (some 3), none, .asg (.loc 4), false, []⟩] false) (
         .ret)) (
         .seq (
          .region 3 [⟨0, none, none, .mv (.var 1) true, false, []⟩,
            ⟨1, none, none, .bin .leq (.loc 0) (.const (.int .i64 10)), false, []⟩,
            ⟨2, (some 9), none, .asg (.loc 1), false, []⟩] false) (
         .cond (.var 9) (
          .seq (
           .region 7 [⟨0, none, none, .mv (.var 0) false, false, []⟩,
             ⟨1, none, none, .mv (.var 1) false, false, []⟩,
             ⟨2, none, none, .callp 102 [(.loc 0), (.loc 1)], false, []⟩,
             ⟨3, none, none, .extract (.loc 2) 0, false, []⟩,
             ⟨4, none, none, .extract (.loc 2) 1, false, []⟩,
             ⟨5, (some 11), none, .store 2 (.var 2) (.loc 3), false, []⟩,
             ⟨6, (some 3), none, .asg (.loc 4), false, []⟩] false) (
          .ret)) (
          .seq (
           .region 3 [⟨0, none, none, .mv (.var 1) true, false, []⟩,
             ⟨1, none, none, .bin .leq (.loc 0) (.const (.int .i64 12)), false, []⟩,
             ⟨2, (some 10), none, .asg (.loc 1), false, []⟩] false) (
          .cond (.var 10) (
           .seq (
            .region 7 [⟨0, none, none, .mv (.var 0) false, false, []⟩,
              ⟨1, none, none, .mv (.var 1) false, false, []⟩,
              ⟨2, none, none, .callp 103 [(.loc 0), (.loc 1)], false, []⟩,
              ⟨3, none, none, .extract (.loc 2) 0, false, []⟩,
              ⟨4, none, none, .extract (.loc 2) 1, false, []⟩,
              ⟨5, (some 11), none, .store 2 (.var 2) (.loc 3), false, []⟩,
              ⟨6, (some 3), none, .asg (.loc 4), false, []⟩] false) (
           .ret)) (
           .skip)))))))))))))))) (
  .seq (
   .region 7 [⟨0, none, none, .mv (.var 0) false, false, []⟩,
     ⟨1, none, none, .mv (.var 1) false, false, []⟩,
     ⟨2, none, none, .callp 104 [(.loc 0), (.loc 1)], false, []⟩,
     ⟨3, none, none, .extract (.loc 2) 0, false, []⟩,
     ⟨4, none, none, .extract (.loc 2) 1, false, []⟩,
     ⟨5, (some 11), none, .store 2 (.var 2) (.loc 3), false, []⟩,
     ⟨6, (some 3), none, .asg (.loc 4), false, []⟩] false) (
  .ret)))
def l93 : LFun := ⟨2, [(some 0), (some 1), none, none, none, none, none, none, none, none, none], c93, [.cell 2 2 true, .var 3], .pure⟩
/-- slices.Contains[[]int,int] -/
def vm84 : List Nat := [0, 1, 4]
def c84 : LCode :=
  .seq (
   .region 1 [⟨0, (some 2), none, .asg (.const (.bool false)), false, []⟩] false) (
  .seq (
   .region 5 [⟨0, none, none, .mv (.var 0) false, false, []⟩,
     ⟨1, none, none, .mv (.var 1) false, false, []⟩,
     ⟨2, none, none, .callp 53 [(.loc 0), (.loc 1)], false, []⟩,
     ⟨3, none, none, .bin .geq (.loc 2) (.const (.int .i64 0)), false, []⟩,
     ⟨4, (some 2), none, .asg (.loc 3), false, []⟩] false) (
  .ret))
def l84 : LFun := ⟨2, [(some 0), (some 1), none], c84, [.var 2], .pure⟩
/-- bytes.Clone -/
def vm85 : List Nat := [0, 2, 4]
def c85 : LCode :=
  .seq (
   .region 1 [⟨0, (some 1), none, .asg (.const (.vs true .sh 0 [])), false, []⟩] false) (
  .seq (
   .seq (
    .region 2 [⟨0, none, none, .mv (.var 0) true, false, []⟩,
      ⟨1, (some 2), none, .isNil 1 false (.loc 0), false, []⟩] false) (
   .cond (.var 2) (
    .seq (
     .region 1 [⟨0, (some 1), none, .asg (.const (.vs true .sh 0 [])), false, []⟩] false) (
    .ret)) (
    .skip))) (
  .seq (
   .region 4 [⟨0, none, none, .mkslice (.int .u8 0) 1 0 [], false, []⟩,
     ⟨1, none, none, .mv (.var 0) true, false, []⟩,
     ⟨2, none, none, .append 5 1 1 (.loc 0) (.loc 1), false, []⟩,
     ⟨3, (some 1), none, .asg (.loc 2), false, []⟩] false) (
  .ret)))
def l85 : LFun := ⟨1, [(some 0), none, none], c85, [.var 1], .pure⟩
/-- umpire/option.alike -/
def vm86 : List Nat := [0, 1, 2, 3, 4]
def c86 : LCode :=
  .seq (
   .region 3 [⟨0, (some 2), none, .box 146 (.var 0), false, []⟩,
     ⟨1, (some 3), none, .box 146 (.var 1), false, []⟩,
     ⟨2, (some 4), none, .asg (.const (.bool false)), false, []⟩] false) (
  .seq (
   .region 13 [⟨0, none, none, .fieldAddr 0 1 false (.var 2), false, []⟩,
     ⟨1, none, none, .load false 1 (.loc 0) true, false, []⟩,
     ⟨2, none, none, .fieldAddr 0 1 false (.var 3), false, []⟩,
     ⟨3, none, none, .load false 1 (.loc 2) true, false, []⟩,
     ⟨4, none, none, .bin .eql (.loc 1) (.loc 3), false, []⟩,
     ⟨5, none, none, .mv (.loc 4) false, false, []⟩,
     ⟨6, none, (some ((.loc 5), true)), .fieldAddr 1 1 false (.var 2), false, []⟩,
     ⟨7, none, (some ((.loc 5), true)), .load false 1 (.loc 6) false, false, []⟩,
     ⟨8, none, (some ((.loc 5), true)), .fieldAddr 1 1 false (.var 3), false, []⟩,
     ⟨9, none, (some ((.loc 5), true)), .load false 1 (.loc 8) false, false, []⟩,
     ⟨10, none, (some ((.loc 5), true)), .callp 68 [(.loc 7), (.loc 9)], false, []⟩,
     ⟨11, none, none, .pick (.loc 5) (.loc 10) (.const (.bool false)), false, []⟩,
     ⟨12, (some 4), none, .asg (.loc 11), false, []⟩] false) (
  .ret))
def l86 : LFun := ⟨2, [(some 0), (some 1), none, none, none], c86, [.var 4], .pure⟩
/-- umpire/reply.Naks$1$1 -/
def vm75 : List Nat := [0, 1, 2, 3]
def c75 : LCode :=
  .seq (
   .region 2 [⟨0, (some 2), none, .box 146 (.var 0), false, []⟩,
     ⟨1, (some 3), none, .asg (.const (.bool false)), false, []⟩] false) (
  .seq (
   .region 6 [⟨0, none, none, .load true 2 (.var 2) false, false, []⟩,
     ⟨1, none, none, .mkslice (.agg [(.int .i64 0), (.vs true .sh 0 [])]) 2 1 [(0, (.loc 0))], false, []⟩,
     ⟨2, none, none, .load true 2 (.var 1) false, false, []⟩,
     ⟨3, none, none, .mkslice (.agg [(.int .i64 0), (.vs true .sh 0 [])]) 2 1 [(0, (.loc 2))], false, []⟩,
     ⟨4, none, none, .callp 76 [(.loc 1), (.loc 3)], false, []⟩,
     ⟨5, (some 3), none, .asg (.loc 4), false, []⟩] false) (
  .ret))
def l75 : LFun := ⟨2, [(some 0), (some 1), none, none], c75, [.var 3], .trim⟩
/-- slices.IndexFunc[[]umpire/api.Option,umpire/api.Option] -/
def vm87 : List Nat := [0, 1, 4, 5, 7, 8, 9, 16]
def b87_0 : LCode :=
  .fence [2, 3, 6, 7] (
   .seq (
    .region 1 [⟨0, (some 6), none, .bin .lss (.var 5) (.var 4), false, []⟩] false) (
   .seq (
    .cond (.var 6) (
     .skip) (
     .exit 0)) (
   .seq (
    .block 1 (
     .seq (
      .region 2 [⟨0, none, none, .mv (.var 5) false, false, []⟩,
        ⟨1, (some 3), none, .asg (.loc 0), false, []⟩] false) (
     .seq (
      .region 6 [⟨0, none, none, .mv (.var 1) false, false, []⟩,
        ⟨1, none, none, .mv (.var 0) false, false, []⟩,
        ⟨2, none, none, .mv (.var 3) false, false, []⟩,
        ⟨3, none, none, .idxAddrVs 2 (.loc 1) (.loc 2), false, []⟩,
        ⟨4, none, none, .load true 2 (.loc 3) false, false, []⟩,
        ⟨5, (some 7), none, .callv (.loc 0) [(.loc 4)], false, []⟩] false) (
     .cond (.var 7) (
      .seq (
       .region 2 [⟨0, none, none, .mv (.var 3) false, false, []⟩,
         ⟨1, (some 2), none, .asg (.loc 0), false, []⟩] false) (
      .ret)) (
      .skip))))) (
   .region 2 [⟨0, none, none, .bin .add (.var 5) (.const (.int .i64 1)), false, []⟩,
     ⟨1, (some 5), none, .mv (.loc 0) false, false, []⟩] false))))
def c87 : LCode :=
  .seq (
   .region 1 [⟨0, (some 2), none, .asg (.const (.int .i64 0)), false, []⟩] false) (
  .seq (
   .seq (
    .region 3 [⟨0, none, none, .mv (.var 0) true, false, []⟩,
      ⟨1, (some 4), none, .len 1 (.loc 0), false, []⟩,
      ⟨2, (some 5), none, .mv (.const (.int .i64 0)) false, false, []⟩] false) (
   .fence [0, 1, 2, 3, 4, 5, 6, 7] (
    .block 0 (
     .loop b87_0)))) (
  .seq (
   .region 1 [⟨0, (some 2), none, .asg (.const (.int .i64 (-1))), false, []⟩] false) (
  .ret)))
def l87 : LFun := ⟨2, [(some 0), (some 1), none, none, none, none, none, none], c87, [.var 2], .trim⟩
/-- umpire/pap.ReadSay -/
def vm89 : List Nat := [0, 2, 3, 4, 5, 6, 13, 16]
def c89 : LCode :=
  .seq (
   .region 2 [⟨0, (some 1), none, .asg (.const (.str [])), false, []⟩,
     ⟨1, (some 2), none, .asg (.const (.int .i64 0)), false, []⟩] false) (
  .seq (
   .region 3 [⟨0, none, none, .mv (.var 0) false, false, []⟩,
     ⟨1, (some 3), none, .alloc 172 [(.vs true .sh 0 [])], false, []⟩,
     ⟨2, (some 8), none, .store 1 (.var 3) (.loc 0), false, []⟩] false) (
  .seq (
   .region 6 [⟨0, none, none, .call 91 [(.var 3)], false, []⟩,
     ⟨1, none, none, .mv (.loc 0) false, false, []⟩,
     ⟨2, none, none, .extract (.loc 1) 0, false, []⟩,
     ⟨3, none, none, .extract (.loc 1) 1, false, []⟩,
     ⟨4, (some 4), none, .asg (.loc 2), false, []⟩,
     ⟨5, (some 5), none, .asg (.loc 3), false, []⟩] false) (
  .seq (
   .seq (
    .region 2 [⟨0, none, none, .mv (.var 5) true, false, []⟩,
      ⟨1, (some 6), none, .bin .eql (.loc 0) (.const (.int .i64 0)), false, []⟩] false) (
   .cond (.var 6) (
    .region 2 [⟨0, none, none, .call 92 [(.var 3)], false, []⟩,
      ⟨1, (some 5), none, .asg (.loc 0), false, []⟩] false) (
    .skip))) (
  .seq (
   .seq (
    .region 2 [⟨0, none, none, .mv (.var 5) true, false, []⟩,
      ⟨1, (some 7), none, .bin .neq (.loc 0) (.const (.int .i64 0)), false, []⟩] false) (
   .cond (.var 7) (
    .seq (
     .region 3 [⟨0, none, none, .mv (.var 5) false, false, []⟩,
       ⟨1, (some 1), none, .asg (.const (.str [])), false, []⟩,
       ⟨2, (some 2), none, .asg (.loc 0), false, []⟩] false) (
    .ret)) (
    .skip))) (
  .seq (
   .region 3 [⟨0, none, none, .mv (.var 4) false, false, []⟩,
     ⟨1, (some 1), none, .asg (.loc 0), false, []⟩,
     ⟨2, (some 2), none, .asg (.const (.int .i64 0)), false, []⟩] false) (
  .ret))))))
def l89 : LFun := ⟨1, [(some 0), none, none, none, none, none, none, none], c89, [.var 1, .var 2], .pure⟩
/-- umpire/md5.Sum -/
def vm90 : List Nat := [0, 2, 3, 4, 5, 6, 11, 12, 16, 17]
def b90_0 : LCode :=
  .fence [0, 3, 5, 6, 7, 9] (
   .seq (
    .region 1 [⟨0, (some 9), none, .bin .lss (.var 8) (.const (.int .i64 16)), false, []⟩] false) (
   .seq (
    .cond (.var 9) (
     .skip) (
     .exit 2)) (
   .seq (
    .block 3 (
     .seq (
      .region 2 [⟨0, none, none, .mv (.var 8) false, false, []⟩,
        ⟨1, (some 5), none, .asg (.loc 0), false, []⟩] false) (
     .region 12 [⟨0, none, none, .mv (.var 5) false, false, []⟩,
       ⟨1, none, none, .mv (.var 5) true, false, []⟩,
       ⟨2, none, none, .bin .quo (.loc 1) (.const (.int .i64 4)), false, []⟩,
       ⟨3, none, none, .idxAddrArr 4 1 false (.var 2) (.loc 2), false, []⟩,
       ⟨4, none, none, .load false 1 (.loc 3) true, false, []⟩,
       ⟨5, none, none, .mv (.var 5) true, false, []⟩,
       ⟨6, none, none, .bin .rem (.loc 5) (.const (.int .i64 4)), false, []⟩,
       ⟨7, none, none, .bin .mul (.const (.int .i64 8)) (.loc 6), false, []⟩,
       ⟨8, none, none, .bin .shr (.loc 4) (.loc 7), false, []⟩,
       ⟨9, none, none, .cvInt .u8 (.loc 8), false, []⟩,
       ⟨10, none, none, .idxAddrArr 16 1 false (.var 4) (.loc 0), false, []⟩,
       ⟨11, (some 10), none, .store 1 (.loc 10) (.loc 9), false, []⟩] false))) (
   .region 2 [⟨0, none, none, .bin .add (.var 8) (.const (.int .i64 1)), false, []⟩,
     ⟨1, (some 8), none, .mv (.loc 0) false, false, []⟩] false))))
def c90 : LCode :=
  .seq (
   .region 1 [⟨0, (some 1), none, .alloc 153 [(.int .u8 0), (.int .u8 0), (.int .u8 0), (.int .u8 0), (.int .u8 0), (.int .u8 0), (.int .u8 0), (.int .u8 0), (.int .u8 0), (.int .u8 0), (.int .u8 0), (.int .u8 0), (.int .u8 0), (.int .u8 0), (.int .u8 0), (.int .u8 0)], false, []⟩] false) (
  .seq (
   .region 3 [⟨0, none, none, .build [(.int .u32 0), (.int .u32 0), (.int .u32 0), (.int .u32 0)] [(0, 1, (.const (.int .u32 1732584193))), (1, 1, (.const (.int .u32 4023233417))), (2, 1, (.const (.int .u32 2562383102))), (3, 1, (.const (.int .u32 271733878)))], false, []⟩,
     ⟨1, (some 2), none, .alloc 180 [(.int .u32 0), (.int .u32 0), (.int .u32 0), (.int .u32 0)], false, []⟩,
     ⟨2, (some 10), none, .store 4 (.var 2) (.loc 0), false, []⟩] false) (
  .seq (
   .seq (
    .region 4 [⟨0, none, none, .mv (.var 0) false, false, []⟩,
      ⟨1, none, none, .callp 96 [(.loc 0)], false, []⟩,
      ⟨2, none, none, .callp 95 [(.loc 1)], false, []⟩,
      ⟨3, (some 6), none, .call 94 [(.loc 2), (.const (.int .i64 64))], false, []⟩] false) (
   .block 0 (
    .dead))) (
  .seq (
   .region 1 [⟨0, (some 4), none, .alloc 153 [(.int .u8 0), (.int .u8 0), (.int .u8 0), (.int .u8 0), (.int .u8 0), (.int .u8 0), (.int .u8 0), (.int .u8 0), (.int .u8 0), (.int .u8 0), (.int .u8 0), (.int .u8 0), (.int .u8 0), (.int .u8 0), (.int .u8 0), (.int .u8 0)], false, []⟩] false) (
  .seq (
   .seq (
    .region 1 [⟨0, (some 8), none, .mv (.const (.int .i64 0)) false, false, []⟩] false) (
   .fence [0, 2, 3, 5, 6, 7, 8, 9] (
    .block 2 (
     .loop b90_0)))) (
  .seq (
   .region 2 [⟨0, none, none, .load true 16 (.var 4) false, false, []⟩,
     ⟨1, (some 10), none, .store 16 (.var 1) (.loc 0), false, []⟩] false) (
  .ret))))))
def l90 : LFun := ⟨1, [(some 0), none, none, none, none, none, none, none, none, none], c90, [.cell 1 16 true], .pure⟩
/-- (*umpire/pap.rest).text -/
def vm91 : List Nat := [0, 2, 3, 4, 5, 21]
def c91 : LCode :=
  .seq (
   .region 2 [⟨0, (some 1), none, .asg (.const (.str [])), false, []⟩,
     ⟨1, (some 2), none, .asg (.const (.int .i64 0)), false, []⟩] false) (
  .seq (
   .region 4 [⟨0, none, none, .mv (.var 0) true, false, []⟩,
     ⟨1, none, none, .nilCheck (.loc 0), false, []⟩,
     ⟨2, none, none, .load false 1 (.loc 1) false, false, []⟩,
     ⟨3, (some 3), none, .asg (.loc 2), false, []⟩] false) (
  .seq (
   .seq (
    .region 13 [⟨0, none, none, .mv (.var 3) true, false, []⟩,
      ⟨1, none, none, .len 1 (.loc 0), false, []⟩,
      ⟨2, none, none, .bin .eql (.loc 1) (.const (.int .i64 0)), false, []⟩,
      ⟨3, none, none, .mv (.loc 2) false, false, []⟩,
      ⟨4, none, (some ((.loc 3), false)), .mv (.var 3) true, false, []⟩,
      ⟨5, none, (some ((.loc 3), false)), .len 1 (.loc 4), false, []⟩,
      ⟨6, none, (some ((.loc 3), false)), .bin .sub (.loc 5) (.const (.int .i64 1)), false, []⟩,
      ⟨7, none, (some ((.loc 3), false)), .mv (.var 3) false, false, []⟩,
      ⟨8, none, (some ((.loc 3), false)), .idxAddrVs 1 (.loc 7) (.const (.int .i64 0)), false, []⟩,
      ⟨9, none, (some ((.loc 3), false)), .load false 1 (.loc 8) true, false, []⟩,
      ⟨10, none, (some ((.loc 3), false)), .cvInt .i64 (.loc 9), false, []⟩,
      ⟨11, none, (some ((.loc 3), false)), .bin .lss (.loc 6) (.loc 10), false, []⟩,
      ⟨12, (some 5), none, .pick (.loc 3) (.const (.bool true)) (.loc 11), false, []⟩] false) (
   .cond (.var 5) (
    .seq (
     .region 2 [⟨0, (some 1), none, .asg (.const (.str [])), false, []⟩,
       ⟨1, (some 2), none, .asg (.const (.int .i64 2)), false, []⟩] false) (
    .ret)) (
    .skip))) (
  .seq (
   .region 6 [⟨0, none, none, .mv (.var 3) false, false, []⟩,
     ⟨1, none, none, .idxAddrVs 1 (.loc 0) (.const (.int .i64 0)), false, []⟩,
     ⟨2, none, none, .load false 1 (.loc 1) true, false, []⟩,
     ⟨3, none, none, .cvInt .i64 (.loc 2), false, []⟩,
     ⟨4, none, none, .bin .add (.const (.int .i64 1)) (.loc 3), false, []⟩,
     ⟨5, (some 4), none, .asg (.loc 4), false, []⟩] false) (
  .seq (
   .region 6 [⟨0, none, none, .mv (.var 0) true, false, []⟩,
     ⟨1, none, none, .mv (.var 3) false, false, []⟩,
     ⟨2, none, none, .mv (.var 4) false, false, []⟩,
     ⟨3, none, none, .sliceVs 1 (.loc 1) (some (.loc 2)) none none, false, []⟩,
     ⟨4, none, none, .nilCheck (.loc 0), false, []⟩,
     ⟨5, (some 6), none, .store 1 (.loc 4) (.loc 3), false, []⟩] false) (
  .seq (
   .region 6 [⟨0, none, none, .mv (.var 3) false, false, []⟩,
     ⟨1, none, none, .mv (.var 4) false, false, []⟩,
     ⟨2, none, none, .sliceVs 1 (.loc 0) (some (.const (.int .i64 1))) (some (.loc 1)) none, false, []⟩,
     ⟨3, none, none, .cvStr (.loc 2), false, []⟩,
     ⟨4, (some 1), none, .asg (.loc 3), false, []⟩,
     ⟨5, (some 2), none, .asg (.const (.int .i64 0)), false, []⟩] false) (
  .ret))))))
def l91 : LFun := ⟨1, [(some 0), none, none, none, none, none], c91, [.var 1, .var 2], .trim⟩
/-- (*umpire/pap.rest).end -/
def vm92 : List Nat := [0, 2, 7]
def c92 : LCode :=
  .seq (
   .region 1 [⟨0, (some 1), none, .asg (.const (.int .i64 0)), false, []⟩] false) (
  .seq (
   .seq (
    .region 5 [⟨0, none, none, .mv (.var 0) true, false, []⟩,
      ⟨1, none, none, .nilCheck (.loc 0), false, []⟩,
      ⟨2, none, none, .load false 1 (.loc 1) true, false, []⟩,
      ⟨3, none, none, .len 1 (.loc 2), false, []⟩,
      ⟨4, (some 2), none, .bin .gtr (.loc 3) (.const (.int .i64 0)), false, []⟩] false) (
   .cond (.var 2) (
    .seq (
     .region 1 [⟨0, (some 1), none, .asg (.const (.int .i64 3)), false, []⟩] false) (
    .ret)) (
    .skip))) (
  .seq (
   .region 1 [⟨0, (some 1), none, .asg (.const (.int .i64 0)), false, []⟩] false) (
  .ret)))
def l92 : LFun := ⟨1, [(some 0), none, none], c92, [.var 1], .trim⟩
/-- umpire/terms.Login -/
def vm154 : List Nat := [0, 2, 4, 5, 6, 7, 8, 17]
def b154_0 : LCode :=
  .fence [0, 1, 2, 6, 7] (
   .seq (
    .region 1 [⟨0, (some 6), none, .bin .lss (.var 5) (.var 4), false, []⟩] false) (
   .seq (
    .cond (.var 6) (
     .skip) (
     .exit 0)) (
   .seq (
    .block 1 (
     .seq (
      .region 4 [⟨0, none, none, .idxAddrVs 2 (.var 3) (.var 5), false, []⟩,
        ⟨1, none, none, .load true 2 (.loc 0) false, false, []⟩,
        ⟨2, (some 2), none, .alloc 146 [(.int .i64 0), (.vs true .sh 0 [])], false, []⟩,
        ⟨3, (some 8), none, .store 2 (.var 2) (.loc 1), false, []⟩] false) (
     .seq (
      .region 7 [⟨0, none, none, .fieldAddr 0 1 false (.var 2), false, []⟩,
        ⟨1, none, none, .load false 1 (.loc 0) true, false, []⟩,
        ⟨2, none, none, .bin .eql (.loc 1) (.const (.int .i64 3)), false, []⟩,
        ⟨3, none, none, .mv (.loc 2) false, false, []⟩,
        ⟨4, none, (some ((.loc 3), true)), .load true 2 (.var 2) false, false, []⟩,
        ⟨5, none, (some ((.loc 3), true)), .callp 155 [(.loc 4)], false, []⟩,
        ⟨6, (some 7), none, .pick (.loc 3) (.loc 5) (.const (.bool false)), false, []⟩] false) (
     .cond (.var 7) (
      .seq (
       .region 4 [⟨0, none, none, .fieldAddr 1 1 false (.var 2), false, []⟩,
         ⟨1, none, none, .load false 1 (.loc 0) false, false, []⟩,
         ⟨2, none, none, .callp 156 [(.loc 1)], false, []⟩,
         ⟨3, (some 1), none, .asg (.loc 2), false, []⟩] false) (
      .ret)) (
      .skip))))) (
   .region 2 [⟨0, none, none, .bin .add (.var 5) (.const (.int .i64 1)), false, []⟩,
     ⟨1, (some 5), none, .mv (.loc 0) false, false, []⟩] false))))
def c154 : LCode :=
  .seq (
   .region 1 [⟨0, (some 1), none, .asg (.const (.int .i64 0)), false, []⟩] false) (
  .seq (
   .seq (
    .region 3 [⟨0, (some 3), none, .mv (.var 0) false, false, []⟩,
      ⟨1, (some 4), none, .len 1 (.var 3), false, []⟩,
      ⟨2, (some 5), none, .mv (.const (.int .i64 0)) false, false, []⟩] false) (
   .fence [0, 1, 2, 3, 4, 5, 6, 7] (
    .block 0 (
     .loop b154_0)))) (
  .seq (
   .region 1 [⟨0, (some 1), none, .asg (.const (.int .i64 0)), false, []⟩] false) (
  .ret)))
def l154 : LFun := ⟨1, [(some 0), none, none, none, none, none, none, none], c154, [.var 1], .pure⟩
/-- umpire/table.none -/
def vm98 : List Nat := [0, 1]
def c98 : LCode :=
  .seq (
   .region 2 [⟨0, (some 0), none, .alloc 176 [(.int .i64 0), (.vs true .sh 0 [])], false, []⟩,
     ⟨1, (some 1), none, .asg (.const (.bool false)), false, []⟩] false) (
  .seq (
   .region 3 [⟨0, none, none, .build [(.int .i64 0), (.vs true .sh 0 [])] [], false, []⟩,
     ⟨1, (some 2), none, .store 2 (.var 0) (.loc 0), false, []⟩,
     ⟨2, (some 1), none, .asg (.const (.bool false)), false, []⟩] false) (
  .ret))
def l98 : LFun := ⟨0, [none, none], c98, [.cell 0 2 true, .var 1], .pure⟩
/-- umpire/table.admin -/
def vm99 : List Nat := [0, 1, 4, 5, 6, 7, 13, 19]
def c99 : LCode :=
  .seq (
   .region 2 [⟨0, (some 2), none, .alloc 176 [(.int .i64 0), (.vs true .sh 0 [])], false, []⟩,
     ⟨1, (some 3), none, .asg (.const (.bool false)), false, []⟩] false) (
  .seq (
   .seq (
    .region 1 [⟨0, (some 4), none, .mv (.var 1) false, false, []⟩] false) (
   .block 0 (
    .seq (
     .region 2 [⟨0, none, none, .bin .eql (.var 4) (.const (.int .i64 1)), false, []⟩,
       ⟨1, (some 5), none, .asg (.loc 0), false, []⟩] false) (
    .cond (.var 5) (
     .seq (
      .region 6 [⟨0, none, none, .mv (.var 0) false, false, []⟩,
        ⟨1, none, none, .callp 112 [(.loc 0)], false, []⟩,
        ⟨2, none, none, .extract (.loc 1) 0, false, []⟩,
        ⟨3, none, none, .extract (.loc 1) 1, false, []⟩,
        ⟨4, (some 8), none, .store 2 (.var 2) (.loc 2), false, []⟩,
        ⟨5, (some 3), none, .asg (.loc 3), false, []⟩] false) (
     .ret)) (
     .seq (
      .region 2 [⟨0, none, none, .bin .eql (.var 4) (.const (.int .i64 2)), false, []⟩,
        ⟨1, (some 6), none, .asg (.loc 0), false, []⟩] false) (
     .cond (.var 6) (
      .seq (
       .region 6 [⟨0, none, none, .mv (.var 0) false, false, []⟩,
         ⟨1, none, none, .callp 113 [(.loc 0)], false, []⟩,
         ⟨2, none, none, .extract (.loc 1) 0, false, []⟩,
         ⟨3, none, none, .extract (.loc 1) 1, false, []⟩,
         ⟨4, (some 8), none, .store 2 (.var 2) (.loc 2), false, []⟩,
         ⟨5, (some 3), none, .asg (.loc 3), false, []⟩] false) (
      .ret)) (
      .seq (
       .region 2 [⟨0, none, none, .bin .eql (.var 4) (.const (.int .i64 3)), false, []⟩,
         ⟨1, (some 7), none, .asg (.loc 0), false, []⟩] false) (
      .cond (.var 7) (
       .seq (
        .region 6 [⟨0, none, none, .mv (.var 0) false, false, []⟩,
          ⟨1, none, none, .callp 114 [(.loc 0)], false, []⟩,
          ⟨2, none, none, .extract (.loc 1) 0, false, []⟩,
          ⟨3, none, none, .extract (.loc 1) 1, false, []⟩,
          ⟨4, (some 8), none, .store 2 (.var 2) (.loc 2), false, []⟩,
          ⟨5, (some 3), none, .asg (.loc 3), false, []⟩] false) (
       .ret)) (
       .skip))))))))) (
  .seq (
   .region 6 [⟨0, none, none, .mv (.var 0) false, false, []⟩,
     ⟨1, none, none, .callp 115 [(.loc 0)], false, []⟩,
     ⟨2, none, none, .extract (.loc 1) 0, false, []⟩,
     ⟨3, none, none, .extract (.loc 1) 1, false, []⟩,
     ⟨4, (some 8), none, .store 2 (.var 2) (.loc 2), false, []⟩,
     ⟨5, (some 3), none, .asg (.loc 3), false, []⟩] false) (
  .ret)))
def l99 : LFun := ⟨2, [(some 0), (some 1), none, none, none, none, none, none], c99, [.cell 2 2 true, .var 3], .pure⟩
/-- umpire/table.clock -/
def vm100 : List Nat := [0, 1, 4, 5, 6, 9, 19, 29, 35, 43]
def c100 : LCode :=
  .seq (
   .region 2 [⟨0, (some 2), none, .alloc 176 [(.int .i64 0), (.vs true .sh 0 [])], false, []⟩,
     ⟨1, (some 3), none, .asg (.const (.bool false)), false, []⟩] false) (
  .seq (
   .region 3 [⟨0, none, none, .mv (.var 1) true, false, []⟩,
     ⟨1, none, none, .bin .eql (.loc 0) (.const (.int .i64 6)), false, []⟩,
     ⟨2, (some 4), none, .asg (.loc 1), false, []⟩] false) (
  .seq (
   .block 0 (
    .seq (
     .region 7 [⟨0, none, none, .mv (.var 0) true, false, []⟩,
       ⟨1, none, none, .bin .lss (.loc 0) (.const (.int .i64 4)), false, []⟩,
       ⟨2, none, none, .mv (.loc 1) false, false, []⟩,
       ⟨3, none, (some ((.loc 2), false)), .mv (.var 0) true, false, []⟩,
       ⟨4, none, (some ((.loc 2), false)), .bin .gtr (.loc 3) (.const (.int .i64 8)), false, []⟩,
       ⟨5, none, none, .pick (.loc 2) (.const (.bool true)) (.loc 4), false, []⟩,
       ⟨6, (some 5), none, .asg (.loc 5), false, []⟩] false) (
    .cond (.var 5) (
     .seq (
      .region 5 [⟨0, none, none, .callp 98 [], false, []⟩,
        ⟨1, none, none, .extract (.loc 0) 0, false, []⟩,
        ⟨2, none, none, .extract (.loc 0) 1, false, []⟩,
        ⟨3, (some 10), none, .store 2 (.var 2) (.loc 1), false, []⟩,
        ⟨4, (some 3), none, .asg (.loc 2), false, []⟩] false) (
     .ret)) (
     .seq (
      .region 6 [⟨0, none, none, .mv (.var 4) false, false, []⟩,
        ⟨1, none, none, .mv (.loc 0) false, false, []⟩,
        ⟨2, none, (some ((.loc 1), true)), .mv (.var 0) true, false, []⟩,
        ⟨3, none, (some ((.loc 1), true)), .bin .eql (.loc 2) (.const (.int .i64 4)), false, []⟩,
        ⟨4, none, none, .pick (.loc 1) (.loc 3) (.const (.bool false)), false, []⟩,
        ⟨5, (some 6), none, .asg (.loc 4), false, []⟩] false) (
     .cond (.var 6) (
      .seq (
       .region 6 [⟨0, none, none, .mkslice (.int .i64 0) 1 1 [(0, (.const (.int .i64 4)))], false, []⟩,
         ⟨1, none, none, .callp 116 [(.const (.int .i64 2)), (.loc 0)], false, []⟩,
         ⟨2, none, none, .extract (.loc 1) 0, false, []⟩,
         ⟨3, none, none, .extract (.loc 1) 1, false, []⟩,
         ⟨4, (some 10), none, .store 2 (.var 2) (.loc 2), false, []⟩,
         ⟨5, (some 3), none, .asg (.loc 3), false, []⟩] false) (
      .ret)) (
      .seq (
       .region 2 [⟨0, none, none, .mv (.var 4) false, false, []⟩,
         ⟨1, (some 7), none, .asg (.loc 0), false, []⟩] false) (
      .cond (.var 7) (
       .seq (
        .region 6 [⟨0, none, none, .mkslice (.int .i64 0) 1 1 [(0, (.const (.int .i64 4)))], false, []⟩,
          ⟨1, none, none, .callp 116 [(.const (.int .i64 3)), (.loc 0)], false, []⟩,
          ⟨2, none, none, .extract (.loc 1) 0, false, []⟩,
          ⟨3, none, none, .extract (.loc 1) 1, false, []⟩,
          ⟨4, (some 10), none, .store 2 (.var 2) (.loc 2), false, []⟩,
          ⟨5, (some 3), none, .asg (.loc 3), false, []⟩] false) (
       .ret)) (
       .seq (
        .region 3 [⟨0, none, none, .mv (.var 0) true, false, []⟩,
          ⟨1, none, none, .bin .leq (.loc 0) (.const (.int .i64 5)), false, []⟩,
          ⟨2, (some 8), none, .asg (.loc 1), false, []⟩] false) (
       .cond (.var 8) (
        .seq (
         .region 7 [⟨0, none, none, .mv (.var 0) false, false, []⟩,
           ⟨1, none, none, .mkslice (.int .i64 0) 1 1 [(0, (.const (.int .i64 10)))], false, []⟩,
           ⟨2, none, none, .callp 116 [(.loc 0), (.loc 1)], false, []⟩,
           ⟨3, none, none, .extract (.loc 2) 0, false, []⟩,
           ⟨4, none, none, .extract (.loc 2) 1, false, []⟩,
           ⟨5, (some 10), none, .store 2 (.var 2) (.loc 3), false, []⟩,
           ⟨6, (some 3), none, .asg (.loc 4), false, []⟩] false) (
        .ret)) (
        .seq (
         .region 3 [⟨0, none, none, .mv (.var 0) true, false, []⟩,
           ⟨1, none, none, .bin .eql (.loc 0) (.const (.int .i64 8)), false, []⟩,
           ⟨2, (some 9), none, .asg (.loc 1), false, []⟩] false) (
        .cond (.var 9) (
         .seq (
          .region 7 [⟨0, none, none, .mv (.var 0) false, false, []⟩,
            ⟨1, none, none, .mkslice (.int .i64 0) 1 1 [(0, (.const (.int .i64 7)))], false, []⟩,
            ⟨2, none, none, .callp 116 [(.loc 0), (.loc 1)], false, []⟩,
            ⟨3, none, none, .extract (.loc 2) 0, false, []⟩,
            ⟨4, none, none, .extract (.loc 2) 1, false, []⟩,
            ⟨5, (some 10), none, .store 2 (.var 2) (.loc 3), false, []⟩,
            ⟨6, (some 3), none, .asg (.loc 4), false, []⟩] false) (
         .ret)) (
         .skip)))))))))))) (
  .seq (
   .region 6 [⟨0, none, none, .mkslice (.int .i64 0) 1 1 [(0, (.const (.int .i64 7)))], false, []⟩,
     ⟨1, none, none, .callp 116 [(.const (.int .i64 6)), (.loc 0)], false, []⟩,
     ⟨2, none, none, .extract (.loc 1) 0, false, []⟩,
     ⟨3, none, none, .extract (.loc 1) 1, false, []⟩,
     ⟨4, (some 10), none, .store 2 (.var 2) (.loc 2), false, []⟩,
     ⟨5, (some 3), none, .asg (.loc 3), false, []⟩] false) (
  .ret))))
def l100 : LFun := ⟨2, [(some 0), (some 1), none, none, none, none, none, none, none, none], c100, [.cell 2 2 true, .var 3], .pure⟩
/-- umpire/table.request -/
def vm101 : List Nat := [0, 1, 4, 5, 6, 7, 9, 10, 11, 18, 26, 33, 36, 48]
def c101 : LCode :=
  .seq (
   .region 2 [⟨0, (some 2), none, .alloc 176 [(.int .i64 0), (.vs true .sh 0 [])], false, []⟩,
     ⟨1, (some 3), none, .asg (.const (.bool false)), false, []⟩] false) (
  .seq (
   .region 2 [⟨0, (some 4), none, .asg (.const (.int .i64 8)), false, []⟩,
     ⟨1, (some 5), none, .asg (.const (.int .i64 8)), false, []⟩] false) (
  .seq (
   .seq (
    .region 2 [⟨0, none, none, .mv (.var 1) true, false, []⟩,
      ⟨1, (some 6), none, .bin .eql (.loc 0) (.const (.int .i64 8)), false, []⟩] false) (
   .cond (.var 6) (
    .region 2 [⟨0, (some 4), none, .asg (.const (.int .i64 9)), false, []⟩,
      ⟨1, (some 5), none, .asg (.const (.int .i64 6)), false, []⟩] false) (
    .skip))) (
  .seq (
   .seq (
    .region 1 [⟨0, (some 7), none, .mv (.var 0) false, false, []⟩] false) (
   .block 0 (
    .seq (
     .region 2 [⟨0, none, none, .bin .eql (.var 7) (.const (.int .i64 2)), false, []⟩,
       ⟨1, (some 8), none, .asg (.loc 0), false, []⟩] false) (
    .cond (.var 8) (
     .seq (
      .region 7 [⟨0, none, none, .mv (.var 0) false, false, []⟩,
        ⟨1, none, none, .mkslice (.int .i64 0) 1 1 [(0, (.const (.int .i64 11)))], false, []⟩,
        ⟨2, none, none, .callp 116 [(.loc 0), (.loc 1)], false, []⟩,
        ⟨3, none, none, .extract (.loc 2) 0, false, []⟩,
        ⟨4, none, none, .extract (.loc 2) 1, false, []⟩,
        ⟨5, (some 14), none, .store 2 (.var 2) (.loc 3), false, []⟩,
        ⟨6, (some 3), none, .asg (.loc 4), false, []⟩] false) (
     .ret)) (
     .seq (
      .region 2 [⟨0, none, none, .bin .eql (.var 7) (.const (.int .i64 3)), false, []⟩,
        ⟨1, (some 9), none, .asg (.loc 0), false, []⟩] false) (
     .cond (.var 9) (
      .seq (
       .region 8 [⟨0, none, none, .mv (.var 5) false, false, []⟩,
         ⟨1, none, none, .mv (.var 4) false, false, []⟩,
         ⟨2, none, none, .mkslice (.int .i64 0) 1 3 [(0, (.const (.int .i64 5))), (1, (.const (.int .i64 7))), (2, (.loc 1))], false, []⟩,
         ⟨3, none, none, .callp 116 [(.loc 0), (.loc 2)], false, []⟩,
         ⟨4, none, none, .extract (.loc 3) 0, false, []⟩,
         ⟨5, none, none, .extract (.loc 3) 1, false, []⟩,
         ⟨6, (some 14), none, .store 2 (.var 2) (.loc 4), false, []⟩,
         ⟨7, (some 3), none, .asg (.loc 5), false, []⟩] false) (
      .ret)) (
      .seq (
       .seq (
        .region 2 [⟨0, none, none, .bin .eql (.var 7) (.const (.int .i64 4)), false, []⟩,
          ⟨1, (some 10), none, .asg (.loc 0), false, []⟩] false) (
       .cond (.var 10) (
        .skip) (
        .region 2 [⟨0, none, none, .bin .eql (.var 7) (.const (.int .i64 5)), false, []⟩,
          ⟨1, (some 10), none, .asg (.loc 0), false, []⟩] false))) (
      .cond (.var 10) (
       .seq (
        .region 6 [⟨0, none, none, .mv (.var 0) false, false, []⟩,
          ⟨1, none, none, .callp 116 [(.loc 0), (.const (.vs true .sh 0 []))], false, []⟩,
          ⟨2, none, none, .extract (.loc 1) 0, false, []⟩,
          ⟨3, none, none, .extract (.loc 1) 1, false, []⟩,
          ⟨4, (some 14), none, .store 2 (.var 2) (.loc 2), false, []⟩,
          ⟨5, (some 3), none, .asg (.loc 3), false, []⟩] false) (
       .ret)) (
       .seq (
        .region 2 [⟨0, none, none, .bin .eql (.var 7) (.const (.int .i64 7)), false, []⟩,
          ⟨1, (some 11), none, .asg (.loc 0), false, []⟩] false) (
       .cond (.var 11) (
        .seq (
         .seq (
          .region 2 [⟨0, none, none, .mv (.var 1) true, false, []⟩,
            ⟨1, (some 12), none, .bin .eql (.loc 0) (.const (.int .i64 7)), false, []⟩] false) (
         .cond (.var 12) (
          .seq (
           .region 7 [⟨0, none, none, .mv (.var 4) false, false, []⟩,
             ⟨1, none, none, .mkslice (.int .i64 0) 1 2 [(0, (.loc 0)), (1, (.const (.int .i64 1)))], false, []⟩,
             ⟨2, none, none, .callp 116 [(.const (.int .i64 9)), (.loc 1)], false, []⟩,
             ⟨3, none, none, .extract (.loc 2) 0, false, []⟩,
             ⟨4, none, none, .extract (.loc 2) 1, false, []⟩,
             ⟨5, (some 14), none, .store 2 (.var 2) (.loc 3), false, []⟩,
             ⟨6, (some 3), none, .asg (.loc 4), false, []⟩] false) (
          .ret)) (
          .skip))) (
        .seq (
         .region 8 [⟨0, none, none, .mv (.var 0) false, false, []⟩,
           ⟨1, none, none, .mv (.var 4) false, false, []⟩,
           ⟨2, none, none, .mkslice (.int .i64 0) 1 1 [(0, (.loc 1))], false, []⟩,
           ⟨3, none, none, .callp 116 [(.loc 0), (.loc 2)], false, []⟩,
           ⟨4, none, none, .extract (.loc 3) 0, false, []⟩,
           ⟨5, none, none, .extract (.loc 3) 1, false, []⟩,
           ⟨6, (some 14), none, .store 2 (.var 2) (.loc 4), false, []⟩,
           ⟨7, (some 3), none, .asg (.loc 5), false, []⟩] false) (
        .ret))) (
        .seq (
         .region 2 [⟨0, none, none, .bin .eql (.var 7) (.const (.int .i64 9)), false, []⟩,
           ⟨1, (some 13), none, .asg (.loc 0), false, []⟩] false) (
        .cond (.var 13) (
         .seq (
          .region 8 [⟨0, none, none, .mv (.var 5) false, false, []⟩,
            ⟨1, none, none, .mv (.var 4) false, false, []⟩,
            ⟨2, none, none, .mkslice (.int .i64 0) 1 3 [(0, (.const (.int .i64 2))), (1, (.const (.int .i64 7))), (2, (.loc 1))], false, []⟩,
            ⟨3, none, none, .callp 116 [(.loc 0), (.loc 2)], false, []⟩,
            ⟨4, none, none, .extract (.loc 3) 0, false, []⟩,
            ⟨5, none, none, .extract (.loc 3) 1, false, []⟩,
            ⟨6, (some 14), none, .store 2 (.var 2) (.loc 4), false, []⟩,
            ⟨7, (some 3), none, .asg (.loc 5), false, []⟩] false) (
         .ret)) (
         .skip))))))))))))) (
  .seq (
   .region 8 [⟨0, none, none, .mv (.var 5) false, false, []⟩,
     ⟨1, none, none, .mv (.var 4) false, false, []⟩,
     ⟨2, none, none, .mkslice (.int .i64 0) 1 1 [(0, (.loc 1))], false, []⟩,
     ⟨3, none, none, .callp 116 [(.loc 0), (.loc 2)], false, []⟩,
     ⟨4, none, none, .extract (.loc 3) 0, false, []⟩,
     ⟨5, none, none, .extract (.loc 3) 1, false, []⟩,
     ⟨6, (some 14), none, .store 2 (.var 2) (.loc 4), false, []⟩,
     ⟨7, (some 3), none, .asg (.loc 5), false, []⟩] false) (
  .ret)))))
def l101 : LFun := ⟨2, [(some 0), (some 1), none, none, none, none, none, none, none, none, none, none, none, none], c101, [.cell 2 2 true, .var 3], .pure⟩
/-- umpire/table.answer -/
def vm102 : List Nat := [0, 1, 4, 5, 6, 9, 17, 24, 31, 38, 48]
def c102 : LCode :=
  .seq (
   .region 2 [⟨0, (some 2), none, .alloc 176 [(.int .i64 0), (.vs true .sh 0 [])], false, []⟩,
     ⟨1, (some 3), none, .asg (.const (.bool false)), false, []⟩] false) (
  .seq (
   .region 3 [⟨0, none, none, .mv (.var 1) true, false, []⟩,
     ⟨1, none, none, .bin .eql (.loc 0) (.const (.int .i64 9)), false, []⟩,
     ⟨2, (some 4), none, .asg (.loc 1), false, []⟩] false) (
  .seq (
   .block 0 (
    .seq (
     .region 3 [⟨0, none, none, .mv (.var 0) true, false, []⟩,
       ⟨1, none, none, .bin .leq (.loc 0) (.const (.int .i64 3)), false, []⟩,
       ⟨2, (some 5), none, .asg (.loc 1), false, []⟩] false) (
    .cond (.var 5) (
     .seq (
      .region 7 [⟨0, none, none, .mv (.var 0) false, false, []⟩,
        ⟨1, none, none, .mkslice (.int .i64 0) 1 1 [(0, (.const (.int .i64 11)))], false, []⟩,
        ⟨2, none, none, .callp 116 [(.loc 0), (.loc 1)], false, []⟩,
        ⟨3, none, none, .extract (.loc 2) 0, false, []⟩,
        ⟨4, none, none, .extract (.loc 2) 1, false, []⟩,
        ⟨5, (some 11), none, .store 2 (.var 2) (.loc 3), false, []⟩,
        ⟨6, (some 3), none, .asg (.loc 4), false, []⟩] false) (
     .ret)) (
     .seq (
      .region 3 [⟨0, none, none, .mv (.var 0) true, false, []⟩,
        ⟨1, none, none, .bin .leq (.loc 0) (.const (.int .i64 5)), false, []⟩,
        ⟨2, (some 6), none, .asg (.loc 1), false, []⟩] false) (
     .cond (.var 6) (
      .seq (
       .region 6 [⟨0, none, none, .mv (.var 0) false, false, []⟩,
         ⟨1, none, none, .callp 116 [(.loc 0), (.const (.vs true .sh 0 []))], false, []⟩,
         ⟨2, none, none, .extract (.loc 1) 0, false, []⟩,
         ⟨3, none, none, .extract (.loc 1) 1, false, []⟩,
         ⟨4, (some 11), none, .store 2 (.var 2) (.loc 2), false, []⟩,
         ⟨5, (some 3), none, .asg (.loc 3), false, []⟩] false) (
      .ret)) (
      .seq (
       .region 3 [⟨0, none, none, .mv (.var 0) true, false, []⟩,
         ⟨1, none, none, .bin .eql (.loc 0) (.const (.int .i64 7)), false, []⟩,
         ⟨2, (some 7), none, .asg (.loc 1), false, []⟩] false) (
      .cond (.var 7) (
       .seq (
        .region 6 [⟨0, none, none, .mkslice (.int .i64 0) 1 1 [(0, (.const (.int .i64 7)))], false, []⟩,
          ⟨1, none, none, .callp 116 [(.const (.int .i64 6)), (.loc 0)], false, []⟩,
          ⟨2, none, none, .extract (.loc 1) 0, false, []⟩,
          ⟨3, none, none, .extract (.loc 1) 1, false, []⟩,
          ⟨4, (some 11), none, .store 2 (.var 2) (.loc 2), false, []⟩,
          ⟨5, (some 3), none, .asg (.loc 3), false, []⟩] false) (
       .ret)) (
       .seq (
        .region 3 [⟨0, none, none, .mv (.var 0) true, false, []⟩,
          ⟨1, none, none, .bin .eql (.loc 0) (.const (.int .i64 9)), false, []⟩,
          ⟨2, (some 8), none, .asg (.loc 1), false, []⟩] false) (
       .cond (.var 8) (
        .seq (
         .region 6 [⟨0, none, none, .mkslice (.int .i64 0) 1 2 [(0, (.const (.int .i64 2))), (1, (.const (.int .i64 7)))], false, []⟩,
           ⟨1, none, none, .callp 116 [(.const (.int .i64 6)), (.loc 0)], false, []⟩,
           ⟨2, none, none, .extract (.loc 1) 0, false, []⟩,
           ⟨3, none, none, .extract (.loc 1) 1, false, []⟩,
           ⟨4, (some 11), none, .store 2 (.var 2) (.loc 2), false, []⟩,
           ⟨5, (some 3), none, .asg (.loc 3), false, []⟩] false) (
        .ret)) (
        .seq (
         .region 6 [⟨0, none, none, .mv (.var 0) true, false, []⟩,
           ⟨1, none, none, .bin .eql (.loc 0) (.const (.int .i64 6)), false, []⟩,
           ⟨2, none, none, .mv (.loc 1) false, false, []⟩,
           ⟨3, none, (some ((.loc 2), true)), .mv (.var 4) false, false, []⟩,
           ⟨4, none, none, .pick (.loc 2) (.loc 3) (.const (.bool false)), false, []⟩,
           ⟨5, (some 9), none, .asg (.loc 4), false, []⟩] false) (
        .cond (.var 9) (
         .seq (
          .region 6 [⟨0, none, none, .mkslice (.int .i64 0) 1 1 [(0, (.const (.int .i64 5)))], false, []⟩,
            ⟨1, none, none, .callp 116 [(.const (.int .i64 7)), (.loc 0)], false, []⟩,
            ⟨2, none, none, .extract (.loc 1) 0, false, []⟩,
            ⟨3, none, none, .extract (.loc 1) 1, false, []⟩,
            ⟨4, (some 11), none, .store 2 (.var 2) (.loc 2), false, []⟩,
            ⟨5, (some 3), none, .asg (.loc 3), false, []⟩] false) (
         .ret)) (
         .seq (
          .region 2 [⟨0, none, none, .mv (.var 4) false, false, []⟩,
            ⟨1, (some 10), none, .asg (.loc 0), false, []⟩] false) (
         .cond (.var 10) (
          .seq (
           .region 6 [⟨0, none, none, .mkslice (.int .i64 0) 1 2 [(0, (.const (.int .i64 5))), (1, (.const (.int .i64 1)))], false, []⟩,
             ⟨1, none, none, .callp 116 [(.const (.int .i64 9)), (.loc 0)], false, []⟩,
             ⟨2, none, none, .extract (.loc 1) 0, false, []⟩,
             ⟨3, none, none, .extract (.loc 1) 1, false, []⟩,
             ⟨4, (some 11), none, .store 2 (.var 2) (.loc 2), false, []⟩,
             ⟨5, (some 3), none, .asg (.loc 3), false, []⟩] false) (
          .ret)) (
          .skip)))))))))))))) (
  .seq (
   .region 7 [⟨0, none, none, .mv (.var 0) false, false, []⟩,
     ⟨1, none, none, .mkslice (.int .i64 0) 1 2 [(0, (.const (.int .i64 5))), (1, (.const (.int .i64 7)))], false, []⟩,
     ⟨2, none, none, .callp 116 [(.loc 0), (.loc 1)], false, []⟩,
     ⟨3, none, none, .extract (.loc 2) 0, false, []⟩,
     ⟨4, none, none, .extract (.loc 2) 1, false, []⟩,
     ⟨5, (some 11), none, .store 2 (.var 2) (.loc 3), false, []⟩,
     ⟨6, (some 3), none, .asg (.loc 4), false, []⟩] false) (
  .ret))))
def l102 : LFun := ⟨2, [(some 0), (some 1), none, none, none, none, none, none, none, none, none], c102, [.cell 2 2 true, .var 3], .pure⟩
/-- umpire/table.end -/
def vm103 : List Nat := [0, 1, 4, 5, 6, 17, 21, 27, 34, 41, 47]
def c103 : LCode :=
  .seq (
   .region 2 [⟨0, (some 2), none, .alloc 176 [(.int .i64 0), (.vs true .sh 0 [])], false, []⟩,
     ⟨1, (some 3), none, .asg (.const (.bool false)), false, []⟩] false) (
  .seq (
   .block 0 (
    .seq (
     .region 7 [⟨0, none, none, .mv (.var 1) true, false, []⟩,
       ⟨1, none, none, .bin .eql (.loc 0) (.const (.int .i64 11)), false, []⟩,
       ⟨2, none, none, .mv (.loc 1) false, false, []⟩,
       ⟨3, none, (some ((.loc 2), true)), .mv (.var 0) true, false, []⟩,
       ⟨4, none, (some ((.loc 2), true)), .bin .eql (.loc 3) (.const (.int .i64 9)), false, []⟩,
       ⟨5, none, none, .pick (.loc 2) (.loc 4) (.const (.bool false)), false, []⟩,
       ⟨6, (some 4), none, .asg (.loc 5), false, []⟩] false) (
    .cond (.var 4) (
     .seq (
      .region 6 [⟨0, none, none, .mkslice (.int .i64 0) 1 3 [(0, (.const (.int .i64 2))), (1, (.const (.int .i64 6))), (2, (.const (.int .i64 11)))], false, []⟩,
        ⟨1, none, none, .callp 116 [(.const (.int .i64 5)), (.loc 0)], false, []⟩,
        ⟨2, none, none, .extract (.loc 1) 0, false, []⟩,
        ⟨3, none, none, .extract (.loc 1) 1, false, []⟩,
        ⟨4, (some 11), none, .store 2 (.var 2) (.loc 2), false, []⟩,
        ⟨5, (some 3), none, .asg (.loc 3), false, []⟩] false) (
     .ret)) (
     .seq (
      .region 3 [⟨0, none, none, .mv (.var 1) true, false, []⟩,
        ⟨1, none, none, .bin .eql (.loc 0) (.const (.int .i64 11)), false, []⟩,
        ⟨2, (some 5), none, .asg (.loc 1), false, []⟩] false) (
     .cond (.var 5) (
      .seq (
       .seq (
        .region 2 [⟨0, none, none, .mv (.var 0) true, false, []⟩,
          ⟨1, (some 6), none, .bin .geq (.loc 0) (.const (.int .i64 6)), false, []⟩] false) (
       .cond (.var 6) (
        .region 1 [⟨0, (some 0), none, .asg (.const (.int .i64 6)), false, []⟩] false) (
        .skip))) (
      .seq (
       .region 7 [⟨0, none, none, .mv (.var 0) false, false, []⟩,
         ⟨1, none, none, .mkslice (.int .i64 0) 1 1 [(0, (.const (.int .i64 11)))], false, []⟩,
         ⟨2, none, none, .callp 116 [(.loc 0), (.loc 1)], false, []⟩,
         ⟨3, none, none, .extract (.loc 2) 0, false, []⟩,
         ⟨4, none, none, .extract (.loc 2) 1, false, []⟩,
         ⟨5, (some 11), none, .store 2 (.var 2) (.loc 3), false, []⟩,
         ⟨6, (some 3), none, .asg (.loc 4), false, []⟩] false) (
      .ret))) (
      .seq (
       .region 3 [⟨0, none, none, .mv (.var 0) true, false, []⟩,
         ⟨1, none, none, .bin .eql (.loc 0) (.const (.int .i64 4)), false, []⟩,
         ⟨2, (some 7), none, .asg (.loc 1), false, []⟩] false) (
      .cond (.var 7) (
       .seq (
        .region 6 [⟨0, none, none, .mkslice (.int .i64 0) 1 1 [(0, (.const (.int .i64 4)))], false, []⟩,
          ⟨1, none, none, .callp 116 [(.const (.int .i64 2)), (.loc 0)], false, []⟩,
          ⟨2, none, none, .extract (.loc 1) 0, false, []⟩,
          ⟨3, none, none, .extract (.loc 1) 1, false, []⟩,
          ⟨4, (some 11), none, .store 2 (.var 2) (.loc 2), false, []⟩,
          ⟨5, (some 3), none, .asg (.loc 3), false, []⟩] false) (
       .ret)) (
       .seq (
        .region 3 [⟨0, none, none, .mv (.var 0) true, false, []⟩,
          ⟨1, none, none, .bin .eql (.loc 0) (.const (.int .i64 5)), false, []⟩,
          ⟨2, (some 8), none, .asg (.loc 1), false, []⟩] false) (
       .cond (.var 8) (
        .seq (
         .region 6 [⟨0, none, none, .mkslice (.int .i64 0) 1 1 [(0, (.const (.int .i64 4)))], false, []⟩,
           ⟨1, none, none, .callp 116 [(.const (.int .i64 3)), (.loc 0)], false, []⟩,
           ⟨2, none, none, .extract (.loc 1) 0, false, []⟩,
           ⟨3, none, none, .extract (.loc 1) 1, false, []⟩,
           ⟨4, (some 11), none, .store 2 (.var 2) (.loc 2), false, []⟩,
           ⟨5, (some 3), none, .asg (.loc 3), false, []⟩] false) (
        .ret)) (
        .seq (
         .region 3 [⟨0, none, none, .mv (.var 0) true, false, []⟩,
           ⟨1, none, none, .bin .eql (.loc 0) (.const (.int .i64 7)), false, []⟩,
           ⟨2, (some 9), none, .asg (.loc 1), false, []⟩] false) (
        .cond (.var 9) (
         .seq (
          .region 5 [⟨0, none, none, .callp 116 [(.const (.int .i64 6)), (.const (.vs true .sh 0 []))], false, []⟩,
            ⟨1, none, none, .extract (.loc 0) 0, false, []⟩,
            ⟨2, none, none, .extract (.loc 0) 1, false, []⟩,
            ⟨3, (some 11), none, .store 2 (.var 2) (.loc 1), false, []⟩,
            ⟨4, (some 3), none, .asg (.loc 2), false, []⟩] false) (
         .ret)) (
         .seq (
          .region 3 [⟨0, none, none, .mv (.var 0) true, false, []⟩,
            ⟨1, none, none, .bin .eql (.loc 0) (.const (.int .i64 9)), false, []⟩,
            ⟨2, (some 10), none, .asg (.loc 1), false, []⟩] false) (
         .cond (.var 10) (
          .seq (
           .region 6 [⟨0, none, none, .mkslice (.int .i64 0) 1 2 [(0, (.const (.int .i64 2))), (1, (.const (.int .i64 7)))], false, []⟩,
             ⟨1, none, none, .callp 116 [(.const (.int .i64 6)), (.loc 0)], false, []⟩,
             ⟨2, none, none, .extract (.loc 1) 0, false, []⟩,
             ⟨3, none, none, .extract (.loc 1) 1, false, []⟩,
             ⟨4, (some 11), none, .store 2 (.var 2) (.loc 2), false, []⟩,
             ⟨5, (some 3), none, .asg (.loc 3), false, []⟩] false) (
          .ret)) (
          .skip)))))))))))))) (
  .seq (
   .region 6 [⟨0, none, none, .mv (.var 0) false, false, []⟩,
     ⟨1, none, none, .callp 116 [(.loc 0), (.const (.vs true .sh 0 []))], false, []⟩,
     ⟨2, none, none, .extract (.loc 1) 0, false, []⟩,
     ⟨3, none, none, .extract (.loc 1) 1, false, []⟩,
     ⟨4, (some 11), none, .store 2 (.var 2) (.loc 2), false, []⟩,
     ⟨5, (some 3), none, .asg (.loc 3), false, []⟩] false) (
  .ret)))
def l103 : LFun := ⟨2, [(some 0), (some 1), none, none, none, none, none, none, none, none, none], c103, [.cell 2 2 true, .var 3], .pure⟩
/-- umpire/table.odd -/
def vm104 : List Nat := [0, 1, 4, 5, 6, 14, 24, 36, 43, 50]
def c104 : LCode :=
  .seq (
   .region 2 [⟨0, (some 2), none, .alloc 176 [(.int .i64 0), (.vs true .sh 0 [])], false, []⟩,
     ⟨1, (some 3), none, .asg (.const (.bool false)), false, []⟩] false) (
  .seq (
   .block 0 (
    .seq (
     .region 3 [⟨0, none, none, .mv (.var 1) true, false, []⟩,
       ⟨1, none, none, .bin .eql (.loc 0) (.const (.int .i64 13)), false, []⟩,
       ⟨2, (some 4), none, .asg (.loc 1), false, []⟩] false) (
    .cond (.var 4) (
     .seq (
      .region 7 [⟨0, none, none, .mv (.var 0) false, false, []⟩,
        ⟨1, none, none, .mkslice (.int .i64 0) 1 1 [(0, (.const (.int .i64 12)))], false, []⟩,
        ⟨2, none, none, .callp 116 [(.loc 0), (.loc 1)], false, []⟩,
        ⟨3, none, none, .extract (.loc 2) 0, false, []⟩,
        ⟨4, none, none, .extract (.loc 2) 1, false, []⟩,
        ⟨5, (some 10), none, .store 2 (.var 2) (.loc 3), false, []⟩,
        ⟨6, (some 3), none, .asg (.loc 4), false, []⟩] false) (
     .ret)) (
     .seq (
      .region 7 [⟨0, none, none, .mv (.var 1) true, false, []⟩,
        ⟨1, none, none, .bin .eql (.loc 0) (.const (.int .i64 14)), false, []⟩,
        ⟨2, none, none, .mv (.loc 1) false, false, []⟩,
        ⟨3, none, (some ((.loc 2), true)), .mv (.var 0) true, false, []⟩,
        ⟨4, none, (some ((.loc 2), true)), .bin .eql (.loc 3) (.const (.int .i64 7)), false, []⟩,
        ⟨5, none, none, .pick (.loc 2) (.loc 4) (.const (.bool false)), false, []⟩,
        ⟨6, (some 5), none, .asg (.loc 5), false, []⟩] false) (
     .cond (.var 5) (
      .seq (
       .region 5 [⟨0, none, none, .callp 116 [(.const (.int .i64 6)), (.const (.vs true .sh 0 []))], false, []⟩,
         ⟨1, none, none, .extract (.loc 0) 0, false, []⟩,
         ⟨2, none, none, .extract (.loc 0) 1, false, []⟩,
         ⟨3, (some 10), none, .store 2 (.var 2) (.loc 1), false, []⟩,
         ⟨4, (some 3), none, .asg (.loc 2), false, []⟩] false) (
      .ret)) (
      .seq (
       .region 7 [⟨0, none, none, .mv (.var 1) true, false, []⟩,
         ⟨1, none, none, .bin .eql (.loc 0) (.const (.int .i64 16)), false, []⟩,
         ⟨2, none, none, .mv (.loc 1) false, false, []⟩,
         ⟨3, none, (some ((.loc 2), true)), .mv (.var 0) true, false, []⟩,
         ⟨4, none, (some ((.loc 2), true)), .bin .eql (.loc 3) (.const (.int .i64 9)), false, []⟩,
         ⟨5, none, none, .pick (.loc 2) (.loc 4) (.const (.bool false)), false, []⟩,
         ⟨6, (some 6), none, .asg (.loc 5), false, []⟩] false) (
      .cond (.var 6) (
       .seq (
        .region 7 [⟨0, none, none, .mv (.var 0) false, false, []⟩,
          ⟨1, none, none, .mkslice (.int .i64 0) 1 1 [(0, (.const (.int .i64 13)))], false, []⟩,
          ⟨2, none, none, .callp 116 [(.loc 0), (.loc 1)], false, []⟩,
          ⟨3, none, none, .extract (.loc 2) 0, false, []⟩,
          ⟨4, none, none, .extract (.loc 2) 1, false, []⟩,
          ⟨5, (some 10), none, .store 2 (.var 2) (.loc 3), false, []⟩,
          ⟨6, (some 3), none, .asg (.loc 4), false, []⟩] false) (
       .ret)) (
       .seq (
        .region 3 [⟨0, none, none, .mv (.var 1) true, false, []⟩,
          ⟨1, none, none, .bin .neq (.loc 0) (.const (.int .i64 15)), false, []⟩,
          ⟨2, (some 7), none, .asg (.loc 1), false, []⟩] false) (
       .cond (.var 7) (
        .seq (
         .region 6 [⟨0, none, none, .mv (.var 0) false, false, []⟩,
           ⟨1, none, none, .callp 116 [(.loc 0), (.const (.vs true .sh 0 []))], false, []⟩,
           ⟨2, none, none, .extract (.loc 1) 0, false, []⟩,
           ⟨3, none, none, .extract (.loc 1) 1, false, []⟩,
           ⟨4, (some 10), none, .store 2 (.var 2) (.loc 2), false, []⟩,
           ⟨5, (some 3), none, .asg (.loc 3), false, []⟩] false) (
        .ret)) (
        .seq (
         .region 3 [⟨0, none, none, .mv (.var 0) true, false, []⟩,
           ⟨1, none, none, .bin .eql (.loc 0) (.const (.int .i64 9)), false, []⟩,
           ⟨2, (some 8), none, .asg (.loc 1), false, []⟩] false) (
        .cond (.var 8) (
         .seq (
          .region 6 [⟨0, none, none, .mkslice (.int .i64 0) 1 3 [(0, (.const (.int .i64 2))), (1, (.const (.int .i64 5))), (2, (.const (.int .i64 10)))], false, []⟩,
            ⟨1, none, none, .callp 116 [(.const (.int .i64 5)), (.loc 0)], false, []⟩,
            ⟨2, none, none, .extract (.loc 1) 0, false, []⟩,
            ⟨3, none, none, .extract (.loc 1) 1, false, []⟩,
            ⟨4, (some 10), none, .store 2 (.var 2) (.loc 2), false, []⟩,
            ⟨5, (some 3), none, .asg (.loc 3), false, []⟩] false) (
         .ret)) (
         .seq (
          .region 7 [⟨0, none, none, .mv (.var 0) true, false, []⟩,
            ⟨1, none, none, .bin .eql (.loc 0) (.const (.int .i64 2)), false, []⟩,
            ⟨2, none, none, .mv (.loc 1) false, false, []⟩,
            ⟨3, none, (some ((.loc 2), false)), .mv (.var 0) true, false, []⟩,
            ⟨4, none, (some ((.loc 2), false)), .bin .eql (.loc 3) (.const (.int .i64 4)), false, []⟩,
            ⟨5, none, none, .pick (.loc 2) (.const (.bool true)) (.loc 4), false, []⟩,
            ⟨6, (some 9), none, .asg (.loc 5), false, []⟩] false) (
         .cond (.var 9) (
          .seq (
           .region 6 [⟨0, none, none, .mkslice (.int .i64 0) 1 1 [(0, (.const (.int .i64 4)))], false, []⟩,
             ⟨1, none, none, .callp 116 [(.const (.int .i64 2)), (.loc 0)], false, []⟩,
             ⟨2, none, none, .extract (.loc 1) 0, false, []⟩,
             ⟨3, none, none, .extract (.loc 1) 1, false, []⟩,
             ⟨4, (some 10), none, .store 2 (.var 2) (.loc 2), false, []⟩,
             ⟨5, (some 3), none, .asg (.loc 3), false, []⟩] false) (
          .ret)) (
          .skip)))))))))))))) (
  .seq (
   .region 6 [⟨0, none, none, .mkslice (.int .i64 0) 1 1 [(0, (.const (.int .i64 4)))], false, []⟩,
     ⟨1, none, none, .callp 116 [(.const (.int .i64 3)), (.loc 0)], false, []⟩,
     ⟨2, none, none, .extract (.loc 1) 0, false, []⟩,
     ⟨3, none, none, .extract (.loc 1) 1, false, []⟩,
     ⟨4, (some 10), none, .store 2 (.var 2) (.loc 2), false, []⟩,
     ⟨5, (some 3), none, .asg (.loc 3), false, []⟩] false) (
  .ret)))
def l104 : LFun := ⟨2, [(some 0), (some 1), none, none, none, none, none, none, none, none], c104, [.cell 2 2 true, .var 3], .pure⟩
/-- umpire/option.Same -/
def vm76 : List Nat := [0, 1, 4]
def c76 : LCode :=
  .seq (
   .region 1 [⟨0, (some 2), none, .asg (.const (.bool false)), false, []⟩] false) (
  .seq (
   .region 4 [⟨0, none, none, .mv (.var 0) false, false, []⟩,
     ⟨1, none, none, .mv (.var 1) false, false, []⟩,
     ⟨2, none, none, .call 88 [(.loc 0), (.loc 1), (.const (.func 86 []))], false, []⟩,
     ⟨3, (some 2), none, .asg (.loc 2), false, []⟩] false) (
  .ret))
def l76 : LFun := ⟨2, [(some 0), (some 1), none], c76, [.var 2], .pure⟩
/-- slices.Concat[[]byte,byte] -/
def vm96 : List Nat := [0, 2, 3, 5, 6, 8, 9, 10, 11, 12, 20, 25, 26, 27, 28]
def b96_0 : LCode :=
  .fence [1, 3, 4, 5, 9, 10, 11, 12, 13, 14] (
   .seq (
    .region 1 [⟨0, (some 9), none, .bin .lss (.var 8) (.var 7), false, []⟩] false) (
   .seq (
    .cond (.var 9) (
     .skip) (
     .exit 0)) (
   .seq (
    .block 1 (
     .seq (
      .region 3 [⟨0, none, none, .idxAddrVs 1 (.var 6) (.var 8), false, []⟩,
        ⟨1, none, none, .load false 1 (.loc 0) false, false, []⟩,
        ⟨2, (some 3), none, .asg (.loc 1), false, []⟩] false) (
     .seq (
      .region 5 [⟨0, none, none, .mv (.var 2) true, false, []⟩,
        ⟨1, none, none, .mv (.var 3) true, false, []⟩,
        ⟨2, none, none, .len 1 (.loc 1), false, []⟩,
        ⟨3, none, none, .bin .add (.loc 0) (.loc 2), false, []⟩,
        ⟨4, (some 2), none, .asg (.loc 3), false, []⟩] false) (
     .seq (
      .region 2 [⟨0, none, none, .mv (.var 2) true, false, []⟩,
        ⟨1, (some 10), none, .bin .lss (.loc 0) (.const (.int .i64 0)), false, []⟩] false) (
     .cond (.var 10) (
      .region 2 [⟨0, none, none, .mkIface 9 (.const (.str [108, 101, 110, 32, 111, 117, 116, 32, 111, 102, 32, 114, 97, 110, 103, 101])), false, []⟩,
        ⟨1, (some 15), none, .fail, false, []⟩] false) (
      .skip)))))) (
   .region 2 [⟨0, none, none, .bin .add (.var 8) (.const (.int .i64 1)), false, []⟩,
     ⟨1, (some 8), none, .mv (.loc 0) false, false, []⟩] false))))
def b96_1 : LCode :=
  .fence [0, 1, 2, 3, 5, 6, 7, 8, 9, 10, 14] (
   .seq (
    .region 1 [⟨0, (some 14), none, .bin .lss (.var 13) (.var 12), false, []⟩] false) (
   .seq (
    .cond (.var 14) (
     .skip) (
     .exit 2)) (
   .seq (
    .block 3 (
     .seq (
      .region 3 [⟨0, none, none, .idxAddrVs 1 (.var 11) (.var 13), false, []⟩,
        ⟨1, none, none, .load false 1 (.loc 0) false, false, []⟩,
        ⟨2, (some 5), none, .asg (.loc 1), false, []⟩] false) (
     .region 4 [⟨0, none, none, .mv (.var 4) true, false, []⟩,
       ⟨1, none, none, .mv (.var 5) true, false, []⟩,
       ⟨2, none, none, .append 5 1 1 (.loc 0) (.loc 1), false, []⟩,
       ⟨3, (some 4), none, .asg (.loc 2), false, []⟩] false))) (
   .region 2 [⟨0, none, none, .bin .add (.var 13) (.const (.int .i64 1)), false, []⟩,
     ⟨1, (some 13), none, .mv (.loc 0) false, false, []⟩] false))))
def c96 : LCode :=
  .seq (
   .region 1 [⟨0, (some 1), none, .asg (.const (.vs true .sh 0 [])), false, []⟩] false) (
  .seq (
   .region 1 [⟨0, (some 2), none, .asg (.const (.int .i64 0)), false, []⟩] false) (
  .seq (
   .seq (
    .region 3 [⟨0, (some 6), none, .mv (.var 0) false, false, []⟩,
      ⟨1, (some 7), none, .len 1 (.var 6), false, []⟩,
      ⟨2, (some 8), none, .mv (.const (.int .i64 0)) false, false, []⟩] false) (
   .fence [1, 3, 4, 5, 6, 7, 8, 9, 10, 11, 12, 13, 14] (
    .block 0 (
     .loop b96_0)))) (
  .seq (
   .region 3 [⟨0, none, none, .mv (.var 2) false, false, []⟩,
     ⟨1, none, none, .call 106 [(.const (.vs true .sh 0 [])), (.loc 0)], false, []⟩,
     ⟨2, (some 4), none, .asg (.loc 1), false, []⟩] false) (
  .seq (
   .seq (
    .region 3 [⟨0, (some 11), none, .mv (.var 0) false, false, []⟩,
      ⟨1, (some 12), none, .len 1 (.var 11), false, []⟩,
      ⟨2, (some 13), none, .mv (.const (.int .i64 0)) false, false, []⟩] false) (
   .fence [0, 1, 2, 3, 5, 6, 7, 8, 9, 10, 11, 12, 13, 14] (
    .block 2 (
     .loop b96_1)))) (
  .seq (
   .region 2 [⟨0, none, none, .mv (.var 4) false, false, []⟩,
     ⟨1, (some 1), none, .asg (.loc 0), false, []⟩] false) (
  .ret))))))
def l96 : LFun := ⟨1, [(some 0), none, none, none, none, none, none, none, none, none, none, none, none, none, none], c96, [.var 1], .pure⟩
/-- umpire/md5.padded -/
def vm95 : List Nat := [0, 2, 3, 4, 15, 19, 20]
def b95_0 : LCode :=
  .fence [1, 3, 4, 5, 6] (
   .seq (
    .seq (
     .region 4 [⟨0, none, none, .mv (.var 0) true, false, []⟩,
       ⟨1, none, none, .len 1 (.loc 0), false, []⟩,
       ⟨2, none, none, .bin .rem (.loc 1) (.const (.int .i64 64)), false, []⟩,
       ⟨3, (some 4), none, .bin .neq (.loc 2) (.const (.int .i64 56)), false, []⟩] false) (
    .cond (.var 4) (
     .skip) (
     .exit 0))) (
   .block 1 (
    .region 4 [⟨0, none, none, .mv (.var 0) true, false, []⟩,
      ⟨1, none, none, .mkslice (.int .u8 0) 1 1 [(0, (.const (.int .u8 0)))], false, []⟩,
      ⟨2, none, none, .append 5 1 1 (.loc 0) (.loc 1), false, []⟩,
      ⟨3, (some 0), none, .asg (.loc 2), false, []⟩] false)))
def b95_1 : LCode :=
  .fence [1, 3, 4, 6] (
   .seq (
    .region 1 [⟨0, (some 6), none, .bin .lss (.var 5) (.const (.int .i64 8)), false, []⟩] false) (
   .seq (
    .cond (.var 6) (
     .skip) (
     .exit 2)) (
   .seq (
    .block 3 (
     .seq (
      .region 2 [⟨0, none, none, .mv (.var 5) false, false, []⟩,
        ⟨1, (some 3), none, .asg (.loc 0), false, []⟩] false) (
     .region 9 [⟨0, none, none, .mv (.var 0) true, false, []⟩,
       ⟨1, none, none, .mv (.var 2) true, false, []⟩,
       ⟨2, none, none, .mv (.var 3) true, false, []⟩,
       ⟨3, none, none, .bin .mul (.const (.int .i64 8)) (.loc 2), false, []⟩,
       ⟨4, none, none, .bin .shr (.loc 1) (.loc 3), false, []⟩,
       ⟨5, none, none, .cvInt .u8 (.loc 4), false, []⟩,
       ⟨6, none, none, .mkslice (.int .u8 0) 1 1 [(0, (.loc 5))], false, []⟩,
       ⟨7, none, none, .append 5 1 1 (.loc 0) (.loc 6), false, []⟩,
       ⟨8, (some 0), none, .asg (.loc 7), false, []⟩] false))) (
   .region 2 [⟨0, none, none, .bin .add (.var 5) (.const (.int .i64 1)), false, []⟩,
     ⟨1, (some 5), none, .mv (.loc 0) false, false, []⟩] false))))
def c95 : LCode :=
  .seq (
   .region 1 [⟨0, (some 1), none, .asg (.const (.vs true .sh 0 [])), false, []⟩] false) (
  .seq (
   .region 5 [⟨0, none, none, .mv (.var 0) true, false, []⟩,
     ⟨1, none, none, .len 1 (.loc 0), false, []⟩,
     ⟨2, none, none, .cvInt .u64 (.loc 1), false, []⟩,
     ⟨3, none, none, .bin .mul (.loc 2) (.const (.int .u64 8)), false, []⟩,
     ⟨4, (some 2), none, .asg (.loc 3), false, []⟩] false) (
  .seq (
   .region 4 [⟨0, none, none, .mv (.var 0) true, false, []⟩,
     ⟨1, none, none, .mkslice (.int .u8 0) 1 1 [(0, (.const (.int .u8 128)))], false, []⟩,
     ⟨2, none, none, .append 5 1 1 (.loc 0) (.loc 1), false, []⟩,
     ⟨3, (some 0), none, .asg (.loc 2), false, []⟩] false) (
  .seq (
   .fence [1, 3, 4, 5, 6] (
    .block 0 (
     .loop b95_0))) (
  .seq (
   .seq (
    .region 1 [⟨0, (some 5), none, .mv (.const (.int .i64 0)) false, false, []⟩] false) (
   .fence [1, 2, 3, 4, 5, 6] (
    .block 2 (
     .loop b95_1)))) (
  .seq (
   .region 2 [⟨0, none, none, .mv (.var 0) false, false, []⟩,
     ⟨1, (some 1), none, .asg (.loc 0), false, []⟩] false) (
  .ret))))))
def l95 : LFun := ⟨1, [(some 0), none, none, none, none, none, none], c95, [.var 1], .pure⟩
/-- slices.Chunk[[]byte,byte] -/
def vm94 : List Nat := [0, 1, 2, 3, 4, 6]
def c94 : LCode :=
  .seq (
   .region 3 [⟨0, (some 2), none, .box 40 (.var 0), false, []⟩,
     ⟨1, (some 3), none, .box 3 (.var 1), false, []⟩,
     ⟨2, (some 4), none, .asg (.const .nilfunc), false, []⟩] false) (
  .seq (
   .seq (
    .region 2 [⟨0, none, none, .load false 1 (.var 3) true, false, []⟩,
      ⟨1, (some 5), none, .bin .lss (.loc 0) (.const (.int .i64 1)), false, []⟩] false) (
   .cond (.var 5) (
    .region 2 [⟨0, none, none, .mkIface 9 (.const (.str [99, 97, 110, 110, 111, 116, 32, 98, 101, 32, 108, 101, 115, 115, 32, 116, 104, 97, 110, 32, 49])), false, []⟩,
      ⟨1, (some 6), none, .fail, false, []⟩] false) (
    .skip))) (
  .seq (
   .region 2 [⟨0, none, none, .mkFunc 105 [(.var 2), (.var 3)], false, []⟩,
     ⟨1, (some 4), none, .asg (.loc 0), false, []⟩] false) (
  .ret)))
def l94 : LFun := ⟨2, [(some 0), (some 1), none, none, none, none], c94, [.var 4], .keep⟩
/-- umpire/terms.asked -/
def vm156 : List Nat := [0, 2, 3, 4, 5, 6, 13, 19, 42]
def c156 : LCode :=
  .seq (
   .region 1 [⟨0, (some 1), none, .asg (.const (.int .i64 0)), false, []⟩] false) (
  .seq (
   .region 7 [⟨0, none, none, .mv (.var 0) false, false, []⟩,
     ⟨1, none, none, .callp 55 [(.loc 0), (.const (.int .i64 0)), (.const (.int .i64 2))], false, []⟩,
     ⟨2, none, none, .mv (.loc 1) false, false, []⟩,
     ⟨3, none, none, .extract (.loc 2) 0, false, []⟩,
     ⟨4, none, none, .extract (.loc 2) 1, false, []⟩,
     ⟨5, (some 2), none, .asg (.loc 3), false, []⟩,
     ⟨6, (some 3), none, .asg (.loc 4), false, []⟩] false) (
  .seq (
   .seq (
    .region 2 [⟨0, none, none, .mv (.var 3) true, false, []⟩,
      ⟨1, (some 6), none, .un .not (.loc 0), false, []⟩] false) (
   .cond (.var 6) (
    .seq (
     .region 1 [⟨0, (some 1), none, .asg (.const (.int .i64 0)), false, []⟩] false) (
    .ret)) (
    .skip))) (
  .seq (
   .region 7 [⟨0, none, none, .mv (.var 2) false, false, []⟩,
     ⟨1, none, none, .callp 80 [(.loc 0), (.const (.bool true))], false, []⟩,
     ⟨2, none, none, .mv (.loc 1) false, false, []⟩,
     ⟨3, none, none, .extract (.loc 2) 0, false, []⟩,
     ⟨4, none, none, .extract (.loc 2) 1, false, []⟩,
     ⟨5, (some 4), none, .asg (.loc 3), false, []⟩,
     ⟨6, (some 5), none, .asg (.loc 4), false, []⟩] false) (
  .seq (
   .block 0 (
    .seq (
     .seq (
      .region 8 [⟨0, none, none, .mv (.var 4) true, false, []⟩,
        ⟨1, none, none, .bin .eql (.loc 0) (.const (.int .u64 49187)), false, []⟩,
        ⟨2, none, none, .mv (.loc 1) false, false, []⟩,
        ⟨3, none, (some ((.loc 2), true)), .mv (.var 0) true, false, []⟩,
        ⟨4, none, (some ((.loc 2), true)), .len 1 (.loc 3), false, []⟩,
        ⟨5, none, (some ((.loc 2), true)), .bin .eql (.loc 4) (.const (.int .i64 2)), false, []⟩,
        ⟨6, none, none, .pick (.loc 2) (.loc 5) (.const (.bool false)), false, []⟩,
        ⟨7, (some 7), none, .asg (.loc 6), false, []⟩] false) (
     .cond (.var 7) (
      .skip) (
      .region 14 [⟨0, none, none, .mv (.var 4) true, false, []⟩,
        ⟨1, none, none, .bin .eql (.loc 0) (.const (.int .u64 49699)), false, []⟩,
        ⟨2, none, none, .mv (.loc 1) false, false, []⟩,
        ⟨3, none, (some ((.loc 2), true)), .mv (.var 0) true, false, []⟩,
        ⟨4, none, (some ((.loc 2), true)), .len 1 (.loc 3), false, []⟩,
        ⟨5, none, (some ((.loc 2), true)), .bin .eql (.loc 4) (.const (.int .i64 3)), false, []⟩,
        ⟨6, none, none, .pick (.loc 2) (.loc 5) (.const (.bool false)), false, []⟩,
        ⟨7, none, none, .mv (.loc 6) false, false, []⟩,
        ⟨8, none, (some ((.loc 7), true)), .mv (.var 0) false, false, []⟩,
        ⟨9, none, (some ((.loc 7), true)), .idxAddrVs 1 (.loc 8) (.const (.int .i64 2)), false, []⟩,
        ⟨10, none, (some ((.loc 7), true)), .load false 1 (.loc 9) true, false, []⟩,
        ⟨11, none, (some ((.loc 7), true)), .bin .eql (.loc 10) (.const (.int .u8 5)), false, []⟩,
        ⟨12, none, none, .pick (.loc 7) (.loc 11) (.const (.bool false)), false, []⟩,
        ⟨13, (some 7), none, .asg (.loc 12), false, []⟩] false))) (
    .cond (.var 7) (
     .seq (
      .region 3 [⟨0, none, none, .mv (.var 4) true, false, []⟩,
        ⟨1, none, none, .cvInt .i64 (.loc 0), false, []⟩,
        ⟨2, (some 1), none, .asg (.loc 1), false, []⟩] false) (
     .ret)) (
     .seq (
      .region 7 [⟨0, none, none, .mv (.var 4) true, false, []⟩,
        ⟨1, none, none, .bin .eql (.loc 0) (.const (.int .u64 49187)), false, []⟩,
        ⟨2, none, none, .mv (.loc 1) false, false, []⟩,
        ⟨3, none, (some ((.loc 2), false)), .mv (.var 4) true, false, []⟩,
        ⟨4, none, (some ((.loc 2), false)), .bin .eql (.loc 3) (.const (.int .u64 49699)), false, []⟩,
        ⟨5, none, none, .pick (.loc 2) (.const (.bool true)) (.loc 4), false, []⟩,
        ⟨6, (some 8), none, .asg (.loc 5), false, []⟩] false) (
     .cond (.var 8) (
      .seq (
       .region 1 [⟨0, (some 1), none, .asg (.const (.int .i64 0)), false, []⟩] false) (
      .ret)) (
      .skip)))))) (
  .seq (
   .region 1 [⟨0, (some 1), none, .asg (.const (.int .i64 1)), false, []⟩] false) (
  .ret))))))
def l156 : LFun := ⟨1, [(some 0), none, none, none, none, none, none, none, none], c156, [.var 1], .pure⟩
/-- umpire/table.up -/
def vm112 : List Nat := [0, 2, 3, 4, 5, 10]
def c112 : LCode :=
  .seq (
   .region 2 [⟨0, (some 1), none, .alloc 176 [(.int .i64 0), (.vs true .sh 0 [])], false, []⟩,
     ⟨1, (some 2), none, .asg (.const (.bool false)), false, []⟩] false) (
  .seq (
   .seq (
    .region 1 [⟨0, (some 3), none, .mv (.var 0) false, false, []⟩] false) (
   .block 0 (
    .seq (
     .region 2 [⟨0, none, none, .bin .eql (.var 3) (.const (.int .i64 0)), false, []⟩,
       ⟨1, (some 4), none, .asg (.loc 0), false, []⟩] false) (
    .cond (.var 4) (
     .seq (
      .region 5 [⟨0, none, none, .callp 116 [(.const (.int .i64 2)), (.const (.vs true .sh 0 []))], false, []⟩,
        ⟨1, none, none, .extract (.loc 0) 0, false, []⟩,
        ⟨2, none, none, .extract (.loc 0) 1, false, []⟩,
        ⟨3, (some 6), none, .store 2 (.var 1) (.loc 1), false, []⟩,
        ⟨4, (some 2), none, .asg (.loc 2), false, []⟩] false) (
     .ret)) (
     .seq (
      .region 2 [⟨0, none, none, .bin .eql (.var 3) (.const (.int .i64 1)), false, []⟩,
        ⟨1, (some 5), none, .asg (.loc 0), false, []⟩] false) (
     .cond (.var 5) (
      .seq (
       .region 6 [⟨0, none, none, .mkslice (.int .i64 0) 1 2 [(0, (.const (.int .i64 5))), (1, (.const (.int .i64 7)))], false, []⟩,
         ⟨1, none, none, .callp 116 [(.const (.int .i64 6)), (.loc 0)], false, []⟩,
         ⟨2, none, none, .extract (.loc 1) 0, false, []⟩,
         ⟨3, none, none, .extract (.loc 1) 1, false, []⟩,
         ⟨4, (some 6), none, .store 2 (.var 1) (.loc 2), false, []⟩,
         ⟨5, (some 2), none, .asg (.loc 3), false, []⟩] false) (
      .ret)) (
      .skip))))))) (
  .seq (
   .region 5 [⟨0, none, none, .callp 98 [], false, []⟩,
     ⟨1, none, none, .extract (.loc 0) 0, false, []⟩,
     ⟨2, none, none, .extract (.loc 0) 1, false, []⟩,
     ⟨3, (some 6), none, .store 2 (.var 1) (.loc 1), false, []⟩,
     ⟨4, (some 2), none, .asg (.loc 2), false, []⟩] false) (
  .ret)))
def l112 : LFun := ⟨1, [(some 0), none, none, none, none, none], c112, [.cell 1 2 true, .var 2], .pure⟩
/-- umpire/table.fall -/
def vm113 : List Nat := [0, 2, 3, 4, 5, 11, 17, 23]
def c113 : LCode :=
  .seq (
   .region 2 [⟨0, (some 1), none, .alloc 176 [(.int .i64 0), (.vs true .sh 0 [])], false, []⟩,
     ⟨1, (some 2), none, .asg (.const (.bool false)), false, []⟩] false) (
  .seq (
   .seq (
    .region 1 [⟨0, (some 3), none, .mv (.var 0) false, false, []⟩] false) (
   .block 0 (
    .seq (
     .seq (
      .region 2 [⟨0, none, none, .bin .eql (.var 3) (.const (.int .i64 0)), false, []⟩,
        ⟨1, (some 4), none, .asg (.loc 0), false, []⟩] false) (
     .cond (.var 4) (
      .skip) (
      .region 2 [⟨0, none, none, .bin .eql (.var 3) (.const (.int .i64 1)), false, []⟩,
        ⟨1, (some 4), none, .asg (.loc 0), false, []⟩] false))) (
    .cond (.var 4) (
     .seq (
      .region 5 [⟨0, none, none, .callp 98 [], false, []⟩,
        ⟨1, none, none, .extract (.loc 0) 0, false, []⟩,
        ⟨2, none, none, .extract (.loc 0) 1, false, []⟩,
        ⟨3, (some 8), none, .store 2 (.var 1) (.loc 1), false, []⟩,
        ⟨4, (some 2), none, .asg (.loc 2), false, []⟩] false) (
     .ret)) (
     .seq (
      .seq (
       .region 2 [⟨0, none, none, .bin .eql (.var 3) (.const (.int .i64 2)), false, []⟩,
         ⟨1, (some 5), none, .asg (.loc 0), false, []⟩] false) (
      .cond (.var 5) (
       .skip) (
       .region 2 [⟨0, none, none, .bin .eql (.var 3) (.const (.int .i64 4)), false, []⟩,
         ⟨1, (some 5), none, .asg (.loc 0), false, []⟩] false))) (
     .cond (.var 5) (
      .seq (
       .region 5 [⟨0, none, none, .callp 116 [(.const (.int .i64 0)), (.const (.vs true .sh 0 []))], false, []⟩,
         ⟨1, none, none, .extract (.loc 0) 0, false, []⟩,
         ⟨2, none, none, .extract (.loc 0) 1, false, []⟩,
         ⟨3, (some 8), none, .store 2 (.var 1) (.loc 1), false, []⟩,
         ⟨4, (some 2), none, .asg (.loc 2), false, []⟩] false) (
      .ret)) (
      .seq (
       .region 2 [⟨0, none, none, .bin .eql (.var 3) (.const (.int .i64 3)), false, []⟩,
         ⟨1, (some 6), none, .asg (.loc 0), false, []⟩] false) (
      .cond (.var 6) (
       .seq (
        .region 6 [⟨0, none, none, .mkslice (.int .i64 0) 1 1 [(0, (.const (.int .i64 3)))], false, []⟩,
          ⟨1, none, none, .callp 116 [(.const (.int .i64 1)), (.loc 0)], false, []⟩,
          ⟨2, none, none, .extract (.loc 1) 0, false, []⟩,
          ⟨3, none, none, .extract (.loc 1) 1, false, []⟩,
          ⟨4, (some 8), none, .store 2 (.var 1) (.loc 2), false, []⟩,
          ⟨5, (some 2), none, .asg (.loc 3), false, []⟩] false) (
       .ret)) (
       .seq (
        .region 2 [⟨0, none, none, .bin .eql (.var 3) (.const (.int .i64 9)), false, []⟩,
          ⟨1, (some 7), none, .asg (.loc 0), false, []⟩] false) (
       .cond (.var 7) (
        .seq (
         .region 6 [⟨0, none, none, .mkslice (.int .i64 0) 1 1 [(0, (.const (.int .i64 2)))], false, []⟩,
           ⟨1, none, none, .callp 116 [(.const (.int .i64 1)), (.loc 0)], false, []⟩,
           ⟨2, none, none, .extract (.loc 1) 0, false, []⟩,
           ⟨3, none, none, .extract (.loc 1) 1, false, []⟩,
           ⟨4, (some 8), none, .store 2 (.var 1) (.loc 2), false, []⟩,
           ⟨5, (some 2), none, .asg (.loc 3), false, []⟩] false) (
        .ret)) (
        .skip))))))))))) (
  .seq (
   .region 5 [⟨0, none, none, .callp 116 [(.const (.int .i64 1)), (.const (.vs true .sh 0 []))], false, []⟩,
     ⟨1, none, none, .extract (.loc 0) 0, false, []⟩,
     ⟨2, none, none, .extract (.loc 0) 1, false, []⟩,
     ⟨3, (some 8), none, .store 2 (.var 1) (.loc 1), false, []⟩,
     ⟨4, (some 2), none, .asg (.loc 2), false, []⟩] false) (
  .ret)))
def l113 : LFun := ⟨1, [(some 0), none, none, none, none, none, none, none], c113, [.cell 1 2 true, .var 2], .pure⟩
/-- umpire/table.opening -/
def vm114 : List Nat := [0, 2, 3, 4, 5, 11, 17]
def c114 : LCode :=
  .seq (
   .region 2 [⟨0, (some 1), none, .alloc 176 [(.int .i64 0), (.vs true .sh 0 [])], false, []⟩,
     ⟨1, (some 2), none, .asg (.const (.bool false)), false, []⟩] false) (
  .seq (
   .seq (
    .region 1 [⟨0, (some 3), none, .mv (.var 0) false, false, []⟩] false) (
   .block 0 (
    .seq (
     .region 2 [⟨0, none, none, .bin .eql (.var 3) (.const (.int .i64 0)), false, []⟩,
       ⟨1, (some 4), none, .asg (.loc 0), false, []⟩] false) (
    .cond (.var 4) (
     .seq (
      .region 6 [⟨0, none, none, .mkslice (.int .i64 0) 1 1 [(0, (.const (.int .i64 3)))], false, []⟩,
        ⟨1, none, none, .callp 116 [(.const (.int .i64 1)), (.loc 0)], false, []⟩,
        ⟨2, none, none, .extract (.loc 1) 0, false, []⟩,
        ⟨3, none, none, .extract (.loc 1) 1, false, []⟩,
        ⟨4, (some 7), none, .store 2 (.var 1) (.loc 2), false, []⟩,
        ⟨5, (some 2), none, .asg (.loc 3), false, []⟩] false) (
     .ret)) (
     .seq (
      .region 2 [⟨0, none, none, .bin .eql (.var 3) (.const (.int .i64 2)), false, []⟩,
        ⟨1, (some 5), none, .asg (.loc 0), false, []⟩] false) (
     .cond (.var 5) (
      .seq (
       .region 6 [⟨0, none, none, .mkslice (.int .i64 0) 1 2 [(0, (.const (.int .i64 5))), (1, (.const (.int .i64 7)))], false, []⟩,
         ⟨1, none, none, .callp 116 [(.const (.int .i64 6)), (.loc 0)], false, []⟩,
         ⟨2, none, none, .extract (.loc 1) 0, false, []⟩,
         ⟨3, none, none, .extract (.loc 1) 1, false, []⟩,
         ⟨4, (some 7), none, .store 2 (.var 1) (.loc 2), false, []⟩,
         ⟨5, (some 2), none, .asg (.loc 3), false, []⟩] false) (
      .ret)) (
      .seq (
       .region 2 [⟨0, none, none, .bin .eql (.var 3) (.const (.int .i64 4)), false, []⟩,
         ⟨1, (some 6), none, .asg (.loc 0), false, []⟩] false) (
      .cond (.var 6) (
       .seq (
        .region 5 [⟨0, none, none, .callp 116 [(.const (.int .i64 5)), (.const (.vs true .sh 0 []))], false, []⟩,
          ⟨1, none, none, .extract (.loc 0) 0, false, []⟩,
          ⟨2, none, none, .extract (.loc 0) 1, false, []⟩,
          ⟨3, (some 7), none, .store 2 (.var 1) (.loc 1), false, []⟩,
          ⟨4, (some 2), none, .asg (.loc 2), false, []⟩] false) (
       .ret)) (
       .skip))))))))) (
  .seq (
   .region 6 [⟨0, none, none, .mv (.var 0) false, false, []⟩,
     ⟨1, none, none, .callp 116 [(.loc 0), (.const (.vs true .sh 0 []))], false, []⟩,
     ⟨2, none, none, .extract (.loc 1) 0, false, []⟩,
     ⟨3, none, none, .extract (.loc 1) 1, false, []⟩,
     ⟨4, (some 7), none, .store 2 (.var 1) (.loc 2), false, []⟩,
     ⟨5, (some 2), none, .asg (.loc 3), false, []⟩] false) (
  .ret)))
def l114 : LFun := ⟨1, [(some 0), none, none, none, none, none, none], c114, [.cell 1 2 true, .var 2], .pure⟩
/-- umpire/table.closing -/
def vm115 : List Nat := [0, 2, 3, 4, 5, 11, 16, 21, 29]
def c115 : LCode :=
  .seq (
   .region 2 [⟨0, (some 1), none, .alloc 176 [(.int .i64 0), (.vs true .sh 0 [])], false, []⟩,
     ⟨1, (some 2), none, .asg (.const (.bool false)), false, []⟩] false) (
  .seq (
   .seq (
    .region 1 [⟨0, (some 3), none, .mv (.var 0) false, false, []⟩] false) (
   .block 0 (
    .seq (
     .region 2 [⟨0, none, none, .bin .eql (.var 3) (.const (.int .i64 1)), false, []⟩,
       ⟨1, (some 4), none, .asg (.loc 0), false, []⟩] false) (
    .cond (.var 4) (
     .seq (
      .region 6 [⟨0, none, none, .mkslice (.int .i64 0) 1 1 [(0, (.const (.int .i64 4)))], false, []⟩,
        ⟨1, none, none, .callp 116 [(.const (.int .i64 0)), (.loc 0)], false, []⟩,
        ⟨2, none, none, .extract (.loc 1) 0, false, []⟩,
        ⟨3, none, none, .extract (.loc 1) 1, false, []⟩,
        ⟨4, (some 9), none, .store 2 (.var 1) (.loc 2), false, []⟩,
        ⟨5, (some 2), none, .asg (.loc 3), false, []⟩] false) (
     .ret)) (
     .seq (
      .region 2 [⟨0, none, none, .bin .eql (.var 3) (.const (.int .i64 3)), false, []⟩,
        ⟨1, (some 5), none, .asg (.loc 0), false, []⟩] false) (
     .cond (.var 5) (
      .seq (
       .region 5 [⟨0, none, none, .callp 116 [(.const (.int .i64 2)), (.const (.vs true .sh 0 []))], false, []⟩,
         ⟨1, none, none, .extract (.loc 0) 0, false, []⟩,
         ⟨2, none, none, .extract (.loc 0) 1, false, []⟩,
         ⟨3, (some 9), none, .store 2 (.var 1) (.loc 1), false, []⟩,
         ⟨4, (some 2), none, .asg (.loc 2), false, []⟩] false) (
      .ret)) (
      .seq (
       .region 2 [⟨0, none, none, .bin .eql (.var 3) (.const (.int .i64 5)), false, []⟩,
         ⟨1, (some 6), none, .asg (.loc 0), false, []⟩] false) (
      .cond (.var 6) (
       .seq (
        .region 5 [⟨0, none, none, .callp 116 [(.const (.int .i64 4)), (.const (.vs true .sh 0 []))], false, []⟩,
          ⟨1, none, none, .extract (.loc 0) 0, false, []⟩,
          ⟨2, none, none, .extract (.loc 0) 1, false, []⟩,
          ⟨3, (some 9), none, .store 2 (.var 1) (.loc 1), false, []⟩,
          ⟨4, (some 2), none, .asg (.loc 2), false, []⟩] false) (
       .ret)) (
       .seq (
        .seq (
         .region 2 [⟨0, none, none, .bin .eql (.var 3) (.const (.int .i64 6)), false, []⟩,
           ⟨1, (some 7), none, .asg (.loc 0), false, []⟩] false) (
        .cond (.var 7) (
         .skip) (
         .seq (
          .region 2 [⟨0, none, none, .bin .eql (.var 3) (.const (.int .i64 7)), false, []⟩,
            ⟨1, (some 7), none, .asg (.loc 0), false, []⟩] false) (
         .cond (.var 7) (
          .skip) (
          .region 2 [⟨0, none, none, .bin .eql (.var 3) (.const (.int .i64 8)), false, []⟩,
            ⟨1, (some 7), none, .asg (.loc 0), false, []⟩] false))))) (
       .cond (.var 7) (
        .seq (
         .region 6 [⟨0, none, none, .mkslice (.int .i64 0) 1 2 [(0, (.const (.int .i64 5))), (1, (.const (.int .i64 10)))], false, []⟩,
           ⟨1, none, none, .callp 116 [(.const (.int .i64 4)), (.loc 0)], false, []⟩,
           ⟨2, none, none, .extract (.loc 1) 0, false, []⟩,
           ⟨3, none, none, .extract (.loc 1) 1, false, []⟩,
           ⟨4, (some 9), none, .store 2 (.var 1) (.loc 2), false, []⟩,
           ⟨5, (some 2), none, .asg (.loc 3), false, []⟩] false) (
        .ret)) (
        .seq (
         .region 2 [⟨0, none, none, .bin .eql (.var 3) (.const (.int .i64 9)), false, []⟩,
           ⟨1, (some 8), none, .asg (.loc 0), false, []⟩] false) (
        .cond (.var 8) (
         .seq (
          .region 6 [⟨0, none, none, .mkslice (.int .i64 0) 1 3 [(0, (.const (.int .i64 2))), (1, (.const (.int .i64 5))), (2, (.const (.int .i64 10)))], false, []⟩,
            ⟨1, none, none, .callp 116 [(.const (.int .i64 4)), (.loc 0)], false, []⟩,
            ⟨2, none, none, .extract (.loc 1) 0, false, []⟩,
            ⟨3, none, none, .extract (.loc 1) 1, false, []⟩,
            ⟨4, (some 9), none, .store 2 (.var 1) (.loc 2), false, []⟩,
            ⟨5, (some 2), none, .asg (.loc 3), false, []⟩] false) (
         .ret)) (
         .skip))))))))))))) (
  .seq (
   .region 6 [⟨0, none, none, .mv (.var 0) false, false, []⟩,
     ⟨1, none, none, .callp 116 [(.loc 0), (.const (.vs true .sh 0 []))], false, []⟩,
     ⟨2, none, none, .extract (.loc 1) 0, false, []⟩,
     ⟨3, none, none, .extract (.loc 1) 1, false, []⟩,
     ⟨4, (some 9), none, .store 2 (.var 1) (.loc 2), false, []⟩,
     ⟨5, (some 2), none, .asg (.loc 3), false, []⟩] false) (
  .ret)))
def l115 : LFun := ⟨1, [(some 0), none, none, none, none, none, none, none, none], c115, [.cell 1 2 true, .var 2], .pure⟩
/-- umpire/table.to -/
def vm116 : List Nat := [0, 1, 4, 5]
def c116 : LCode :=
  .seq (
   .region 2 [⟨0, (some 2), none, .alloc 176 [(.int .i64 0), (.vs true .sh 0 [])], false, []⟩,
     ⟨1, (some 3), none, .asg (.const (.bool false)), false, []⟩] false) (
  .seq (
   .region 5 [⟨0, none, none, .mv (.var 0) false, false, []⟩,
     ⟨1, none, none, .mv (.var 1) false, false, []⟩,
     ⟨2, none, none, .build [(.int .i64 0), (.vs true .sh 0 [])] [(0, 1, (.loc 0)), (1, 1, (.loc 1))], false, []⟩,
     ⟨3, (some 4), none, .store 2 (.var 2) (.loc 2), false, []⟩,
     ⟨4, (some 3), none, .asg (.const (.bool true)), false, []⟩] false) (
  .ret))
def l116 : LFun := ⟨2, [(some 0), (some 1), none, none], c116, [.cell 2 2 true, .var 3], .pure⟩
/-- slices.EqualFunc[[]umpire/api.Option,[]umpire/api.Option,umpire/api.Option,umpire/api.Option] -/
def vm88 : List Nat := [0, 1, 2, 6, 7, 8, 9, 14, 15, 16, 17, 18, 30]
def b88_0 : LCode :=
  .fence [0, 3, 4, 5, 6, 7, 11, 12] (
   .seq (
    .region 1 [⟨0, (some 11), none, .bin .lss (.var 10) (.var 9), false, []⟩] false) (
   .seq (
    .cond (.var 11) (
     .skip) (
     .exit 0)) (
   .seq (
    .block 1 (
     .seq (
      .region 6 [⟨0, none, none, .mv (.var 10) false, false, []⟩,
        ⟨1, none, none, .idxAddrVs 2 (.var 8) (.var 10), false, []⟩,
        ⟨2, none, none, .load true 2 (.loc 1) false, false, []⟩,
        ⟨3, (some 5), none, .alloc 146 [(.int .i64 0), (.vs true .sh 0 [])], false, []⟩,
        ⟨4, (some 4), none, .asg (.loc 0), false, []⟩,
        ⟨5, (some 13), none, .store 2 (.var 5) (.loc 2), false, []⟩] false) (
     .seq (
      .region 6 [⟨0, none, none, .mv (.var 1) false, false, []⟩,
        ⟨1, none, none, .mv (.var 4) false, false, []⟩,
        ⟨2, none, none, .idxAddrVs 2 (.loc 0) (.loc 1), false, []⟩,
        ⟨3, none, none, .load true 2 (.loc 2) false, false, []⟩,
        ⟨4, (some 6), none, .alloc 146 [(.int .i64 0), (.vs true .sh 0 [])], false, []⟩,
        ⟨5, (some 13), none, .store 2 (.var 6) (.loc 3), false, []⟩] false) (
     .seq (
      .region 5 [⟨0, none, none, .mv (.var 2) false, false, []⟩,
        ⟨1, none, none, .load true 2 (.var 5) false, false, []⟩,
        ⟨2, none, none, .load true 2 (.var 6) false, false, []⟩,
        ⟨3, none, none, .callv (.loc 0) [(.loc 1), (.loc 2)], false, []⟩,
        ⟨4, (some 12), none, .un .not (.loc 3), false, []⟩] false) (
     .cond (.var 12) (
      .seq (
       .region 1 [⟨0, (some 3), none, .asg (.const (.bool false)), false, []⟩] false) (
      .ret)) (
      .skip)))))) (
   .region 2 [⟨0, none, none, .bin .add (.var 10) (.const (.int .i64 1)), false, []⟩,
     ⟨1, (some 10), none, .mv (.loc 0) false, false, []⟩] false))))
def c88 : LCode :=
  .seq (
   .region 1 [⟨0, (some 3), none, .asg (.const (.bool false)), false, []⟩] false) (
  .seq (
   .seq (
    .region 5 [⟨0, none, none, .mv (.var 0) true, false, []⟩,
      ⟨1, none, none, .len 1 (.loc 0), false, []⟩,
      ⟨2, none, none, .mv (.var 1) true, false, []⟩,
      ⟨3, none, none, .len 1 (.loc 2), false, []⟩,
      ⟨4, (some 7), none, .bin .neq (.loc 1) (.loc 3), false, []⟩] false) (
   .cond (.var 7) (
    .seq (
     .region 1 [⟨0, (some 3), none, .asg (.const (.bool false)), false, []⟩] false) (
    .ret)) (
    .skip))) (
  .seq (
   .seq (
    .region 3 [⟨0, (some 8), none, .mv (.var 0) false, false, []⟩,
      ⟨1, (some 9), none, .len 1 (.var 8), false, []⟩,
      ⟨2, (some 10), none, .mv (.const (.int .i64 0)) false, false, []⟩] false) (
   .fence [0, 1, 2, 3, 4, 5, 6, 7, 8, 9, 10, 11, 12] (
    .block 0 (
     .loop b88_0)))) (
  .seq (
   .region 1 [⟨0, (some 3), none, .asg (.const (.bool true)), false, []⟩] false) (
  .ret))))
def l88 : LFun := ⟨3, [(some 0), (some 1), (some 2), none, none, none, none, none, none, none, none, none, none], c88, [.var 3], .trim⟩
end D
end Go.Proofs.YtpfnlpakcldobaaGreat
