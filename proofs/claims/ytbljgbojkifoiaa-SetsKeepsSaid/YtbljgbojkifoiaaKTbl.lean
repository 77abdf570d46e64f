/- The table of this seat's functions, and the hooks. -/
import Derived.Test.YtbljgbojkifoiaaKDump
import Derived.Lib.Bytealg
set_option linter.unusedVariables false
namespace Go.Proofs.Ytbljgbojkifoiaa
open Go Go.L
namespace D
/-- (*strings.Builder).copyCheck -/
def isB (t : Nat) : Bool := t == 47 || t == 49
def hCopy (args : List LVal) (st : List LObj) : Option (LVal × Option (List LObj)) := match args with
  | [.ptr id 0] => match st[id]? with
    | some (.cells t (.nilptr :: v :: r)) => if isB t then some (.tup [], some (st.set id (.cells t (.ptr id 0 :: v :: r)))) else none
    | some (.cells t (.ptr id' 0 :: r)) => if id' = id then some (.tup [], some st) else none
    | _ => none
  | _ => none
def byteR : LVal → Option UInt8
  | .int .u8 n => if 0 ≤ n ∧ n < 256 then some (UInt8.ofNat n.toNat) else none
  | _ => none
def bytesR : List LVal → Option (List UInt8)
  | [] => some []
  | v :: r => (byteR v).bind fun b => (bytesR r).map fun l => b :: l
/-- (*strings.Builder).String: the builder is at its end. -/
def hText (args : List LVal) (st : List LObj) : Option (LVal × Option (List LObj)) := match args with
  | [.ptr id 0] => match st[id]? with
    | some (.cells t [p, .vs true .sh _ []]) => some (.str [], some (st.set id .dead))
    | some (.cells t [p, .vs false (.own 5 _) 1 xs]) => (bytesR xs).map fun l => (.str l, some (st.set id .dead))
    | _ => none
  | _ => none
/-- slices.Grow at nil. -/
def hGrow (args : List LVal) (st : List LObj) : Option (LVal × Option (List LObj)) := match args with
  | [.vs true .sh 0 [], .int .i64 n] => if n = 0 then some (.vs true .sh 0 [], none) else if 0 < n ∧ n * 256 ≤ 140737488355328 then some (.vs false (.own 31 true) 31 [], none) else none
  | _ => none
def insK (k : List UInt8) : List (List UInt8) → List (List UInt8)
  | [] => [k]
  | x :: r => if k ≤ x then k :: x :: r else x :: insK k r
def sortK : List (List UInt8) → List (List UInt8)
  | [] => []
  | k :: r => insK k (sortK r)
def keysOf : List (LVal × LVal) → Option (List (List UInt8))
  | [] => some []
  | (.str s, _) :: r => if s.length ≤ 140737488355328 then (keysOf r).map fun l => s :: l else none
  | _ => none
/-- slices.Sorted at what maps.Keys answers. -/
def hSorted (args : List LVal) (st : List LObj) : Option (LVal × Option (List LObj)) := match args with
  | [.func 49 [.ptr id 0]] => match st[id]? with
    | some (.cells _ [.map m]) => match st[m]? with
      | some (.map es) => (keysOf es).bind fun ks => if es.length ≤ 1000000 then some (if es.isEmpty then .vs true .sh 1 [] else .vs false .sh 1 ((sortK ks).map .str), none) else none
      | _ => none
    | _ => none
  | _ => none
/-- internal/bytealg.CompareString -/
def hCmp (args : List LVal) (st : List LObj) : Option (LVal × Option (List LObj)) := match args with
  | [.str a, .str b] => some (.int .i64 (Lib.compareBytes a b), none)
  | _ => none
def tbl : List (Nat × LDef) := [(7, .fn l7), (8, .fn l8), (9, .fn l9), (15, .fn l15), (13, .fn l13), (17, .fn l17), (14, .fn l14), (10, .fn l10), (16, .fn l16), (18, .fn l18), (29, .fn l29), (28, .fn l28), (30, .fn l30), (12, .fn l12), (20, .fn l20), (21, .fn l21), (22, .fn l22), (31, .fn l31), (32, .fn l32), (41, .fn l41), (11, .fn l11), (27, .fn l27), (34, .fn l34), (36, .fn l36), (35, .fn l35), (37, .fn l37), (33, .fn l33), (24, .fn l24), (25, .fn l25), (26, .fn l26), (45, .fn l45), (46, .fn l46), (38, .fn l38), (39, .fn l39),
  (23, .hook hText), (40, .hook hSorted), (42, .hook hGrow), (44, .hook hCopy), (43, .hook hCmp)]
def T : Tbl := { fns := fun f => tbl.lookup f, im := fun _ _ => none, impl := fun _ _ => false }
end D
end Go.Proofs.Ytbljgbojkifoiaa
