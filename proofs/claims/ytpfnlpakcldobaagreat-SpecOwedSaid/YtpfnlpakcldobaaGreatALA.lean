/- Texts of the proof: L0 L1 L2 L3 L4 L5 L6 L7 L8. -/
import Derived.Calls
import Derived.Laws.IdiomCopy
import Derived.Below
import Derived.MapKept
import Derived.ChangeKeysEq
import Derived.Great.FillDense
set_option linter.unusedVariables false
set_option linter.unusedSimpArgs false
set_option linter.unusedSectionVars false
namespace Go.L
inductive Loc where
 | var (k : Nat)
 | cell (id off : Nat)
 deriving DecidableEq
inductive Own where
 | sh
 | full
 | own (e : TypeId) (x : Bool)
 | pk (l : Loc)
 deriving DecidableEq
inductive LVal where
 | undef
 | bool (b : Bool)
 | int (k : IntKind) (n : Int)
 | str (s : List UInt8)
 | ptr (id off : Nat)
 | ref (v : LVal)
 | vh
 | vs (nil : Bool) (o : Own) (n : Nat) (xs : List LVal)
 | ms (id off len esz : Nat) (agg : Bool)
 | map (id : Nat)
 | wq
 | func (f : FuncId) (caps : List LVal)
 | x6
 | iface (t : TypeId) (v : LVal)
 | yX
 | agg (cells : List LVal)
 | tup (vs : List LVal)
 deriving Inhabited
inductive zt where
 | dead
 | cells (t : TypeId) (c : List LVal)
 | map (es : List (LVal × LVal))
 deriving Inhabited
def LVal.cells : LVal → List LVal
 | .agg cs => cs
 | v => [v]
def LVal.plain : LVal → Bool
 | .undef | .vs _ (.own ..) _ _ | .vs _ (.pk _) _ _ | .agg _ | .tup _ => false
 | _ => true
def LVal.zr : LVal → Bool
 | .vs _ (.own ..) _ _ => true
 | _ => false
def LVal.down : LVal → LVal
 | .vs b (.own _ _) n xs => .vs b .sh n xs
 | v => v
def LVal.stay : LVal → LVal
 | .vs b (.own e _) n xs => .vs b (.own e false) n xs
 | v => v
def LVal.yT : LVal → LVal
 | .vs _ (.pk _) _ _ => .undef
 | v => v
mutual
def LVal.pf : LVal → Bool
 | .ptr .. | .ms .. | .map _ => false
 | .func _ caps => pfs caps
 | .iface _ v => v.pf
 | .agg cs => pfs cs
 | .tup l => pfs l
 | _ => true
def LVal.pfs : List LVal → Bool
 | [] => true
 | v :: r => v.pf && pfs r
end
mutual
def LVal.within (n : Nat) : LVal → Bool
 | .ptr id _ | .ms id _ _ _ _ | .map id => decide (id < n)
 | .func _ caps => zb n caps
 | .iface _ v => v.within n
 | .agg cs => zb n cs
 | .tup l => zb n l
 | _ => true
def LVal.zb (n : Nat) : List LVal → Bool
 | [] => true
 | v :: r => v.within n && zb n r
end
def zt.within (n : Nat) : zt → Bool
 | .dead => true
 | .cells _ c => LVal.zb n c
 | .map es => LVal.zb n (es.map (·.1)) && LVal.zb n (es.map (·.2))
structure RS where
 vars : List LVal
 st : List zt
 rs : List LVal
inductive Opd where
 | loc (i : Nat)
 | var (k : Nat)
 | const (v : LVal)
inductive tt where
 | b
 | i (k : IntKind)
 | s
 deriving DecidableEq
inductive LOp where
 | mv (x : Opd) (zu : Bool)
 | asg (x : Opd)
 | pick (c a b : Opd)
 | alloc (t : TypeId) (cells : List LVal)
 | box (t : TypeId) (x : Opd)
 | build (zero : List LVal) (parts : List (Nat × Nat × Opd))
 | zI (zero : LVal) (esz len : Nat) (parts : List (Nat × Opd))
 | load (agg : Bool) (n : Nat) (a : Opd) (zu : Bool)
 | store (n : Nat) (a v : Opd)
 | nilCheck (x : Opd)
 | bin (op : BinOp) (x y : Opd)
 | un (op : UnOp) (x : Opd)
 | wU (neq : Bool) (ks : List tt) (x y : Opd)
 | isNil (kind : Nat) (neq : Bool) (x : Opd)
 | uV (neq : Bool) (x y : Opd)
 | xd (k : IntKind) (x : Opd)
 | cvId (x : Opd)
 | vW (x : Opd)
 | vO (x : Opd)
 | vu (t : TypeId) (x : Opd)
 | tF (f : FuncId) (caps : List Opd)
 | mkMap
 | ng (x : Opd)
 | makeSlice (zero : LVal) (e : TypeId) (esz bytes : Nat) (l c : Opd) (mutb : Bool)
 | tD (x : Opd) (lo hi : Option Opd)
 | xf (esz : Nat) (x : Opd) (lo hi mx : Option Opd)
 | sq (n esz : Nat) (agg : Bool) (x : Opd) (lo hi : Option Opd)
 | fieldAddr (off n : Nat) (agg : Bool) (x : Opd)
 | field (off n : Nat) (agg : Bool) (x : Opd)
 | zF (len esz : Nat) (agg : Bool) (x i : Opd)
 | zh (esz : Nat) (x i : Opd)
 | tI (len esz : Nat) (agg : Bool) (x i : Opd)
 | qJ (x i : Opd)
 | lookup (kd : tt) (zero : LVal) (x i : Opd) (ok : Bool)
 | mapUpdate (kd : tt) (m k v : Opd)
 | tR (t : TypeId) (zero : LVal) (x : Opd) (ok : Bool)
 | extract (x : Opd) (i : Nat)
 | call (f : FuncId) (args : List Opd)
 | yR (f : FuncId) (args : List Opd)
 | tM (x : Opd) (args : List Opd)
 | invoke (x : Opd) (name : String) (tbl : List (Nat × Nat)) (args : List Opd)
 | len (kind : Nat) (x : Opd)
 | append (e : TypeId) (esz bytes : Nat) (x y : Opd)
 | vg (mx : Bool) (x : Opd) (r : List Opd)
 | kJ (k esz : Nat) (agg : Bool)
 | out (k : Nat)
 | asgT (x : Opd) (esz : Nat) (agg : Bool)
 | sft (x : Opd)
 | clear (zero : List LVal) (x : Opd)
 | kS (n : Nat) (x : Opd)
 | u9 (t : TypeId) (x : Opd)
 | fail
structure zj where
 ix : Nat
 dst : Option Nat
 guard : Option (Opd × Bool)
 op : LOp
 strict : Bool := false
 tn : List (Opd × Nat) := []
inductive zv where
 | skip
 | region (n : Nat) (ops : List zj) (draw : Bool)
 | seq (a b : zv)
 | cond (c : Opd) (a b : zv)
 | block (id : Nat) (body : zv)
 | loop (body : zv)
 | exit (id : Nat)
 | ret
 | dead
 | zX (kill : List Nat) (body : zv)
def RS.zu (s : RS) : Opd → Option LVal
 | .const v => some v
 | .loc i => s.rs[i]?
 | .var k => s.vars[k]?
def LVal.copy : LVal → Option LVal
 | .vs _ (.pk _) _ _ => none
 | .tup _ => none
 | v => some v.down
def RS.take (s : RS) : Opd → Option (LVal × RS)
 | .const v => some (v, s)
 | .loc i => (s.rs[i]?).bind fun v => v.copy.map fun u => (u, if v.zr then { s with rs := s.rs.set i v.stay } else s)
 | .var k => (s.vars[k]?).bind fun v => v.copy.map fun u => (u, if v.zr then { s with vars := s.vars.set k v.stay } else s)
def RS.yW (s : RS) : Opd → Option (LVal × RS)
 | .loc i => (s.rs[i]?).bind fun v => match v with
  | .vs _ (.pk _) _ _ => none
  | .vs _ (.own ..) _ _ => some (v, { s with rs := s.rs.set i .undef })
  | .tup _ => some (v, { s with rs := s.rs.set i .undef })
  | v => some (v, s)
 | o => s.take o
def RS.takes (s : RS) : List Opd → Option (List LVal × RS)
 | [] => some ([], s)
 | o :: r => (s.take o).bind fun (v, s) => (s.takes r).map fun (vs, s) => (v :: vs, s)
def RS.yJ (s : RS) : RS := { s with rs := s.rs.map LVal.yT }
def RS.xp (s : RS) (k : Nat) (v : LVal) : RS :=
 if (s.vars[k]?).any LVal.zr then { s.yJ with vars := s.vars.set k v } else { s with vars := s.vars.set k v }
def RS.acquire (s : RS) : Opd → Option (LVal × RS)
 | .loc i => (s.rs[i]?).bind fun v => match v with
  | .vs _ (.pk (.var k)) _ _ => (s.vars[k]?).bind fun u => if u.zr then some (u, { s.yJ with vars := s.vars.set k .undef }) else none
  | .vs _ (.pk (.cell id off)) _ _ => match s.st[id]? with
   | some (.cells t c) => (c[off]?).bind fun u => if u.zr then some (u.stay, { s.yJ with st := s.st.set id (.cells t ((c.map LVal.stay).set off u.down)) }) else none
   | _ => none
  | .vs _ (.own ..) _ _ => some (v, { s with rs := s.rs.set i .undef })
  | v => some (v, s)
 | .const v => some (v, s)
 | .var _ => none
def LVal.xg (strict : Bool) : LVal → Bool
 | .undef | .vs _ (.pk _) _ _ | .tup _ => false
 | .vs _ (.own _ x) _ _ => !strict && !x
 | _ => true
def LVal.calm (strict : Bool) : LVal → Bool
 | .tup l => l.all (LVal.xg true)
 | v => v.xg strict
def uk : Option Opd → List Opd
 | none => []
 | some x => [x]
def LOp.zQ : LOp → List Opd
 | .mv x _ | .asg x | .box _ x | .load _ _ x _ | .nilCheck x | .un _ x | .isNil _ _ x | .xd _ x | .cvId x | .vW x | .vO x | .vu _ x | .fieldAddr _ _ _ x | .field _ _ _ x | .extract x _ | .len _ x | .tR _ _ x _ |
  .u9 _ x | .clear _ x | .kS _ x | .ng x => [x]
 | .pick a b c => [a, b, c]
 | .alloc .. | .mkMap | .fail => []
 | .kJ k _ _ => [.var k]
 | .out k => [.var k]
 | .asgT x _ _ => [x]
 | .sft x => [x]
 | .build _ ps => ps.map (·.2.2)
 | .zI _ _ _ ps => ps.map (·.2)
 | .store _ a v => [a, v]
 | .bin _ x y | .wU _ _ x y | .uV _ x y | .zF _ _ _ x y | .zh _ x y | .tI _ _ _ x y | .qJ x y | .lookup _ _ x y _ | .append _ _ _ x y => [x, y]
 | .tF _ xs | .call _ xs | .yR _ xs => xs
 | .tM x xs | .invoke x _ _ xs | .vg _ x xs => x :: xs
 | .makeSlice _ _ _ _ l c _ => [l, c]
 | .tD x a b | .sq _ _ _ x a b => x :: (uk a ++ uk b)
 | .xf _ x a b c => x :: (uk a ++ uk b ++ uk c)
 | .mapUpdate _ m k v => [m, k, v]
def LOp.quiet : LOp → Bool
 | .mv (.loc _) _ => false
 | .mv .. | .pick .. | .build .. | .zI .. | .load .. | .nilCheck _ | .bin .. | .un .. | .wU .. | .isNil .. | .uV .. | .xd .. | .cvId _ | .vW _ | .vO _ | .vu .. | .tF .. | .tD .. | .xf .. |
  .fieldAddr .. | .field .. | .zF .. | .zh .. | .tI .. | .qJ .. | .lookup .. | .extract .. | .yR .. | .len .. | .vg .. | .tR .. | .u9 .. | .kS .. => true
 | .makeSlice _ _ _ _ _ _ m => !m
 | _ => false
def LOp.yt : LOp → Bool
 | .mv (.var _) p | .load _ _ _ p => p
 | _ => false
def LOp.yy : LOp → Bool
 | .mv (.loc _) _ => true
 | .alloc .. | .box .. | .mkMap | .asg _ | .store .. | .mapUpdate .. | .append .. => true
 | _ => false
def LOp.gives : LOp → List Opd
 | .mv x _ | .asg x | .box _ x | .store _ _ x => [x]
 | _ => []
def LOp.looks : LOp → Bool
 | .load .. | .lookup .. | .len 2 _ => true
 | _ => false
def wh (op : BinOp) (k : IntKind) (x y : Int) : Option LVal :=
 match op with
 | .add => some (.int k (k.wrap (x + y)))
 | .sub => some (.int k (k.wrap (x - y)))
 | .mul => some (.int k (k.wrap (x * y)))
 | .quo => if y = 0 then none else some (.int k (k.wrap (x.tdiv y)))
 | .rem => if y = 0 then none else some (.int k (x.tmod y))
 | .and => some (.int k (k.wrap (BitVec.ofInt k.bits x &&& BitVec.ofInt k.bits y).toNat))
 | .or => some (.int k (k.wrap (BitVec.ofInt k.bits x ||| BitVec.ofInt k.bits y).toNat))
 | .xor => some (.int k (k.wrap (BitVec.ofInt k.bits x ^^^ BitVec.ofInt k.bits y).toNat))
 | .eql => some (.bool (x == y))
 | .neq => some (.bool (x != y))
 | .lss => some (.bool (decide (x < y)))
 | .leq => some (.bool (decide (x ≤ y)))
 | .gtr => some (.bool (decide (x > y)))
 | .geq => some (.bool (decide (x ≥ y)))
 | _ => none
def sn (left : Bool) (k : IntKind) (x y : Int) : Option LVal :=
 if y < 0 then none
 else if left then some (.int k (k.wrap (x * 2 ^ (min y.toNat k.bits)))) else some (.int k (x.fdiv (2 ^ (min y.toNat k.bits))))
def wi (op : BinOp) (x y : List UInt8) : Option LVal :=
 match op with
 | .add => if x.length + y.length ≤ 9223372036854775807 then some (.str (x ++ y)) else none
 | .eql => some (.bool (x == y))
 | .neq => some (.bool !(x == y))
 | .lss => some (.bool (Op.bytesLess x y))
 | .leq => some (.bool (Op.bytesLess x y || x == y))
 | .gtr => some (.bool !(Op.bytesLess x y || x == y))
 | .geq => some (.bool !(Op.bytesLess x y))
 | _ => none
def uJ (op : BinOp) : LVal → LVal → Option LVal
 | .int k x, .int k' y =>
  match op with
  | .shl => sn true k x y
  | .shr => sn false k x y
  | op => if k = k' then wh op k x y else none
 | .str x, .str y => wi op x y
 | _, _ => none
def unL (op : UnOp) : LVal → Option LVal
 | .bool b => match op with | .not => some (.bool !b) | _ => none
 | .int k n => match op with
  | .neg => some (.int k (k.wrap (0 - n)))
  | .xor => some (.int k (k.wrap (BitVec.ofInt k.bits (if k.signed then -1 else k.max) ^^^ BitVec.ofInt k.bits n).toNat))
  | _ => none
 | _ => none
def eqS : LVal → LVal → Option Bool
 | .bool a, .bool b => some (a == b)
 | .int k a, .int k' b => if k = k' then some (a == b) else none
 | .str a, .str b => some (a == b)
 | _, _ => none
def yQ : List LVal → List LVal → Option Bool
 | [], [] => some true
 | x :: xs, y :: ys => (eqS x y).bind fun b => (yQ xs ys).map fun c => b && c
 | _, _ => none
def xX : Nat → LVal → Option Bool
 | 0, .vh => some true
 | 0, .ptr .. | 0, .ref _ => some false
 | 1, .vs b _ _ _ => some b
 | 1, .ms .. => some false
 | 2, .wq => some true
 | 2, .map _ => some false
 | 3, .x6 => some true
 | 3, .func .. => some false
 | 4, .yX => some true
 | 4, .iface .. => some false
 | _, _ => none
def sd (b : UInt8) : LVal := .int .u8 b.toNat
def zy (s : List UInt8) : List LVal := s.map sd
def pj : LVal → Option UInt8
 | .int .u8 n => some (UInt8.ofNat n.toNat)
 | _ => none
def wX : List LVal → Option (List UInt8)
 | [] => some []
 | v :: r => (pj v).bind fun b => (wX r).map fun l => b :: l
def wF (agg : Bool) (cs : List LVal) (off n : Nat) : Option LVal :=
 if off + n ≤ cs.length then
  if agg then some (.agg ((cs.drop off).take n)) else if n = 1 then cs[off]? else none
 else none
def uI : LVal → Option Int
 | .int _ n => some n
 | _ => none
def xw (i : Int) (len : Nat) : Option Nat := if 0 ≤ i ∧ i < (len : Int) then some i.toNat else none
def bound (v : Option LVal) (dflt most : Nat) : Option Nat :=
 match v with
 | none => some dflt
 | some (.int _ i) => if 0 ≤ i ∧ i ≤ (most : Int) then some i.toNat else none
 | some _ => none
def yL : List LVal → List (Nat × Nat × LVal) → Option (List LVal)
 | cs, [] => some cs
 | cs, (off, n, v) :: r =>
  if v.cells.length = n ∧ off + n ≤ cs.length then yL (cs.take off ++ v.cells ++ cs.drop (off + n)) r else none
def yM : List LVal → List (Nat × LVal) → Option (List LVal)
 | xs, [] => some xs
 | xs, (i, v) :: r => if i < xs.length then yM (xs.set i v) r else none
def x5 : LVal → Option (Nat × List LVal)
 | .vs _ _ n xs => some (n, xs)
 | .str s => some (1, zy s)
 | _ => none
def qg : LVal → LVal → Option Bool
 | .int k a, .int k' b => if k = k' then some (a == b) else none
 | .str a, .str b => some (a == b)
 | .bool a, .bool b => some (a == b)
 | _, _ => none
def rK (k : LVal) : List (LVal × LVal) → Option (Option LVal)
 | [] => some none
 | (k', v) :: r => (qg k k').bind fun b => if b then some (some v) else rK k r
def lG (k v : LVal) : List (LVal × LVal) → Option (List (LVal × LVal))
 | [] => some [(k, v)]
 | (k', u) :: r => (qg k k').bind fun b => if b then some ((k, v) :: r) else (lG k v r).map fun l => (k', u) :: l
def sl : LVal → Bool
 | .int .. | .str _ | .bool _ => true
 | _ => false
def xh : tt → LVal → Bool
 | .b, .bool _ => true
 | .i k, .int k' _ => decide (k' = k)
 | .s, .str _ => true
 | _, _ => false
def ym : List tt → List LVal → Bool
 | [], [] => true
 | k :: ks, v :: vs => xh k v && ym ks vs
 | _, _ => false
def mmL (mx : Bool) : LVal → LVal → Option LVal
 | .int k x, .int k' y => if k = k' then some (.int k (if mx then (if y > x then y else x) else (if y < x then y else x))) else none
 | _, _ => none
def sN (mx : Bool) : LVal → List LVal → Option LVal
 | x, [] => some x
 | x, y :: r => (mmL mx x y).bind fun z => sN mx z r
def xl : Nat := 140737488355328
end Go.L
namespace Go.L
abbrev xV := FuncId → List LVal → List zt → Option (LVal × Option (List zt))
def LVal.isAgg : LVal → Bool
 | .agg _ => true
 | _ => false
def LVal.arg : LVal → LVal
 | .vs b .full n xs => .vs b .sh n xs
 | v => v
def LVal.soft (v : LVal) : LVal := v.down.arg
def yO (zero v : LVal) : Bool := v.isAgg == zero.isAgg && v.cells.length == zero.cells.length && v.pf && v.cells.all LVal.plain
def RS.alloc (s : RS) (o : zt) : RS := { s with st := s.st ++ [o] }
def ye (s : RS) : Option (LVal × Option (List zt)) → Option (LVal × RS)
 | none => none
 | some (v, none) => some (v, s)
 | some (v, some st) => some (v, { s.yJ with st := st })
def RS.zR (s : RS) : List (Nat × Nat × Opd) → Option (List (Nat × Nat × LVal) × RS)
 | [] => some ([], s)
 | (off, n, o) :: r => (s.take o).bind fun x => (x.2.zR r).map fun y => ((off, n, x.1.arg) :: y.1, y.2)
def RS.zS (s : RS) : List (Nat × Opd) → Option (List (Nat × LVal) × RS)
 | [] => some ([], s)
 | (i, o) :: r => (s.take o).bind fun x => (x.2.zS r).map fun y => ((i, x.1.arg) :: y.1, y.2)
def RS.yt (s : RS) : List Opd → Option (List LVal)
 | [] => some []
 | o :: r => (s.zu o).bind fun v => (s.yt r).map fun l => v :: l
def RS.xe (s : RS) : Option Opd → Option (Option LVal)
 | none => some none
 | some o => (s.zu o).map some
def chunks (agg : Bool) (esz : Nat) : Nat → List LVal → List LVal
 | 0, _ => []
 | n + 1, cs => (if agg then .agg (cs.take esz) else cs.headD .undef) :: chunks agg esz n (cs.drop esz)
def xU (s : RS) (agg : Bool) (n : Nat) (a : LVal) (zu : Bool) : Option (LVal × RS) :=
 match a with
 | .ref v => if v.isAgg = agg ∧ v.cells.length = n then some (v, s) else none
 | .ptr id off => match s.st[id]? with
  | some (.cells t c) =>
   if off + n ≤ c.length then
    if agg then
     let r := (c.drop off).take n
     some (.agg (r.map LVal.soft), if r.any LVal.zr then { s with st := s.st.set id (.cells t (c.map LVal.stay)) } else s)
    else if n = 1 then
     (c[off]?).map fun v =>
      if v.zr then
       if zu then ((match v with | .vs b _ n xs => .vs b (.pk (.cell id off)) n xs | v => v), s)
       else (v.down, { s with st := s.st.set id (.cells t (c.map LVal.stay)) })
      else (v, s)
    else none
   else none
  | _ => none
 | _ => none
def xq (s : RS) (n : Nat) (a v : LVal) : Option RS :=
 match a with
 | .ptr id off => match s.st[id]? with
  | some (.cells t c) =>
   if off + n ≤ c.length ∧ v.cells.length = n ∧ (v.cells.all LVal.plain || (!v.isAgg && v.zr)) then
    let s' := if ((c.drop off).take n).any LVal.zr then s.yJ else s
    some { s' with st := s.st.set id (.cells t (c.take off ++ v.cells ++ c.drop (off + n))) }
   else none
  | _ => none
 | _ => none
def xu (s : RS) (e : TypeId) (esz bytes : Nat) (x : Opd) (m : Nat) (ys : List LVal) : Option (LVal × RS) :=
 (s.acquire x).bind fun r => match r.1 with
  | .vs b o n xs =>
   if ys.length = 0 then some (.vs b o n xs, r.2)
   else if (xs.length + ys.length) * bytes ≤ xl ∧ xs.length + ys.length ≤ xl ∧ m = esz then
    match o with
    | .full => if n = esz ∧ b = false then some (.vs false (.own e true) esz (xs ++ ys), r.2) else none
    | .own e' ex => if e' = e ∧ n = esz ∧ b = false then some (.vs false (.own e ex) esz (xs ++ ys), r.2) else none
    | .sh => if b = true then some (.vs false (.own e true) esz ys, r.2) else none
    | .pk _ => none
   else none
  | _ => none
def uj (k : Nat) (st : List zt) (u : LVal) : Option Nat :=
 match k, u with
 | 0, .str l => some l.length
 | 1, .vs _ _ _ xs => some xs.length
 | 1, .ms _ _ len _ _ => some len
 | 2, .wq => some 0
 | 2, .map id => match st[id]? with
  | some (.map es) => some es.length
  | _ => none
 | _, _ => none
def nb (st : List zt) (k : LVal) : LVal → Option (Option LVal)
 | .wq => some none
 | .map id => match st[id]? with
  | some (.map es) => rK k es
  | _ => none
 | _ => none
def sem (C : xV) (im : TypeId → String → Option FuncId) (impl : TypeId → TypeId → Bool) (s : RS) : LOp → Option (LVal × RS)
 | .mv x zu =>
  match x, zu with
  | .var k, true => (s.vars[k]?).bind fun v => match v with
   | .vs b (.own ..) n xs => some (.vs b (.pk (.var k)) n xs, s)
   | .tup _ => none
   | v => some (v, s)
  | .var k, false => s.take (.var k)
  | o, _ => s.yW o
 | .asg x => s.yW x
 | .pick c a b => (s.zu c).bind fun v => match v with
  | .bool t => s.take (if t then a else b)
  | _ => none
 | .alloc t cells => some (.ptr s.st.length 0, s.alloc (.cells t cells))
 | .box t x => (s.yW x).bind fun r => if r.1.cells.all LVal.plain || (!r.1.isAgg && r.1.zr) then some (.ptr r.2.st.length 0, r.2.alloc (.cells t r.1.cells)) else none
 | .build zero parts => (s.zR parts).bind fun r => if r.1.all (fun p => p.2.2.cells.all LVal.plain) then (yL zero r.1).map fun cs => (.agg cs, r.2) else none
 | .zI zero esz len parts => (s.zS parts).bind fun r => if zero.cells.length = esz ∧ r.1.all (fun p => yO zero p.2) then (yM (List.replicate len zero) r.1).map fun xs => (.vs false .full esz xs, r.2) else none
 | .load agg n a zu => (s.zu a).bind fun p => xU s agg n p zu
 | .store n a v => (s.yW v).bind fun r => (s.zu a).bind fun p => (xq r.2 n p r.1).map fun s => (.undef, s)
 | .nilCheck x => (s.zu x).bind fun v => match v with
  | .ptr .. | .ref _ => some (v, s)
  | _ => none
 | .bin op x y => (s.zu x).bind fun u => (s.zu y).bind fun v => (uJ op u v).map fun r => (r, s)
 | .un op x => (s.zu x).bind fun u => (unL op u).map fun r => (r, s)
 | .wU neq ks x y => (s.zu x).bind fun u => (s.zu y).bind fun v => match u, v with
  | .agg xs, .agg ys => if ym ks xs && ym ks ys then (yQ xs ys).map fun b => (.bool (b != neq), s) else none
  | _, _ => none
 | .isNil k neq x => (s.zu x).bind fun u => (xX k u).map fun b => (.bool (b != neq), s)
 | .uV neq x y => (s.zu x).bind fun u => (s.zu y).bind fun v => match u, v with
  | .bool a, .bool b => some (.bool ((a == b) != neq), s)
  | _, _ => none
 | .xd k x => (s.zu x).bind fun u => match u with
  | .int _ n => some (.int k (k.wrap n), s)
  | _ => none
 | .cvId x => (s.zu x).bind fun u => match u with
  | .str _ => some (u, s)
  | _ => none
 | .vW x => (s.zu x).bind fun u => match u with
  | .vs _ _ n xs => if n = 1 ∨ xs.length = 0 then (wX xs).map fun l => (.str l, s) else none
  | _ => none
 | .vO x => (s.zu x).bind fun u => match u with
  | .str l => if l.length ≤ xl then some (.vs false .sh 1 (zy l), s) else none
  | _ => none
 | .vu t x => (s.take x).bind fun r => if r.1.plain || r.1.isAgg then some (.iface t r.1, r.2) else none
 | .tF f caps => (s.takes caps).bind fun r => if r.1.all LVal.plain then some (.func f r.1, r.2) else none
 | .mkMap => some (.map s.st.length, s.alloc (.map []))
 | .ng x => (s.zu x).bind fun u => match u with
  | .int _ _ => some (.map s.st.length, s.alloc (.map []))
  | _ => none
 | .makeSlice zero e esz bytes l c mutb => (s.zu l).bind fun l => (s.zu c).bind fun c => match l, c with
  | .int _ l, .int _ c =>
   if 0 ≤ l ∧ l ≤ c ∧ c * bytes ≤ (xl : Int) ∧ c ≤ (xl : Int) ∧ zero.cells.length = esz then
    if mutb then (if l = c then some (.ms s.st.length 0 l.toNat esz zero.isAgg, s.alloc (.cells e (List.replicate l.toNat zero.cells).flatten)) else none)
    else some (.vs false (if l = c then .full else .own e true) esz (List.replicate l.toNat zero), s)
   else none
  | _, _ => none
 | .tD x lo hi => (s.zu x).bind fun u => (s.xe lo).bind fun lo => (s.xe hi).bind fun hi => match u with
  | .str l => (bound hi l.length l.length).bind fun h => (bound lo 0 h).map fun lo => (.str ((l.take h).drop lo), s)
  | _ => none
 | .xf esz x lo hi mx => (s.xe lo).bind fun lo => (s.xe hi).bind fun hi => (s.xe mx).bind fun mx => (s.zu x).bind fun u => match u with
  | .ms id off len e agg => if e = esz ∧ mx.isNone then (bound hi len len).bind fun h => (bound lo 0 h).map fun lo => (if lo = 0 ∨ lo < h then .ms id (off + lo * esz) (h - lo) e agg else .vs false .sh esz [], s) else none
  | _ => (s.take x).bind fun r => match r.1 with
   | .vs b o n xs => if n = esz ∨ b = true then (bound mx xs.length xs.length).bind fun m => (bound hi xs.length m).bind fun h => (bound lo 0 h).map fun lo =>
    (.vs b (if mx.isSome then (if m = h then .full else .sh) else if o = .full ∧ h = xs.length then .full else .sh) n ((xs.take h).drop lo), r.2) else none
   | _ => none
 | .sq n esz agg x lo hi => (s.zu x).bind fun u => (s.xe lo).bind fun lo => (s.xe hi).bind fun hi => match u with
  | .ptr id 0 => match s.st[id]? with
   | some (.cells _ c) =>
    if c.length = n * esz ∧ c.all LVal.plain ∧ LVal.pfs c then
     (bound hi n n).bind fun h => (bound lo 0 h).map fun lo => (.vs false (if h = n then .full else .sh) esz (((chunks agg esz n c).take h).drop lo), { s.yJ with st := s.st.set id .dead })
    else none
   | _ => none
  | _ => none
 | .fieldAddr off n agg x => (s.zu x).bind fun u => match u with
  | .ptr id o => some (.ptr id (o + off), s)
  | .ref (.agg cs) => (wF agg cs off n).map fun v => (.ref v, s)
  | _ => none
 | .field off n agg x => (s.zu x).bind fun u => match u with
  | .agg cs => (wF agg cs off n).map fun v => (v, s)
  | _ => none
 | .zF len esz agg x i => (s.zu x).bind fun u => (s.zu i).bind fun i => (uI i).bind fun i => (xw i len).bind fun i => match u with
  | .ptr id o => some (.ptr id (o + i * esz), s)
  | .ref (.agg cs) => (wF agg cs (i * esz) esz).map fun v => (.ref v, s)
  | _ => none
 | .zh esz x i => (s.zu i).bind fun i => (uI i).bind fun i => (s.take x).bind fun r => match r.1 with
  | .vs _ _ n xs => if n = esz then (xw i xs.length).bind fun i => (xs[i]?).map fun v => (.ref v, r.2) else none
  | .ms id off len e _ => if e = esz then (xw i len).map fun i => (.ptr id (off + i * esz), r.2) else none
  | _ => none
 | .tI len esz agg x i => (s.zu x).bind fun u => (s.zu i).bind fun i => (uI i).bind fun i => (xw i len).bind fun i => match u with
  | .agg cs => (wF agg cs (i * esz) esz).map fun v => (v, s)
  | _ => none
 | .qJ x i => (s.zu x).bind fun u => (s.zu i).bind fun i => (uI i).bind fun i => match u with
  | .str l => (xw i l.length).bind fun i => (l[i]?).map fun b => (sd b, s)
  | _ => none
 | .lookup kd zero x i ok => (s.zu x).bind fun u => (s.zu i).bind fun k => if xh kd k then
  (nb s.st k u).map fun r => (if ok then .tup [r.getD zero, .bool r.isSome] else r.getD zero, s) else none
 | .mapUpdate kd m k v => (s.zu m).bind fun u => (s.zu k).bind fun k => (s.take v).bind fun r => match u with
  | .map id => match s.st[id]? with
   | some (.map es) => if xh kd k ∧ r.1.cells.all LVal.plain then (lG k r.1 es).map fun es => (.undef, { r.2 with st := r.2.st.set id (.map es) }) else none
   | _ => none
  | _ => none
 | .tR t zero x ok => (s.zu x).bind fun u => match u with
  | .yX => if ok then some (.tup [zero, .bool false], s) else none
  | .iface t' v => if t' = t then some (if ok then .tup [v, .bool true] else v, s) else if ok then some (.tup [zero, .bool false], s) else none
  | _ => none
 | .extract x i => match x with
  | .loc j => (s.rs[j]?).bind fun v => match v with
   | .tup l => (l[i]?).bind fun v => match v with
    | .tup _ => none
    | v => if v.zr then some (v, { s with rs := s.rs.set j (.tup (l.set i .undef)) }) else some (v, s)
   | _ => none
  | .var k => (s.vars[k]?).bind fun v => match v with
   | .tup l => (l[i]?).bind fun v => match v with
    | .tup _ => none
    | v => if v.zr then none else some (v, s)
   | _ => none
  | _ => none
 | .call f args => (s.takes args).bind fun r => ye r.2 (C f (r.1.map LVal.arg) r.2.st)
 | .yR f args => (s.takes args).bind fun r => if LVal.pfs r.1 then (C f (r.1.map LVal.arg) []).bind fun o => match o with
  | (v, none) => some (v, r.2)
  | _ => none else none
 | .tM x args => (s.zu x).bind fun u => match u with
  | .func f caps => (s.takes args).bind fun r => ye r.2 (C f (r.1.map LVal.arg ++ caps) r.2.st)
  | _ => none
 | .invoke x name tbl args => (s.zu x).bind fun u => match u with
  | .iface t v => (tbl.lookup t).bind fun f => (s.takes args).bind fun r => ye r.2 (C f (v :: r.1.map LVal.arg) r.2.st)
  | _ => none
 | .len k x => (s.zu x).bind fun u => (uj k s.st u).map fun (n : Nat) => (.int .i64 (n : Int), s)
 | .append e esz bytes x y => (s.zu y).bind fun v => (x5 v).bind fun ys => xu s e esz bytes x ys.1 ys.2
 | .vg mx x r => (s.zu x).bind fun u => (s.yt r).bind fun l => match u with
  | .int k n => (sN mx (.int k n) l).map fun v => (v, s)
  | _ => none
 | .kJ k esz agg => (s.vars[k]?).bind fun u => match u with
  | .vs false (.own e true) n xs =>
   if n = esz ∧ xs.all (fun v => v.isAgg == agg) then
    let m := LVal.ms s.st.length 0 xs.length esz agg
    some (m, { s.yJ with vars := s.vars.set k m, st := s.st ++ [.cells e (xs.flatMap LVal.cells)] })
   else none
  | _ => none
 | .out k => (s.vars[k]?).bind fun u => match u with
  | .vs b (.own e x) n xs => some (.vs b (.own e x) n xs, { s.yJ with vars := s.vars.set k .undef })
  | _ => s.take (.var k)
 | .asgT x esz agg => (s.yW x).bind fun r => match r.1 with
  | .vs false (.own e true) n xs =>
   if n = esz ∧ xs.all (fun v => v.isAgg == agg) then some (.ms r.2.st.length 0 xs.length esz agg, { r.2.yJ with st := r.2.st ++ [.cells e (xs.flatMap LVal.cells)] }) else none
  | .vs _ (.own ..) _ _ => none
  | v => some (v, r.2)
 | .sft x => (s.take x).map fun r => (r.1.arg, r.2)
 | .clear zero x => (s.zu x).bind fun u => match u with
  | .ms id off len esz _ => match s.st[id]? with
   | some (.cells t c) =>
    if zero.length = esz ∧ off + len * esz ≤ c.length ∧ zero.all LVal.plain then
     some (.undef, { s.yJ with st := s.st.set id (.cells t (c.take off ++ (List.replicate len zero).flatten ++ c.drop (off + len * esz))) })
    else none
   | _ => none
  | _ => none
 | .kS n x => (s.take x).bind fun r => match r.1 with
  | .vs false _ _ xs => if 0 < n ∧ n ≤ xs.length then some (.ref (.agg ((xs.take n).flatMap LVal.cells)), r.2) else none
  | _ => none
 | .u9 t x => (s.zu x).bind fun u => match u with
  | .iface t' v => if impl t t' then some (.iface t' v, s) else none
  | _ => none
 | .fail => none
section
variable (C : xV) (im : TypeId → String → Option FuncId) (impl : TypeId → TypeId → Bool)
def RS.put (s : RS) (o : zj) (v : LVal) : RS :=
 match o.dst with
 | none => { s with rs := s.rs.set o.ix v }
 | some k => s.xp k v.yT
def step (s : RS) (o : zj) : Option RS :=
 match o.guard with
 | none => (sem C im impl s o.op).map fun r => r.2.put o r.1
 | some (g, want) => (s.zu g).bind fun v => match v with
  | .bool b => if b = want then (sem C im impl s o.op).map fun r => r.2.put o r.1 else some (s.put o (.tup []))
  | .tup _ => some (s.put o (.tup []))
  | _ => none
def yC : List zj → RS → Option RS
 | [], s => some s
 | o :: r, s => (step C im impl s o).bind (yC r)
def zt.settle : zt → zt
 | .cells t c => .cells t (c.map LVal.stay)
 | o => o
def RS.settle (s : RS) : RS := { s with vars := s.vars.map LVal.stay, st := s.st.map zt.settle }
def LVal.settled : LVal → Bool
 | .vs _ (.own _ x) _ _ => !x
 | _ => true
def yx (strict : Bool) (s : RS) : LOp → Bool
 | .load _ n a _ => match s.zu a with
  | some (.ptr id off) => match s.st[id]? with
   | some (.cells _ c) => c.all LVal.settled && ((c.drop off).take n).all (fun v => v.plain || (!strict && v.zr))
   | _ => false
  | _ => true
 | _ => true
def LVal.free : LVal → Bool
 | .vs _ (.own ..) _ _ | .vs _ (.pk _) _ _ => false
 | _ => true
def yg (s : RS) : Option Nat → Bool
 | none => true
 | some k => (s.vars[k]?).all LVal.free
def yK (s : RS) (tn : List (Opd × Nat)) : LOp → Bool
 | .store n a _ => match s.zu a with
  | some (.ptr id off) => tn.all fun p => match s.zu p.1 with
   | some (.ptr id' off') => id != id' || decide (off + n ≤ off') || decide (off' + p.2 ≤ off)
   | _ => true
  | _ => false
 | _ => true
def yE (s : RS) (strict : Bool) : LOp → Bool
 | .mv (.var _) true => true
 | .append _ _ _ _ y => (s.zu y).any (LVal.calm false)
 | op => op.zQ.all fun x => (s.zu x).any (LVal.calm strict)
def x8 (s : RS) (o : zj) : Option (LVal × RS) :=
 if o.op.quiet || o.op.yy then
  if yE s o.strict o.op && yx o.strict s o.op && yK s o.tn o.op then sem C im impl s o.op else none
 else sem C im impl s o.op
def zj.fix (o : zj) (v : LVal) : LVal := if o.op.yt then v else v.stay.yT
def ya (s : RS) (o : zj) : Option RS :=
 if o.op.quiet && !yg s o.dst then none
 else match o.guard with
 | none => (x8 C im impl s o).map fun r => r.2.put o (o.fix r.1)
 | some (g, want) => (s.zu g).bind fun v => match v with
  | .bool b => if b = want then (x8 C im impl s o).map fun r => r.2.put o (o.fix r.1) else some (s.put o (.tup []))
  | .tup [] => some (s.put o (.tup []))
  | _ => none
def zW : List zj → RS → Option RS
 | [], s => some s
 | o :: r, s => (ya C im impl s o).bind (zW r)
inductive yS where
 | normal
 | exit (id : Nat)
 | ret
 deriving DecidableEq
def kill (ks : List Nat) (vars : List LVal) : List LVal := ks.foldl (fun l k => l.set k .undef) vars
def yP (n : Nat) (ks : List Nat) (r : yS × RS) : Option (yS × RS) :=
 match r.1 with
 | .normal =>
  let vars := kill ks r.2.vars
  if LVal.zb n vars ∧ (r.2.st.take n).all (zt.within n) ∧ n ≤ r.2.st.length then some (.normal, { vars := vars, st := r.2.st.take n, rs := [] }) else none
 | _ => some r
def tl (body : RS → Option (yS × RS)) : Nat → RS → Option (yS × RS)
 | 0, _ => none
 | n + 1, s => (body s).bind fun r => match r.1 with
  | .normal => tl body n r.2
  | _ => some r
def yB (fuel : Nat) : zv → RS → Option (yS × RS)
 | .skip, s => some (.normal, s)
 | .region n ops draw, s => (if draw then zW C im impl ops { s.settle with rs := List.replicate n .undef } else yC C im impl ops { s with rs := List.replicate n .undef }).map fun s => (.normal, { s with rs := [] })
 | .seq a b, s => (yB fuel a s).bind fun r => match r.1 with
  | .normal => yB fuel b r.2
  | _ => some r
 | .cond c a b, s => (s.zu c).bind fun v => match v with
  | .bool t => if t then yB fuel a s else yB fuel b s
  | _ => none
 | .block id b, s => (yB fuel b s).map fun r => if r.1 = .exit id then (.normal, r.2) else r
 | .loop b, s => tl (yB fuel b) fuel s
 | .exit id, s => some (.exit id, s)
 | .ret, s => some (.ret, s)
 | .dead, _ => none
 | .zX ks b, s => (yB fuel b s).bind fun r => yP s.st.length ks r
end
inductive zY where
 | pure | pureF | trim | yb
 deriving DecidableEq
def zY.zH : zY → Bool
 | .pure | .pureF => true
 | _ => false
inductive qo where
 | var (k : Nat)
 | cell (k n : Nat) (agg : Bool)
structure zJ where
 nparams : Nat
 init : List (Option Nat)
 code : zv
 results : List qo
 mode : zY
inductive LDef where
 | fn (f : zJ)
 | rC (h : List LVal → List zt → Option (LVal × Option (List zt)))
def zc (init : List (Option Nat)) (args : List LVal) : List LVal := init.map fun o => (o.bind (args[·]?)).getD .undef
def uS (s : RS) : qo → Option (LVal × RS)
 | .var k => (s.vars[k]?).map fun v => (v, { s with vars := s.vars.set k .undef })
 | .cell k n agg => (s.vars[k]?).bind fun p => match p with
  | .ptr id off => match s.st[id]? with
   | some (.cells t c) => (wF agg (c.map LVal.soft) off n).map fun v => (v, { s with st := s.st.set id (.cells t (c.map LVal.stay)) })
   | _ => none
  | _ => none
def LVal.vE : LVal → Bool
 | .tup _ => true
 | _ => false
def xY (s : RS) (r : qo) : Option (LVal × RS) := (uS s r).bind fun v => if v.1.vE then none else some v
def xB (s : RS) : List qo → Option (List LVal × RS)
 | [] => some ([], s)
 | r :: rs => (xY s r).bind fun v => (xB v.2 rs).map fun l => (v.1 :: l.1, l.2)
def vP (s : RS) : List qo → Option (LVal × RS)
 | [r] => xY s r
 | rs => (xB s rs).map fun p => (.tup p.1, p.2)
def qu (st : List zt) (id off len esz : Nat) (agg : Bool) : LVal := match st[id]? with
 | some (.cells _ c) => if off + len * esz ≤ c.length ∧ c.all LVal.plain ∧ LVal.pfs c ∧ (agg || esz == 1) then .vs false .sh esz (chunks agg esz len ((c.drop off).take (len * esz))) else .undef
 | _ => .undef
def qv (st : List zt) : List LVal → List LVal
 | [] => []
 | .ms id off len esz agg :: r => qu st id off len esz agg :: r
 | v :: r => v :: qv st r
def freeze (st : List zt) : LVal → LVal
 | .tup l => .tup (qv st l)
 | .ms id off len esz agg => qu st id off len esz agg
 | v => v
def vD (m : zY) (st : List zt) (v : LVal) (st' : List zt) : Option (LVal × Option (List zt)) :=
 match m with
 | .pure => if v.pf then some (v, none) else none
 | .pureF => let u := freeze st' v; if u.pf then some (u, none) else none
 | .trim => if v.within st.length ∧ (st'.take st.length).all (zt.within st.length) ∧ st.length ≤ st'.length then some (v, some (st'.take st.length)) else none
 | .yb => some (v, some st')
def xn (code : zv → RS → Option (yS × RS)) (lf : zJ) (args : List LVal) (st : List zt) : Option (LVal × Option (List zt)) :=
 if args.length = lf.nparams ∧ (lf.mode.zH = true → LVal.pfs args = true) then
  (code lf.code { vars := zc lf.init args, st := if lf.mode.zH then [] else st, rs := [] }).bind fun r => match r.1 with
   | .exit _ => none
   | _ => (vP r.2 lf.results).bind fun v => vD lf.mode st v.1 v.2.st
 else none
structure Tbl where
 fns : FuncId → Option LDef
 im : TypeId → String → Option FuncId
 impl : TypeId → TypeId → Bool
def yG (T : Tbl) : Nat → xV
 | 0 => fun _ _ _ => none
 | n + 1 => fun f args st => match T.fns f with
  | none => none
  | some (.rC h) => h args st
  | some (.fn lf) => xn (yB (yG T n) T.im T.impl n) lf args st
end Go.L
namespace Go.L
open Go
mutual
inductive V (w : World) (S : Nat → Nat → Prop) : List Nat → LVal → Value → Prop
 | undef {ρ cv} : V w S ρ .undef cv
 | bool {ρ} (b) : V w S ρ (.bool b) (.bool b)
 | int {ρ} (k n) : V w S ρ (.int k n) (.int k n)
 | str {ρ} (s) : V w S ρ (.str s) (.string ⟨⟨s⟩⟩)
 | ptr {ρ id off b} : ρ[id]? = some b → V w S ρ (.ptr id off) (.pointer (some ⟨b, off, none⟩))
 | ref {ρ v b off} : Row w S b off v.cells → V w S ρ (.ref v) (.pointer (some ⟨b, off, none⟩))
 | vh {ρ} : V w S ρ .vh (.pointer none)
 | oF {ρ o n} : V w S ρ (.vs true o n []) (.slice none 0 0)
 | vs {ρ o n xs b off cap} : xs.length ≤ cap → cap ≤ maxLen → (o = .full → cap = xs.length) → (∀ x ∈ xs, x.cells.length = n) → Row w S b off (xs.flatMap LVal.cells) →
  V w S ρ (.vs false o n xs) (.slice (some ⟨b, off, none⟩) xs.length cap)
 | vz {ρ o n} {ad : Addr} : V w S ρ (.vs false o n []) (.slice (some ad) 0 0)
 | ms {ρ id b off len esz agg cap} : ρ[id]? = some b → len ≤ cap → cap ≤ maxLen → V w S ρ (.ms id off len esz agg) (.slice (some ⟨b, off, none⟩) len cap)
 | map {ρ id b} : ρ[id]? = some b → V w S ρ (.map id) (.map (some b))
 | wq {ρ} : V w S ρ .wq (.map none)
 | func {ρ f caps cs} : VL w S ρ caps cs → caps.all LVal.plain = true → V w S ρ (.func f caps) (.func (.func f) #[] ⟨cs⟩)
 | x6 {ρ} : V w S ρ .x6 .nilFunc
 | iface {ρ t v x} : V w S ρ v x → (v.plain = true ∨ v.isAgg = true) → V w S ρ (.iface t v) (.iface t x)
 | yX {ρ} : V w S ρ .yX .nilIface
 | agg {ρ cs xs} : VL w S ρ cs xs → cs.all LVal.plain = true → V w S ρ (.agg cs) (.agg ⟨xs⟩)
 | tup {ρ l xs} : VL w S ρ l xs → l.all (fun v => v.plain || v.isAgg) = true → V w S ρ (.tup l) (.tuple ⟨xs⟩)
inductive VL (w : World) (S : Nat → Nat → Prop) : List Nat → List LVal → List Value → Prop
 | nil {ρ} : VL w S ρ [] []
 | cons {ρ v c vs cs} : V w S ρ v c → VL w S ρ vs cs → VL w S ρ (v :: vs) (c :: cs)
inductive Row (w : World) (S : Nat → Nat → Prop) : Nat → Nat → List LVal → Prop
 | nil {b off} : Row w S b off []
 | cons {b off v c r} : S b off → w.cell? ⟨b, off, none⟩ = some c → V w S [] v c → v.plain = true → Row w S b (off + 1) r → Row w S b off (v :: r)
end
def Ext (S : Nat → Nat → Prop) (w : World) (S' : Nat → Nat → Prop) (w' : World) : Prop :=
 ∀ b o, S b o → S' b o ∧ w'.cell? ⟨b, o, none⟩ = w.cell? ⟨b, o, none⟩
def zB (ρ ρ' : List Nat) : Prop := ∀ (id b : Nat), ρ[id]? = some b → ρ'[id]? = some b
theorem Ext.refl (S w) : Ext S w S w := fun _ _ h => ⟨h, rfl⟩
theorem Ext.trans {S w S' w' S'' w''} (h : Ext S w S' w') (k : Ext S' w' S'' w'') : Ext S w S'' w'' :=
 fun b o hs => let ⟨h1, h2⟩ := h b o hs; let ⟨k1, k2⟩ := k b o h1; ⟨k1, k2.trans h2⟩
theorem zB.refl (ρ) : zB ρ ρ := fun _ _ h => h
theorem zB.nil (ρ) : zB [] ρ := fun _ _ h => by simp at h
theorem zB.trans {a b c} (h : zB a b) (k : zB b c) : zB a c := fun i x e => k i x (h i x e)
theorem zB.app (ρ l : List Nat) : zB ρ (ρ ++ l) := fun id b h => by
 rw [List.getElem?_append_left]; exact h
 exact (List.getElem?_eq_some_iff.1 h).1
section mono
variable {w w' : World} {S S' : Nat → Nat → Prop}
theorem V.mono_all (he : Ext S w S' w') {ρ v cv} (h : V w S ρ v cv) : ∀ ρ', zB ρ ρ' → V w' S' ρ' v cv := by
 refine V.rec (motive_1 := fun ρ v cv _ => ∀ ρ', zB ρ ρ' → V w' S' ρ' v cv)
  (motive_2 := fun ρ l cs _ => ∀ ρ', zB ρ ρ' → VL w' S' ρ' l cs)
  (motive_3 := fun b off l _ => Row w' S' b off l) ?_ ?_ ?_ ?_ ?_ ?_ ?_ ?_ ?_ ?_ ?_ ?_ ?_ ?_ ?_ ?_ ?_ ?_ ?_ ?_ ?_ ?_ ?_ h
 ·intros; exact .undef
 ·intros; exact .bool _
 ·intros; exact .int _ _
 ·intros; exact .str _
 ·intro ρ id off b h ρ' hr; exact .ptr (hr _ _ h)
 ·intro ρ v b off _ ih ρ' hr; exact .ref ih
 ·intros; exact .vh
 ·intros; exact .oF
 ·intro ρ o n xs b off cap h1 h2 h3 h4 _ ih ρ' hr; exact .vs h1 h2 h3 h4 ih
 ·intros; exact .vz
 ·intro ρ id b off len esz agg cap h h1 h2 ρ' hr; exact .ms (hr _ _ h) h1 h2
 ·intro ρ id b h ρ' hr; exact .map (hr _ _ h)
 ·intros; exact .wq
 ·intro ρ f caps cs _ hp ih ρ' hr; exact .func (ih ρ' hr) hp
 ·intros; exact .x6
 ·intro ρ t v x _ hp ih ρ' hr; exact .iface (ih ρ' hr) hp
 ·intros; exact .yX
 ·intro ρ cs xs _ hp ih ρ' hr; exact .agg (ih ρ' hr) hp
 ·intro ρ l xs _ hp ih ρ' hr; exact .tup (ih ρ' hr) hp
 ·intros; exact .nil
 ·intro ρ v c vs cs _ _ i1 i2 ρ' hr; exact .cons (i1 ρ' hr) (i2 ρ' hr)
 ·intros; exact .nil
 ·intro b off v c r hs hc _ hp _ i1 i2
  have := he _ _ hs
  exact .cons this.1 (this.2.trans hc) (i1 [] (zB.refl _)) hp i2
theorem V.mono {ρ ρ' v cv} (h : V w S ρ v cv) (he : Ext S w S' w') (hr : zB ρ ρ') : V w' S' ρ' v cv := V.mono_all he h ρ' hr
theorem VL.mono {ρ ρ' l cs} (h : VL w S ρ l cs) (he : Ext S w S' w') (hr : zB ρ ρ') : VL w' S' ρ' l cs := by
 induction l generalizing cs with
 | nil => cases h; exact .nil
 | cons v l ih => cases h with | cons h1 h2 => exact .cons (h1.mono he hr) (ih h2)
end mono
theorem VL.length {w S ρ l cs} (h : VL w S ρ l cs) : l.length = cs.length := by
 induction l generalizing cs with
 | nil => cases h; rfl
 | cons v l ih => cases h with | cons h1 h2 => simp [ih h2]
theorem VL.get {w S ρ l cs} (h : VL w S ρ l cs) : ∀ (i : Nat) (v : LVal), l[i]? = some v → ∃ c, cs[i]? = some c ∧ V w S ρ v c := by
 induction l generalizing cs with
 | nil => intro i v hv; simp at hv
 | cons x l ih =>
  cases h with
  | cons h1 h2 =>
   intro i v hv
   cases i with
   | zero => simp at hv; subst hv; exact ⟨_, rfl, h1⟩
   | succ i => simpa using ih h2 i v (by simpa using hv)
theorem VL.of {w S ρ} : ∀ {l : List LVal} {cs : List Value}, l.length = cs.length → (∀ (i : Nat) (v : LVal), l[i]? = some v → ∃ c, cs[i]? = some c ∧ V w S ρ v c) → VL w S ρ l cs
 | [], [], _, _ => .nil
 | v :: l, c :: cs, hl, h => by
  obtain ⟨c', e, hv⟩ := h 0 v rfl
  simp at e; subst e
  exact .cons hv (VL.of (by simpa using hl) (fun i u hu => by simpa using h (i + 1) u (by simpa using hu)))
theorem VL.append {w S ρ l l' cs cs'} (h : VL w S ρ l cs) (h' : VL w S ρ l' cs') : VL w S ρ (l ++ l') (cs ++ cs') := by
 induction l generalizing cs with
 | nil => cases h; exact h'
 | cons v l ih => cases h with | cons h1 h2 => exact .cons h1 (ih h2)
def Cells (w : World) (S T : Nat → Nat → Prop) (b off : Nat) (l : List LVal) : Prop :=
 ∀ (j : Nat) (v : LVal), l[j]? = some v → T b (off + j) ∧ ∃ c, w.cell? ⟨b, off + j, none⟩ = some c ∧ V w S [] v c ∧ v.plain = true
theorem Row.cells {w S b off l} (h : Row w S b off l) : Cells w S S b off l := by
 induction l generalizing off with
 | nil => intro j v hv; simp at hv
 | cons x l ih =>
  cases h with
  | cons hs hc hv hp hr =>
   intro j v hj
   cases j with
   | zero => simp at hj; subst hj; exact ⟨hs, _, hc, hv, hp⟩
   | succ j =>
    have := ih hr j v (by simpa using hj)
    rwa [show off + 1 + j = off + (j + 1) by omega] at this
theorem Cells.row {w S b} : ∀ {l : List LVal} {off : Nat}, Cells w S S b off l → Row w S b off l
 | [], _, _ => .nil
 | v :: l, off, h => by
  obtain ⟨hs, c, hc, hv, hp⟩ := h 0 v rfl
  refine .cons hs hc hv hp (Cells.row fun j u hu => ?_)
  have := h (j + 1) u (by simpa using hu)
  rwa [show off + (j + 1) = off + 1 + j by omega] at this
theorem Cells.weak {w S T T' b off l} (h : Cells w S T b off l) (ht : ∀ b o, T b o → T' b o) : Cells w S T' b off l :=
 fun j v hj => let ⟨h1, h2⟩ := h j v hj; ⟨ht _ _ h1, h2⟩
theorem Cells.sub {w S T b off l} (h : Cells w S T b off l) (i n : Nat) : Cells w S T b (off + i) ((l.drop i).take n) := by
 intro j v hj
 have hj' : l[i + j]? = some v := by
  rw [List.getElem?_take] at hj
  split at hj
  ·simpa using hj
  ·cases hj
 have := h (i + j) v hj'
 rwa [show off + (i + j) = off + i + j by omega] at this
inductive qn where
 | var (k : Nat)
 | cell (id off : Nat)
 | rs (i : Nat)
 | yd
 deriving DecidableEq
abbrev sA := qn × Nat
inductive Cl where
 | ro
 | box (id : Nat)
 | arr (l : sA) (e : Nat) (x : Bool)
def tO (P : Program) (w : World) (S : Nat → Nat → Prop) (G : Nat → Cl) (l : sA) (e : TypeId) (x : Bool) (n : Nat) (xs : List LVal) (cv : Value) : Prop :=
 ∃ b cap cur, cv = .slice (some ⟨b, 0, none⟩) xs.length cap ∧ w.heap[b]? = some (.cells cur e (0, 0)) ∧ xs.length ≤ cap ∧ cap ≤ maxLen ∧ cur.size = cap * n ∧
  P.cellsOf e = n ∧ 0 < n ∧ G b = .arr l (xs.length * n) x ∧ (∀ y ∈ xs, y.cells.length = n) ∧ Cells w S (fun b o => x = false → S b o) b 0 (xs.flatMap LVal.cells)
def At1 (P : Program) (w : World) (S : Nat → Nat → Prop) (G : Nat → Cl) (ρ : List Nat) (pkok : Loc → Nat → List LVal → Value → Prop) (l : sA) (v : LVal) (cv : Value) : Prop :=
 match v with
 | .vs b (.own e x) n xs => b = false ∧ tO P w S G l e x n xs cv
 | .vs b (.pk p) n xs => b = false ∧ pkok p n xs cv
 | v => V w S ρ v cv
def At (P : Program) (w : World) (S : Nat → Nat → Prop) (G : Nat → Cl) (ρ : List Nat) (pkok : Loc → Nat → List LVal → Value → Prop) (b : qn) (v : LVal) (cv : Value) : Prop :=
 match v with
 | .tup l => ∃ cs : List Value, cv = .tuple ⟨cs⟩ ∧ l.length = cs.length ∧ ∀ (c : Nat) (u : LVal), l[c]? = some u → (∀ l', u ≠ .tup l') ∧ ∃ cu, cs[c]? = some cu ∧ At1 P w S G ρ (fun _ _ _ _ => False) (b, c + 1) u cu
 | v => At1 P w S G ρ pkok (b, 0) v cv
def yr : Loc → Nat → List LVal → Value → Prop := fun _ _ _ _ => False
def ti (P : Program) (w : World) (S : Nat → Nat → Prop) (G : Nat → Cl) (ρ : List Nat) (id : Nat) : zt → Prop
 | .dead => True
 | .cells et c => ∃ b cc, ρ[id]? = some b ∧ w.heap[b]? = some (.cells cc et (0, 0)) ∧ G b = .box id ∧ c.length ≤ cc.size ∧
  ∀ (o : Nat) (v : LVal), c[o]? = some v → (v.plain = true ∨ v.zr = true) ∧ ∃ cv, cc[o]? = some cv ∧ At1 P w S G ρ yr (.cell id o, 0) v cv
 | .map es => ∃ b ces clock, ρ[id]? = some b ∧ w.heap[b]? = some (.map ces clock) ∧ G b = .box id ∧ ces.size = es.length ∧ MapKept.Stamped ces clock ∧
  ∀ (i : Nat) (e : LVal × LVal), es[i]? = some e → ∃ ce : MapEntry, ces[i]? = some ce ∧ V w S [] e.1 ce.key ∧ sl e.1 = true ∧ V w S ρ e.2 ce.val ∧ (e.2.plain = true ∨ e.2.isAgg = true)
def tm (vm : List Nat) (ρ : List Nat) (σ : RS) (a : Act) (w : World) : Loc → Nat → List LVal → Value → Prop
 | .var k, n, xs, cv => ∃ e x t, σ.vars[k]? = some (.vs false (.own e x) n xs) ∧ vm[k]? = some t ∧ a.tmps.getD t undef = cv
 | .cell id off, n, xs, cv => ∃ e x ty c b cc et fr, σ.st[id]? = some (.cells ty c) ∧ c[off]? = some (.vs false (.own e x) n xs) ∧ ρ[id]? = some b ∧ w.heap[b]? = some (.cells cc et fr) ∧ cc[off]? = some cv
structure SWf (w : World) (S : Nat → Nat → Prop) (G : Nat → Cl) : Prop where
 lt : ∀ b o, S b o → b < w.heap.size
 fresh : ∀ b, w.heap.size ≤ b → G b = .ro
 box : ∀ b o id, S b o → G b ≠ .box id
 arr : ∀ b o l e x, S b o → G b = .arr l e x → x = false ∧ o < e
structure Rel (P : Program) (vm : List Nat) (lm : List (Option Nat)) (ρ : List Nat) (S : Nat → Nat → Prop) (G : Nat → Cl) (σ : RS) (a : Act) (w : World) : Prop where
 defers : a.defers = []
 vsz : ∀ (k t : Nat), vm[k]? = some t → t < a.tmps.size
 lsz : ∀ (i t : Nat), lm[i]? = some (some t) → t < a.tmps.size
 swf : SWf w S G
 len : ρ.length = σ.st.length
 rho : ∀ (id b : Nat), ρ[id]? = some b → b < w.heap.size
 st : ∀ (id : Nat) (o : zt), σ.st[id]? = some o → ti P w S G ρ id o
 vars : ∀ (k : Nat) (v : LVal), σ.vars[k]? = some v → ∃ t, vm[k]? = some t ∧ t < a.tmps.size ∧ At P w S G ρ yr (.var k) v (a.tmps.getD t undef)
 rs : ∀ (i : Nat) (v : LVal), σ.rs[i]? = some v → v = .undef ∨ ∃ t, lm[i]? = some (some t) ∧ t < a.tmps.size ∧ At P w S G ρ (tm vm ρ σ a w) (.rs i) v (a.tmps.getD t undef)
structure Pr (w : World) (S : Nat → Nat → Prop) (G : Nat → Cl) (ρ : List Nat) (w' : World) (S' : Nat → Nat → Prop) (G' : Nat → Cl) (ρ' : List Nat) : Prop where
 os : w'.os = w.os
 tape : w'.tape = w.tape
 output : w'.output = w.output
 size : w.heap.size ≤ w'.heap.size
 ext : Ext S w S' w'
 rho : zB ρ ρ'
 frame : ∀ b, b < w.heap.size → G b = .ro → w'.heap[b]? = w.heap[b]? ∧ G' b = .ro
 tC : ∀ b o, S' b o → S b o ∨ w.heap.size ≤ b ∨ G b ≠ .ro
theorem Pr.refl (w S G ρ) : Pr w S G ρ w S G ρ := ⟨rfl, rfl, rfl, Nat.le_refl _, Ext.refl _ _, zB.refl _, fun _ _ h => ⟨rfl, h⟩, fun _ _ h => .inl h⟩
theorem Pr.trans {w S G ρ w1 S1 G1 ρ1 w2 S2 G2 ρ2} (h : Pr w S G ρ w1 S1 G1 ρ1) (k : Pr w1 S1 G1 ρ1 w2 S2 G2 ρ2) : Pr w S G ρ w2 S2 G2 ρ2 where
 os := k.os.trans h.os
 tape := k.tape.trans h.tape
 output := k.output.trans h.output
 size := Nat.le_trans h.size k.size
 ext := h.ext.trans k.ext
 rho := h.rho.trans k.rho
 frame b hb hg := by
  obtain ⟨h1, h2⟩ := h.frame b hb hg
  obtain ⟨k1, k2⟩ := k.frame b (Nat.lt_of_lt_of_le hb h.size) h2
  exact ⟨k1.trans h1, k2⟩
 tC b o hs := by
  rcases k.tC b o hs with h1 | h1 | h1
  ·exact h.tC b o h1
  ·exact .inr (.inl (Nat.le_trans h.size h1))
  ·by_cases hb : b < w.heap.size
   ·by_cases hg : G b = .ro
    ·exact absurd (h.frame b hb hg).2 h1
    ·exact .inr (.inr hg)
   ·exact .inr (.inl (by omega))
end Go.L
namespace Go.L
open Go
variable {P : Program} {vm : List Nat} {lm : List (Option Nat)} {ρ ρ' : List Nat} {S S' : Nat → Nat → Prop} {G G' : Nat → Cl} {σ : RS} {a : Act} {w w' : World}
def LVal.simple : LVal → Bool
 | .vs _ (.own ..) _ _ | .vs _ (.pk _) _ _ | .tup _ => false
 | _ => true
theorem LVal.zO {v : LVal} (h : v.plain = true) : v.simple = true := by
 cases v with
 | vs b o n xs => cases o <;> simp_all [LVal.plain, LVal.simple]
 | _ => simp_all [LVal.plain, LVal.simple]
theorem LVal.qk {v : LVal} (h : v.isAgg = true) : v.simple = true := by cases v <;> simp_all [LVal.isAgg, LVal.simple]
theorem At1.simple {pk l v cv} (hs : v.simple = true) : At1 P w S G ρ pk l v cv ↔ V w S ρ v cv := by
 cases v with
 | vs b o n xs => cases o <;> simp_all [LVal.simple, At1]
 | _ => simp_all [LVal.simple, At1]
theorem At.simple {pk b v cv} (hs : v.simple = true) : At P w S G ρ pk b v cv ↔ V w S ρ v cv := by
 cases v with
 | vs b o n xs => cases o <;> simp_all [LVal.simple, At, At1]
 | _ => simp_all [LVal.simple, At, At1]
theorem At.nt {pk b v cv} (h : ∀ l, v ≠ .tup l) : At P w S G ρ pk b v cv ↔ At1 P w S G ρ pk (b, 0) v cv := by
 cases v with
 | tup l => exact absurd rfl (h l)
 | _ => exact Iff.rfl
theorem Cells.mono {T T' : Nat → Nat → Prop} {b off l} (h : Cells w S T b off l) (he : Ext S w S' w') (hc : ∀ j v, l[j]? = some v → w'.cell? ⟨b, off + j, none⟩ = w.cell? ⟨b, off + j, none⟩)
 (ht : ∀ o, T b o → T' b o) : Cells w' S' T' b off l := by
 intro j v hj
 obtain ⟨h1, c, h2, h3, h4⟩ := h j v hj
 exact ⟨ht _ h1, c, (hc j v hj).trans h2, h3.mono he (zB.refl _), h4⟩
theorem tO.yb {l e x n xs cv} (h : tO P w S G l e x n xs cv) (he : Ext S w S' w')
 (hb : ∀ b e x, G b = .arr l e x → w'.heap[b]? = w.heap[b]? ∧ G' b = G b) : tO P w' S' G' l e x n xs cv := by
 obtain ⟨b, cap, cur, h1, h2, h3, h4, h5, h6, h7, h8, h9, h10⟩ := h
 obtain ⟨k1, k2⟩ := hb b _ _ h8
 refine ⟨b, cap, cur, h1, k1.trans h2, h3, h4, h5, h6, h7, k2.trans h8, h9, h10.mono he (fun j v _ => World.cell?_of_block (w := w) k1) (fun o hx hx' => ?_)⟩
 exact (he _ _ (hx hx')).1
theorem At1.yb {pk pk' l v cv} (h : At1 P w S G ρ pk l v cv) (he : Ext S w S' w') (hr : zB ρ ρ')
 (hb : ∀ b e x, G b = .arr l e x → w'.heap[b]? = w.heap[b]? ∧ G' b = G b) (hpk : ∀ p n xs, pk p n xs cv → pk' p n xs cv) : At1 P w' S' G' ρ' pk' l v cv := by
 by_cases hs : v.simple = true
 ·exact (At1.simple hs).2 (((At1.simple hs).1 h).mono he hr)
 ·cases v with
  | vs b o n xs =>
   cases o with
   | own e x => exact ⟨h.1, h.2.yb he hb⟩
   | pk p => exact ⟨h.1, hpk _ _ _ h.2⟩
   | _ => simp [LVal.simple] at hs
  | tup l => exact V.mono h he hr
  | _ => simp [LVal.simple] at hs
theorem At.yb {pk pk' b v cv} (h : At P w S G ρ pk b v cv) (he : Ext S w S' w') (hr : zB ρ ρ')
 (hb : ∀ bl c e x, G bl = .arr (b, c) e x → w'.heap[bl]? = w.heap[bl]? ∧ G' bl = G bl) (hpk : ∀ p n xs, pk p n xs cv → pk' p n xs cv) : At P w' S' G' ρ' pk' b v cv := by
 cases v with
 | tup l =>
  obtain ⟨cs, h1, h2, h3⟩ := h
  refine ⟨cs, h1, h2, fun c u hu => ?_⟩
  obtain ⟨k0, cu, k1, k2⟩ := h3 c u hu
  exact ⟨k0, cu, k1, k2.yb he hr (fun bl e x => hb bl (c + 1) e x) (fun _ _ _ h => h)⟩
 | _ => exact (At.nt (by simp)).2 (((At.nt (by simp)).1 h).yb he hr (fun bl e x => hb bl 0 e x) hpk)
theorem ti.yb {id o} (h : ti P w S G ρ id o) (he : Ext S w S' w') (hr : zB ρ ρ')
 (hbox : ∀ b, G b = .box id → w'.heap[b]? = w.heap[b]? ∧ G' b = G b)
 (hb : ∀ bl off c e x, G bl = .arr (.cell id off, c) e x → w'.heap[bl]? = w.heap[bl]? ∧ G' bl = G bl) : ti P w' S' G' ρ' id o := by
 cases o with
 | dead => trivial
 | cells et c =>
  obtain ⟨b, cc, h1, h2, h3, h4, h5⟩ := h
  obtain ⟨k1, k2⟩ := hbox b h3
  refine ⟨b, cc, hr _ _ h1, k1.trans h2, k2.trans h3, h4, fun off v hv => ?_⟩
  obtain ⟨m0, cv, m1, m2⟩ := h5 off v hv
  exact ⟨m0, cv, m1, m2.yb he hr (fun bl e x => hb bl off 0 e x) (fun _ _ _ h => h)⟩
 | map es =>
  obtain ⟨b, ces, clock, h1, h2, h3, h4, h5, h6⟩ := h
  obtain ⟨k1, k2⟩ := hbox b h3
  refine ⟨b, ces, clock, hr _ _ h1, k1.trans h2, k2.trans h3, h4, h5, fun i e hi => ?_⟩
  obtain ⟨ce, m1, m2, m3, m4, m5⟩ := h6 i e hi
  exact ⟨ce, m1, m2.mono he (zB.refl _), m3, m4.mono he hr, m5⟩
theorem tm.heap {p n xs cv} (h : tm vm ρ σ a w p n xs cv) (hr : zB ρ ρ') (hb : ∀ (id b : Nat), ρ[id]? = some b → (∃ ty c, σ.st[id]? = some (zt.cells ty c)) → w'.heap[b]? = w.heap[b]?) : tm vm ρ' σ a w' p n xs cv := by
 cases p with
 | var k => exact h
 | cell id off =>
  obtain ⟨e, x, ty, c, b, cc, et, fr, h1, h2, h3, h4, h5⟩ := h
  exact ⟨e, x, ty, c, b, cc, et, fr, h1, h2, hr _ _ h3, (hb _ _ h3 ⟨ty, c, h1⟩).trans h4, h5⟩
theorem Rel.yb (h : Rel P vm lm ρ S G σ a w) (he : Ext S w S' w') (hsz : w.heap.size ≤ w'.heap.size) (hswf : SWf w' S' G')
 (hbox : ∀ b id, G b = .box id → w'.heap[b]? = w.heap[b]? ∧ G' b = G b)
 (hb : ∀ bl l e x, G bl = .arr l e x → l.1 ≠ .yd → w'.heap[bl]? = w.heap[bl]? ∧ G' bl = G bl) : Rel P vm lm ρ S' G' σ a w' where
 defers := h.defers
 vsz := h.vsz
 lsz := h.lsz
 swf := hswf
 len := h.len
 rho id b hi := Nat.lt_of_lt_of_le (h.rho id b hi) hsz
 st id o ho := (h.st id o ho).yb he (zB.refl _) (fun b => hbox b id) (fun bl off c e x hg => hb bl _ e x hg (by simp))
 vars k v hv := by
  obtain ⟨t, h1, h2, h3⟩ := h.vars k v hv
  exact ⟨t, h1, h2, h3.yb he (zB.refl _) (fun bl c e x hg => hb bl _ e x hg (by simp)) (fun _ _ _ h => h)⟩
 rs i v hv := by
  rcases h.rs i v hv with h0 | ⟨t, h1, h2, h3⟩
  ·exact .inl h0
  ·refine .inr ⟨t, h1, h2, h3.yb he (zB.refl _) (fun bl c e x hg => hb bl _ e x hg (by simp)) (fun p n xs hp => tm.heap hp (zB.refl _) ?_)⟩
   rintro id b hi ⟨ty, c, hc⟩
   obtain ⟨b', cc, m1, m2, m3, _⟩ := h.st id _ hc
   obtain rfl : b = b' := by rw [hi] at m1; exact Option.some.inj m1
   exact (hbox b id m3).1
def wM (p q : qn) (G : Nat → Cl) : Nat → Cl := fun b => match G b with
 | .arr (p', c) e x => if p' = p then .arr (q, c) e x else .arr (p', c) e x
 | g => g
theorem rX {p q b id} : wM p q G b = .box id ↔ G b = .box id := by
 unfold wM
 cases h : G b with
 | arr l e x => obtain ⟨p', c⟩ := l; dsimp only; split <;> simp
 | _ => simp
theorem kX {p q b} : wM p q G b = .ro ↔ G b = .ro := by
 unfold wM
 cases h : G b with
 | arr l e x => obtain ⟨p', c⟩ := l; dsimp only; split <;> simp
 | _ => simp
theorem vk {p q b p' c e x} (h : G b = .arr (p', c) e x) (hn : p' ≠ p) : wM p q G b = G b := by
 unfold wM; rw [h]; simp [hn]
theorem relab_at {p q b c e x} (h : G b = .arr (p, c) e x) : wM p q G b = .arr (q, c) e x := by
 unfold wM; rw [h]; simp
theorem relab_arr {p q b l e x} (h : wM p q G b = .arr l e x) : ∃ l', G b = .arr l' e x := by
 unfold wM at h
 cases hg : G b with
 | arr l' e' x' =>
  rw [hg] at h
  obtain ⟨p', c⟩ := l'
  dsimp only at h
  split at h <;> (injection h with h1 h2 h3; subst h2; subst h3; exact ⟨_, rfl⟩)
 | _ => rw [hg] at h; simp at h
theorem SWf.xT (h : SWf w S G) (p q : qn) : SWf w S (wM p q G) where
 lt := h.lt
 fresh b hb := kX.2 (h.fresh b hb)
 box b o id hs hg := h.box b o id hs (rX.1 hg)
 arr b o l e x hs hg := by obtain ⟨l', hg'⟩ := relab_arr hg; exact h.arr b o l' e x hs hg'
theorem tO.xT {p q c e x n xs cv} (h : tO P w S G (p, c) e x n xs cv) : tO P w S (wM p q G) (q, c) e x n xs cv := by
 obtain ⟨b, cap, cur, h1, h2, h3, h4, h5, h6, h7, h8, h9, h10⟩ := h
 exact ⟨b, cap, cur, h1, h2, h3, h4, h5, h6, h7, relab_at h8, h9, h10⟩
theorem At1.xT {pk p q c v cv} (h : At1 P w S G ρ pk (p, c) v cv) : At1 P w S (wM p q G) ρ pk (q, c) v cv := by
 by_cases hs : v.simple = true
 ·exact (At1.simple hs).2 ((At1.simple hs).1 h)
 ·cases v with
  | vs b o n xs =>
   cases o with
   | own e x => exact ⟨h.1, h.2.xT⟩
   | pk p => exact h
   | _ => simp [LVal.simple] at hs
  | tup l => exact h
  | _ => simp [LVal.simple] at hs
theorem At.xT {pk p q v cv} (h : At P w S G ρ pk p v cv) : At P w S (wM p q G) ρ pk q v cv := by
 cases v with
 | tup l =>
  obtain ⟨cs, h1, h2, h3⟩ := h
  refine ⟨cs, h1, h2, fun c u hu => ?_⟩
  obtain ⟨k0, cu, k1, k2⟩ := h3 c u hu
  exact ⟨k0, cu, k1, k2.xT⟩
 | _ => exact (At.nt (by simp)).2 (At1.xT ((At.nt (by simp)).1 h))
theorem At.vk {pk p q b v cv} (h : At P w S G ρ pk b v cv) (hn : b ≠ p) : At P w S (wM p q G) ρ pk b v cv :=
 h.yb (Ext.refl _ _) (zB.refl _) (fun bl c e x hg => ⟨rfl, Go.L.vk hg hn⟩) (fun _ _ _ h => h)
theorem ti.xT {p q id o} (h : ti P w S G ρ id o) (hp : ∀ off, p ≠ .cell id off) : ti P w S (wM p q G) ρ id o :=
 h.yb (Ext.refl _ _) (zB.refl _) (fun b hg => ⟨rfl, (rX.2 hg).trans hg.symm⟩) (fun bl off c e x hg => ⟨rfl, Go.L.vk hg (fun e => hp off e.symm)⟩)
def RS.frees (σ : RS) : qn → Prop
 | .var k => ∀ v, σ.vars[k]? = some v → v.simple = true
 | .rs i => ∀ v, σ.rs[i]? = some v → v.simple = true
 | .cell _ _ => False
 | .yd => True
theorem Rel.xT (h : Rel P vm lm ρ S G σ a w) {p q : qn} (hp : σ.frees p) : Rel P vm lm ρ S (wM p q G) σ a w where
 defers := h.defers
 vsz := h.vsz
 lsz := h.lsz
 swf := h.swf.xT p q
 len := h.len
 rho := h.rho
 st id o ho := (h.st id o ho).xT (fun off e => by subst e; exact hp)
 vars k v hv := by
  obtain ⟨t, h1, h2, h3⟩ := h.vars k v hv
  refine ⟨t, h1, h2, ?_⟩
  by_cases hk : qn.var k = p
  ·subst hk
   exact (At.simple (hp v hv)).2 ((At.simple (hp v hv)).1 h3)
  ·exact h3.vk hk
 rs i v hv := by
  rcases h.rs i v hv with h0 | ⟨t, h1, h2, h3⟩
  ·exact .inl h0
  ·refine .inr ⟨t, h1, h2, ?_⟩
   by_cases hk : qn.rs i = p
   ·subst hk
    exact (At.simple (hp v hv)).2 ((At.simple (hp v hv)).1 h3)
   ·exact h3.vk hk
theorem Pr.xT (p q : qn) : Pr w S G ρ w S (wM p q G) ρ :=
 ⟨rfl, rfl, rfl, Nat.le_refl _, Ext.refl _ _, zB.refl _, fun _ _ h => ⟨rfl, kX.2 h⟩, fun _ _ h => .inl h⟩
theorem Rel.rsUndef (h : Rel P vm lm ρ S G σ a w) (i : Nat) : Rel P vm lm ρ S G { σ with rs := σ.rs.set i .undef } a w where
 defers := h.defers
 vsz := h.vsz
 lsz := h.lsz
 swf := h.swf
 len := h.len
 rho := h.rho
 st := h.st
 vars := h.vars
 rs j v hv := by
  by_cases hj : i = j
  ·subst hj
   rw [List.getElem?_set] at hv
   simp at hv
   exact .inl hv.2.symm
  ·rw [List.getElem?_set_ne hj] at hv
   exact h.rs j v hv
theorem LVal.unpk_cases (v : LVal) : v.yT = v ∨ v.yT = .undef := by
 cases v with
 | vs b o n xs => cases o <;> simp [LVal.yT]
 | _ => simp [LVal.yT]
theorem At.yT {pk pk' b v cv} (h : At P w S G ρ pk b v cv) : v.yT = .undef ∨ (v.yT = v ∧ At P w S G ρ pk' b v cv) := by
 cases v with
 | vs bb o n xs =>
  cases o with
  | pk p => exact .inl rfl
  | own e x => exact .inr ⟨rfl, h⟩
  | sh => exact .inr ⟨rfl, h⟩
  | full => exact .inr ⟨rfl, h⟩
 | tup l => exact .inr ⟨rfl, h⟩
 | _ => exact .inr ⟨rfl, h⟩
theorem RS.noPk_rs {σ : RS} {i : Nat} {v : LVal} (h : σ.yJ.rs[i]? = some v) : ∃ u, σ.rs[i]? = some u ∧ v = u.yT := by
 simp [RS.yJ] at h
 obtain ⟨u, h1, h2⟩ := h
 exact ⟨u, h1, h2.symm⟩
end Go.L
namespace Go.L
open Go
variable {P : Program} {vm : List Nat} {lm : List (Option Nat)} {ρ ρ' : List Nat} {S S' : Nat → Nat → Prop} {G G' : Nat → Cl} {σ σ' : RS} {a : Act} {w w' : World}
mutual
def wL : Value → LVal → Bool
 | .bool b, .bool b' => b == b'
 | .int k n, .int k' n' => k == k' && n == n'
 | .string s, .str l => s.data.toList == l
 | .pointer none, .vh => true
 | .slice none 0 0, .vs true .sh _ [] => true
 | .map none, .wq => true
 | .nilFunc, .x6 => true
 | .nilIface, .yX => true
 | .func (.func f) ⟨[]⟩ ⟨[]⟩, .func f' [] => f == f'
 | .agg ⟨cs⟩, .agg l => wW cs l && l.all LVal.plain
 | .iface t v, .iface t' u => t == t' && wL v u && (u.plain || u.isAgg)
 | .tuple ⟨[]⟩, .tup [] => true
 | _, _ => false
def wW : List Value → List LVal → Bool
 | [], [] => true
 | c :: cs, v :: l => wL c v && wW cs l
 | _, _ => false
end
mutual
theorem wL.V {w S} : ∀ {c : Value} {v : LVal} (ρ : List Nat), wL c v = true → V w S ρ v c
 | .bool b, .bool b', ρ, h => by simp [wL] at h; subst h; exact .bool _
 | .int k n, .int k' n', ρ, h => by simp [wL] at h; obtain ⟨rfl, rfl⟩ := h; exact .int _ _
 | .string ⟨⟨s⟩⟩, .str l, ρ, h => by simp [wL] at h; subst h; exact .str _
 | .pointer none, .vh, ρ, _ => .vh
 | .slice none 0 0, .vs true .sh _ [], ρ, _ => .oF
 | .map none, .wq, ρ, _ => .wq
 | .nilFunc, .x6, ρ, _ => .x6
 | .nilIface, .yX, ρ, _ => .yX
 | .func (.func f) ⟨[]⟩ ⟨[]⟩, .func f' [], ρ, h => by simp [wL] at h; subst h; exact .func .nil rfl
 | .agg ⟨cs⟩, .agg l, ρ, h => by simp only [wL, Bool.and_eq_true] at h; exact .agg (wW.VL ρ h.1) h.2
 | .iface t x, .iface t' u, ρ, h => by
  simp only [wL, Bool.and_eq_true, beq_iff_eq, Bool.or_eq_true] at h
  obtain ⟨⟨rfl, h1⟩, h2⟩ := h
  exact .iface (wL.V ρ h1) h2
 | .tuple ⟨[]⟩, .tup [], ρ, _ => .tup .nil rfl
theorem wW.VL {w S} : ∀ {cs : List Value} {l : List LVal} (ρ : List Nat), wW cs l = true → VL w S ρ l cs
 | [], [], ρ, _ => .nil
 | c :: cs, v :: l, ρ, h => by
  simp only [wW, Bool.and_eq_true] at h
  exact .cons (wL.V ρ h.1) (wW.VL ρ h.2)
end
def zp (vm : List Nat) (lm : List (Option Nat)) : Operand → Opd → Bool
 | .tmp t, .loc i => lm[i]? == some (some t)
 | .tmp t, .var k => vm[k]? == some t
 | .const v, .const u => wL v u && u.simple
 | .func f, .const (.func f' []) => f == f'
 | _, _ => false
def sa (w : World) (S : Nat → Nat → Prop) (b : Bool) (n : Nat) (xs : List LVal) (cv : Value) : Prop :=
 (b = true ∧ xs = [] ∧ cv = .slice none 0 0) ∨
 (b = false ∧ ∃ bl off cap, cv = .slice (some ⟨bl, off, none⟩) xs.length cap ∧ xs.length ≤ cap ∧ cap ≤ maxLen ∧ (∀ x ∈ xs, x.cells.length = n) ∧
  Cells w S (fun _ _ => True) bl off (xs.flatMap LVal.cells)) ∨
 (b = false ∧ xs = [] ∧ ∃ ad, cv = .slice (some ad) 0 0)
theorem V.view {b o n xs cv} (h : V w S ρ (.vs b o n xs) cv) : sa w S b n xs cv := by
 cases h with
 | oF => exact .inl ⟨rfl, rfl, rfl⟩
 | vz => exact .inr (.inr ⟨rfl, rfl, _, rfl⟩)
 | vs h1 h2 h3 h4 h5 => exact .inr <| .inl ⟨rfl, _, _, _, rfl, h1, h2, h4, h5.cells.weak fun _ _ _ => trivial⟩
theorem tO.view {l e x n xs cv} (h : tO P w S G l e x n xs cv) : sa w S false n xs cv := by
 obtain ⟨b, cap, cur, h1, h2, h3, h4, h5, h6, h7, h8, h9, h10⟩ := h
 exact .inr (.inl ⟨rfl, b, 0, cap, h1, h3, h4, h9, h10.weak fun _ _ _ => trivial⟩)
theorem Rel.pk_view (h : Rel P vm lm ρ S G σ a w) {p n xs cv} (hp : tm vm ρ σ a w p n xs cv) : sa w S false n xs cv := by
 cases p with
 | var k =>
  obtain ⟨e, x, t, h1, h2, h3⟩ := hp
  obtain ⟨t', h4, _, h5⟩ := h.vars k _ h1
  obtain rfl : t = t' := by rw [h2] at h4; exact Option.some.inj h4
  rw [h3] at h5
  exact h5.2.view
 | cell id off =>
  obtain ⟨e, x, ty, c, b, cc, et, fr, h1, h2, h3, h4, h5⟩ := hp
  obtain ⟨b', cc', k1, k2, k3, k4, k5⟩ := h.st id _ h1
  obtain rfl : b = b' := by rw [h3] at k1; exact Option.some.inj k1
  rw [h4] at k2
  injection k2 with k2; injection k2 with k2 _ _
  subst k2
  obtain ⟨_, cv', m1, m2⟩ := k5 off _ h2
  obtain rfl : cv = cv' := by rw [h5] at m1; exact Option.some.inj m1
  exact m2.2.view
theorem Rel.at_view (h : Rel P vm lm ρ S G σ a w) {bs b o n xs cv} (ha : At P w S G ρ (tm vm ρ σ a w) bs (.vs b o n xs) cv) : sa w S b n xs cv := by
 cases o with
 | own e x => obtain ⟨rfl, ha⟩ := ha; exact ha.view
 | pk p => obtain ⟨rfl, ha⟩ := ha; exact h.pk_view ha
 | sh => exact V.view (ρ := ρ) ha
 | full => exact V.view (ρ := ρ) ha
theorem sX {bs v cv} (h : At P w S G ρ yr bs v cv) (pk) : At P w S G ρ pk bs v cv :=
 h.yb (Ext.refl _ _) (zB.refl _) (fun _ _ _ _ _ => ⟨rfl, rfl⟩) (fun _ _ _ h => h.elim)
section zu
variable (h : Rel P vm lm ρ S G σ a w) {x : Operand} {y : Opd} (hc : zp vm lm x y = true)
include h hc
theorem Rel.peek_at {v : LVal} (hv : σ.zu y = some v) : v = .undef ∨ (∃ u, y = .const u ∧ V w S ρ v (a.eval x) ∧ v.simple = true) ∨ ∃ b, (y = .loc (match b with | .rs i => i | _ => 0) ∨ y = .var (match b with | .var k => k | _ => 0)) ∧ At P w S G ρ (tm vm ρ σ a w) b v (a.eval x) := by
 cases y with
 | const u =>
  simp [RS.zu] at hv
  subst hv
  cases x with
  | const c =>
   simp only [zp, Bool.and_eq_true] at hc
   exact .inr (.inl ⟨_, rfl, wL.V ρ hc.1, hc.2⟩)
  | func f =>
   cases u with
   | func f' caps =>
    cases caps with
    | nil => simp [zp] at hc; subst hc; exact .inr (.inl ⟨_, rfl, .func .nil rfl, rfl⟩)
    | cons => simp [zp] at hc
   | _ => simp [zp] at hc
  | _ => simp [zp] at hc
 | loc i =>
  cases x with
  | tmp t =>
   simp [zp] at hc
   simp only [RS.zu] at hv
   rcases h.rs i v hv with h0 | ⟨t', h1, h2, h3⟩
   ·exact .inl h0
   ·rw [hc] at h1
    injection h1 with h1; injection h1 with h1; subst h1
    exact .inr (.inr ⟨.rs i, .inl rfl, h3⟩)
  | _ => simp [zp] at hc
 | var k =>
  cases x with
  | tmp t =>
   simp [zp] at hc
   simp only [RS.zu] at hv
   obtain ⟨t', h1, h2, h3⟩ := h.vars k v hv
   rw [hc] at h1
   injection h1 with h1; subst h1
   exact .inr (.inr ⟨.var k, .inr rfl, sX h3 _⟩)
  | _ => simp [zp] at hc
theorem Rel.zM {v : LVal} (hv : σ.zu y = some v) (hs : v.simple = true) : V w S ρ v (a.eval x) := by
 rcases h.peek_at hc hv with h0 | ⟨u, _, h1, _⟩ | ⟨b, _, h1⟩
 ·subst h0; exact .undef
 ·exact h1
 ·exact (At.simple hs).1 h1
theorem Rel.rZ {b o n xs} (hv : σ.zu y = some (.vs b o n xs)) : sa w S b n xs (a.eval x) := by
 rcases h.peek_at hc hv with h0 | ⟨u, _, h1, _⟩ | ⟨b, _, h1⟩
 ·cases h0
 ·exact h1.view
 ·exact h.at_view h1
end zu
def sdown (S : Nat → Nat → Prop) (b e : Nat) : Nat → Nat → Prop := fun b' o => S b' o ∨ (b' = b ∧ o < e)
def qe (G : Nat → Cl) (b : Nat) (l : sA) (e : Nat) : Nat → Cl := fun b' => if b' = b then .arr l e false else G b'
theorem LVal.wT {v : LVal} (h : v.zr = true) : ∃ b e x n xs, v = .vs b (.own e x) n xs := by
 cases v with
 | vs b o n xs => cases o <;> simp_all [LVal.zr]
 | _ => simp_all [LVal.zr]
theorem yY {xs : List LVal} {n : Nat} (h : ∀ x ∈ xs, x.cells.length = n) : (xs.flatMap LVal.cells).length = xs.length * n := by
 induction xs with
 | nil => simp
 | cons x xs ih =>
  simp only [List.flatMap_cons, List.length_append, List.length_cons]
  rw [ih (fun y hy => h y (List.mem_cons_of_mem _ hy)), h x (List.mem_cons_self ..)]
  rw [Nat.add_mul]; omega
theorem Rel.down (h : Rel P vm lm ρ S G σ a w) {l : sA} {e x n xs cv} (ho : tO P w S G l e x n xs cv) (hl : l.1 ≠ .yd) :
 ∃ S' G', SWf w S' G' ∧ Ext S w S' w ∧ tO P w S' G' l e false n xs cv ∧ V w S' ρ (.vs false .sh n xs) cv ∧
  (∀ b, (∀ e x, G b ≠ .arr l e x) → G' b = G b) ∧ Pr w S G ρ w S' G' ρ := by
 obtain ⟨b, cap, cur, h1, h2, h3, h4, h5, h6, h7, h8, h9, h10⟩ := ho
 have hlen := yY h9
 have hext : Ext S w (sdown S b (xs.length * n)) w := fun b' o hs => ⟨.inl hs, rfl⟩
 have hcells : Cells w (sdown S b (xs.length * n)) (sdown S b (xs.length * n)) b 0 (xs.flatMap LVal.cells) := by
  intro j v hj
  obtain ⟨_, c, k1, k2, k3⟩ := h10 j v hj
  have hlt : j < xs.length * n := by rw [← hlen]; exact (List.getElem?_eq_some_iff.1 hj).1
  exact ⟨.inr ⟨rfl, by omega⟩, c, k1, k2.mono hext (zB.refl _), k3⟩
 have hblt : b < w.heap.size := (Array.getElem?_eq_some_iff.1 h2).1
 refine ⟨sdown S b (xs.length * n), qe G b l (xs.length * n), ⟨?_, ?_, ?_, ?_⟩, hext, ?_, ?_, ?_, ?_⟩
 ·rintro b' o (hs | ⟨rfl, _⟩)
  ·exact h.swf.lt _ _ hs
  ·exact hblt
 ·intro b' hb'
  have : b' ≠ b := by omega
  simp [qe, this, h.swf.fresh b' hb']
 ·rintro b' o id (hs | ⟨rfl, _⟩) hg
  ·by_cases hb : b' = b
   ·simp [qe, hb] at hg
   ·simp [qe, hb] at hg; exact h.swf.box _ _ _ hs hg
  ·simp [qe] at hg
 ·rintro b' o l' e' x' hs hg
  by_cases hb : b' = b
  ·subst hb
   simp [qe] at hg
   obtain ⟨rfl, rfl, rfl⟩ := hg
   refine ⟨rfl, ?_⟩
   rcases hs with hs | ⟨_, hlt⟩
   ·exact (h.swf.arr _ _ _ _ _ hs h8).2
   ·exact hlt
  ·simp [qe, hb] at hg
   rcases hs with hs | ⟨rfl, _⟩
   ·exact h.swf.arr _ _ _ _ _ hs hg
   ·exact absurd rfl hb
 ·exact ⟨b, cap, cur, h1, h2, h3, h4, h5, h6, h7, by simp [qe], h9, hcells.weak fun _ _ hs _ => hs⟩
 ·rw [h1]; exact .vs h3 h4 (by intro h; cases h) h9 hcells.row
 ·intro b' hb'
  have : b' ≠ b := fun e => hb' _ _ (e ▸ h8)
  simp [qe, this]
 ·refine ⟨rfl, rfl, rfl, Nat.le_refl _, hext, zB.refl _, fun b' _ hg => ⟨rfl, ?_⟩, ?_⟩
  ·have : b' ≠ b := fun e => by rw [e, h8] at hg; cases hg
   simp [qe, this, hg]
  ·rintro b' o (hs | ⟨rfl, _⟩)
   ·exact .inl hs
   ·exact .inr (.inr (by rw [h8]; simp))
theorem Rel.setVarAt (h : Rel P vm lm ρ S G σ a w) {k : Nat} {t : Nat} {v u : LVal} (hv : σ.vars[k]? = some v) (ht : vm[k]? = some t) (htl : t < a.tmps.size)
 (hswf : SWf w S' G') (he : Ext S w S' w) (hg : ∀ b, (∀ c e x, G b ≠ .arr (.var k, c) e x) → G' b = G b) (hu : At P w S' G' ρ yr (.var k) u (a.tmps.getD t undef))
 (hpk : ∀ e x n xs, v = .vs false (.own e x) n xs → ∃ e' x', u = .vs false (.own e' x') n xs) :
 Rel P vm lm ρ S' G' { σ with vars := σ.vars.set k u } a w where
 defers := h.defers
 vsz := h.vsz
 lsz := h.lsz
 swf := hswf
 len := h.len
 rho := h.rho
 st id o ho := (h.st id o ho).yb he (zB.refl _) (fun b hb => ⟨rfl, hg b (by rw [hb]; simp)⟩) (fun bl off c e x hb => ⟨rfl, hg bl (by rw [hb]; simp)⟩)
 vars j y hy := by
  by_cases hj : k = j
  ·subst hj
   simp only [List.getElem?_set_self', hv] at hy
   simp at hy
   subst hy
   exact ⟨t, ht, htl, hu⟩
  ·rw [List.getElem?_set_ne hj] at hy
   obtain ⟨t', h1, h2, h3⟩ := h.vars j y hy
   exact ⟨t', h1, h2, h3.yb he (zB.refl _) (fun bl c e x hb => ⟨rfl, hg bl (by rw [hb]; simp; omega)⟩) (fun _ _ _ h => h)⟩
 rs i y hy := by
  rcases h.rs i y hy with h0 | ⟨t', h1, h2, h3⟩
  ·exact .inl h0
  ·refine .inr ⟨t', h1, h2, h3.yb he (zB.refl _) (fun bl c e x hb => ⟨rfl, hg bl (by rw [hb]; simp)⟩) ?_⟩
   intro p n xs hp
   cases p with
   | var j =>
    obtain ⟨e, x, t'', m1, m2, m3⟩ := hp
    by_cases hj : k = j
    ·subst hj
     rw [hv] at m1
     obtain ⟨e', x', rfl⟩ := hpk e x n xs (Option.some.inj m1)
     exact ⟨e', x', t'', by simp [List.getElem?_set_self', hv], m2, m3⟩
    ·exact ⟨e, x, t'', by rw [List.getElem?_set_ne hj]; exact m1, m2, m3⟩
   | cell id off => exact hp
theorem Rel.setRsAt (h : Rel P vm lm ρ S G σ a w) {i : Nat} {t : Nat} {v u : LVal} (hv : σ.rs[i]? = some v) (ht : lm[i]? = some (some t)) (htl : t < a.tmps.size)
 (hswf : SWf w S' G') (he : Ext S w S' w) (hg : ∀ b, (∀ c e x, G b ≠ .arr (.rs i, c) e x) → G' b = G b) (hu : At P w S' G' ρ yr (.rs i) u (a.tmps.getD t undef)) :
 Rel P vm lm ρ S' G' { σ with rs := σ.rs.set i u } a w where
 defers := h.defers
 vsz := h.vsz
 lsz := h.lsz
 swf := hswf
 len := h.len
 rho := h.rho
 st id o ho := (h.st id o ho).yb he (zB.refl _) (fun b hb => ⟨rfl, hg b (by rw [hb]; simp)⟩) (fun bl off c e x hb => ⟨rfl, hg bl (by rw [hb]; simp)⟩)
 vars j y hy := by
  obtain ⟨t', h1, h2, h3⟩ := h.vars j y hy
  exact ⟨t', h1, h2, h3.yb he (zB.refl _) (fun bl c e x hb => ⟨rfl, hg bl (by rw [hb]; simp)⟩) (fun _ _ _ h => h)⟩
 rs j y hy := by
  by_cases hj : i = j
  ·subst hj
   simp only [List.getElem?_set_self', hv] at hy
   simp at hy
   subst hy
   exact .inr ⟨t, ht, htl, sX hu _⟩
  ·rw [List.getElem?_set_ne hj] at hy
   rcases h.rs j y hy with h0 | ⟨t', h1, h2, h3⟩
   ·exact .inl h0
   ·exact .inr ⟨t', h1, h2, h3.yb he (zB.refl _) (fun bl c e x hb => ⟨rfl, hg bl (by rw [hb]; simp; omega)⟩) (fun p n xs hp => by
     cases p <;> exact hp)⟩
end Go.L
namespace Go.L
open Go
variable {P : Program} {vm : List Nat} {lm : List (Option Nat)} {ρ ρ' : List Nat} {S S' : Nat → Nat → Prop} {G G' : Nat → Cl} {σ σ' : RS} {a : Act} {w w' : World}
theorem LVal.arg_V {v : LVal} {cv : Value} (h : V w S ρ v cv) : V w S ρ v.arg cv := by
 cases v with
 | vs b o n xs =>
  cases o with
  | full =>
   cases h with
   | oF => exact .oF
   | vz => exact .vz
   | vs h1 h2 h3 h4 h5 => exact .vs h1 h2 (by intro e; cases e) h4 h5
  | _ => exact h
 | _ => exact h
theorem LVal.soft_V {v : LVal} {cv : Value} (h : V w S ρ v.down cv) : V w S ρ v.soft cv := LVal.arg_V h
theorem LVal.arg_plain {v : LVal} : v.arg.plain = v.plain := by
 cases v with
 | vs b o n xs => cases o <;> rfl
 | _ => rfl
theorem LVal.soft_down {v : LVal} : v.soft = v.down.arg := rfl
theorem LVal.mZ {v u : LVal} (h : v.copy = some u) : u.simple = true ∧ (v.zr = false → u = v) := by
 cases v with
 | vs b o n xs => cases o <;> simp_all [LVal.copy, LVal.down, LVal.simple, LVal.zr] <;> (subst h; simp)
 | tup l => simp [LVal.copy] at h
 | _ => simp [LVal.copy, LVal.down] at h; subst h; simp [LVal.simple, LVal.zr]
section
variable (h : Rel P vm lm ρ S G σ a w) {x : Operand} {y : Opd} (hc : zp vm lm x y = true)
include h hc
theorem Rel.take {u : LVal} (ht : σ.take y = some (u, σ')) :
 ∃ S' G', Rel P vm lm ρ S' G' σ' a w ∧ V w S' ρ u (a.eval x) ∧ u.simple = true ∧ Pr w S G ρ w S' G' ρ := by
 cases y with
 | const c =>
  simp [RS.take] at ht
  obtain ⟨rfl, rfl⟩ := ht
  have hs : c.simple = true := by
   cases x with
   | const c' => simp only [zp, Bool.and_eq_true] at hc; exact hc.2
   | func f => cases c <;> simp_all [zp, LVal.simple]
   | _ => simp [zp] at hc
  exact ⟨S, G, h, h.zM hc rfl hs, hs, Pr.refl ..⟩
 | loc i =>
  simp only [RS.take] at ht
  cases hv : σ.rs[i]? with
  | none => simp [hv] at ht
  | some v =>
   simp only [hv, Option.bind_some, Option.map_eq_some_iff] at ht
   obtain ⟨u', hcp, e⟩ := ht
   obtain ⟨hs, hu⟩ := LVal.mZ hcp
   by_cases hown : v.zr = true
   ·simp only [hown, if_true] at e
    injection e with e1 e2; subst e1; subst e2
    obtain ⟨b, e, xx, n, xs, rfl⟩ := LVal.wT hown
    simp [LVal.copy, LVal.down] at hcp
    subst hcp
    cases x with
    | tmp t =>
     simp [zp] at hc
     rcases h.rs i _ hv with h0 | ⟨t', h1, h2, h3⟩
     ·cases h0
     ·rw [hc] at h1; injection h1 with h1; injection h1 with h1; subst h1
      obtain ⟨rfl, ho⟩ := h3
      obtain ⟨S', G', k1, k2, k3, k4, k5, k6⟩ := h.down ho (by simp)
      refine ⟨S', G', h.setRsAt hv hc h2 k1 k2 (fun b hb => k5 b (fun e x => hb 0 e x)) ⟨rfl, k3⟩, k4, rfl, k6⟩
    | _ => simp [zp] at hc
   ·simp only [hown, if_false, Bool.false_eq_true] at e
    injection e with e1 e2; subst e1; subst e2
    have := hu (by simpa using hown)
    subst this
    exact ⟨S, G, h, h.zM hc (y := .loc i) hv hs, hs, Pr.refl ..⟩
 | var k =>
  simp only [RS.take] at ht
  cases hv : σ.vars[k]? with
  | none => simp [hv] at ht
  | some v =>
   simp only [hv, Option.bind_some, Option.map_eq_some_iff] at ht
   obtain ⟨u', hcp, e⟩ := ht
   obtain ⟨hs, hu⟩ := LVal.mZ hcp
   by_cases hown : v.zr = true
   ·simp only [hown, if_true] at e
    injection e with e1 e2; subst e1; subst e2
    obtain ⟨b, e, xx, n, xs, rfl⟩ := LVal.wT hown
    simp [LVal.copy, LVal.down] at hcp
    subst hcp
    cases x with
    | tmp t =>
     simp [zp] at hc
     obtain ⟨t', h1, h2, h3⟩ := h.vars k _ hv
     rw [hc] at h1; injection h1 with h1; subst h1
     obtain ⟨rfl, ho⟩ := h3
     obtain ⟨S', G', k1, k2, k3, k4, k5, k6⟩ := h.down ho (by simp)
     refine ⟨S', G', h.setVarAt hv hc h2 k1 k2 (fun b hb => k5 b (fun e x => hb 0 e x)) ⟨rfl, k3⟩ (fun e' x' n' xs' he => ?_), k4, rfl, k6⟩
     injection he with _ e2 e3 e4
     subst e3; subst e4
     exact ⟨_, _, rfl⟩
    | _ => simp [zp] at hc
   ·simp only [hown, if_false, Bool.false_eq_true] at e
    injection e with e1 e2; subst e1; subst e2
    have := hu (by simpa using hown)
    subst this
    exact ⟨S, G, h, h.zM hc (y := .var k) hv hs, hs, Pr.refl ..⟩
end
def xR (vm : List Nat) (lm : List (Option Nat)) : List Operand → List Opd → Bool
 | [], [] => true
 | x :: xs, y :: ys => zp vm lm x y && xR vm lm xs ys
 | _, _ => false
theorem Rel.takes : ∀ {xs : List Operand} {ys : List Opd} {S G σ} (_ : Rel P vm lm ρ S G σ a w) (_ : xR vm lm xs ys = true) {us : List LVal} {σ' : RS} (_ : σ.takes ys = some (us, σ')),
 ∃ S' G', Rel P vm lm ρ S' G' σ' a w ∧ VL w S' ρ us (xs.map a.eval) ∧ us.all LVal.simple = true ∧ Pr w S G ρ w S' G' ρ
 | [], [], S, G, σ, h, _, us, σ', ht => by
  simp [RS.takes] at ht
  obtain ⟨rfl, rfl⟩ := ht
  exact ⟨S, G, h, .nil, rfl, Pr.refl ..⟩
 | x :: xs, y :: ys, S, G, σ, h, hc, us, σ', ht => by
  simp only [xR, Bool.and_eq_true] at hc
  simp only [RS.takes] at ht
  cases h1 : σ.take y with
  | none => simp [h1] at ht
  | some r =>
   obtain ⟨u, σ1⟩ := r
   simp only [h1, Option.bind_some, Option.map_eq_some_iff] at ht
   obtain ⟨⟨us1, σ2⟩, h2, e⟩ := ht
   injection e with e1 e2; subst e1; subst e2
   obtain ⟨S1, G1, k1, k2, k3, k4⟩ := h.take hc.1 h1
   obtain ⟨S2, G2, m1, m2, m3, m4⟩ := Rel.takes k1 hc.2 h2
   exact ⟨S2, G2, m1, .cons (k2.mono m4.ext (zB.refl _)) m2, by simp [k3, m3], k4.trans m4⟩
def RS.uy (σ : RS) : Prop := ∀ (i : Nat) b p n xs, σ.rs[i]? ≠ some (.vs b (.pk p) n xs)
theorem RS.vq (σ : RS) : σ.yJ.uy := by
 intro i b p n xs h
 obtain ⟨u, _, e⟩ := RS.noPk_rs h
 rcases u.unpk_cases with hu | hu
 ·cases u with
  | vs b' o n' xs' => cases o <;> simp [LVal.yT] at e
  | _ => simp [LVal.yT] at e
 ·rw [hu] at e; cases e
theorem At.uy {pk pk' bs v cv} (h : At P w S G ρ pk bs v cv) (hn : ∀ b p n xs, v ≠ .vs b (.pk p) n xs) : At P w S G ρ pk' bs v cv := by
 rcases At.yT (pk' := pk') h with h1 | ⟨_, h1⟩
 ·cases v with
  | vs b o n xs => cases o <;> first | (exact absurd rfl (hn _ _ _ _)) | (simp [LVal.yT] at h1)
  | undef => exact (At.simple rfl).2 .undef
  | _ => simp [LVal.yT] at h1
 ·exact h1
theorem Rel.yJ (h : Rel P vm lm ρ S G σ a w) : Rel P vm lm ρ S G σ.yJ a w where
 defers := h.defers
 vsz := h.vsz
 lsz := h.lsz
 swf := h.swf
 len := h.len
 rho := h.rho
 st := h.st
 vars := h.vars
 rs i v hv := by
  obtain ⟨u, h1, rfl⟩ := RS.noPk_rs hv
  rcases h.rs i u h1 with h0 | ⟨t, h2, h3, h4⟩
  ·subst h0; exact .inl rfl
  ·rcases At.yT (pk' := tm vm ρ σ.yJ a w) h4 with k | ⟨k1, k2⟩
   ·exact .inl k
   ·rw [k1]; exact .inr ⟨t, h2, h3, k2⟩
theorem Rel.setVarNo {k : Nat} (h : Rel P vm lm ρ S G σ a w) (hn : σ.uy ∨ (∀ v, σ.vars[k]? = some v → v.zr = false)) {u : LVal}
 (hu : ∃ t, vm[k]? = some t ∧ t < a.tmps.size ∧ At P w S G ρ yr (.var k) u (a.tmps.getD t undef)) : Rel P vm lm ρ S G { σ with vars := σ.vars.set k u } a w where
 defers := h.defers
 vsz := h.vsz
 lsz := h.lsz
 swf := h.swf
 len := h.len
 rho := h.rho
 st := h.st
 vars j v hv := by
  by_cases hj : k = j
  ·subst hj
   rw [List.getElem?_set] at hv
   simp at hv
   obtain ⟨_, rfl⟩ := hv
   exact hu
  ·rw [List.getElem?_set_ne hj] at hv
   exact h.vars j v hv
 rs i v hv := by
  rcases h.rs i v hv with h0 | ⟨t, h1, h2, h3⟩
  ·exact .inl h0
  ·refine .inr ⟨t, h1, h2, ?_⟩
   rcases hn with hn | hn
   ·exact h3.uy (fun b p n xs e => hn i b p n xs (e ▸ hv))
   ·refine h3.yb (Ext.refl _ _) (zB.refl _) (fun _ _ _ _ _ => ⟨rfl, rfl⟩) (fun p n xs hp => ?_)
    cases p with
    | var j =>
     obtain ⟨e, x, t, m1, m2, m3⟩ := hp
     by_cases hj : k = j
     ·subst hj; have := hn _ m1; simp [LVal.zr] at this
     ·exact ⟨e, x, t, by rw [List.getElem?_set_ne hj]; exact m1, m2, m3⟩
    | cell id off => exact hp
theorem Rel.oT (h : Rel P vm lm ρ S G σ a w) (hn : σ.uy) (k : Nat) : Rel P vm lm ρ S G { σ with vars := σ.vars.set k .undef } a w := by
 by_cases hk : k < σ.vars.length
 ·obtain ⟨t, h1, h2, _⟩ := h.vars k _ (List.getElem?_eq_getElem hk)
  exact h.setVarNo (.inl hn) ⟨t, h1, h2, (At.simple rfl).2 .undef⟩
 ·have : σ.vars.set k .undef = σ.vars := List.set_eq_of_length_le (by omega)
  rw [this]; exact h
theorem Rel.yW (h : Rel P vm lm ρ S G σ a w) {x : Operand} {y : Opd} (hc : zp vm lm x y = true) {v : LVal} (hg : σ.yW y = some (v, σ')) :
 ∃ S' G', Rel P vm lm ρ S' G' σ' a w ∧ At P w S' G' ρ yr .yd v (a.eval x) ∧ Pr w S G ρ w S' G' ρ := by
 have viaTake : σ.take y = some (v, σ') → ∃ S' G', Rel P vm lm ρ S' G' σ' a w ∧ At P w S' G' ρ yr .yd v (a.eval x) ∧ Pr w S G ρ w S' G' ρ := fun ht => by
  obtain ⟨S', G', k1, k2, k3, k4⟩ := h.take hc ht
  exact ⟨S', G', k1, (At.simple k3).2 k2, k4⟩
 cases y with
 | const c => exact viaTake hg
 | var k => exact viaTake hg
 | loc i =>
  simp only [RS.yW] at hg
  cases hv : σ.rs[i]? with
  | none => simp [hv] at hg
  | some u =>
   simp only [hv, Option.bind_some] at hg
   have over : (u.zr = true ∨ ∃ l, u = .tup l) → v = u → σ' = { σ with rs := σ.rs.set i .undef } → ∃ S' G', Rel P vm lm ρ S' G' σ' a w ∧ At P w S' G' ρ yr .yd v (a.eval x) ∧ Pr w S G ρ w S' G' ρ := by
    rintro hu rfl rfl
    cases x with
    | tmp t =>
     simp [zp] at hc
     rcases h.rs i _ hv with h0 | ⟨t', h1, h2, h3⟩
     ·subst h0; simp [LVal.zr] at hu
     ·rw [hc] at h1; injection h1 with h1; injection h1 with h1; subst h1
      have hf : RS.frees { σ with rs := σ.rs.set i .undef } (.rs i) := by
       intro z hz
       rw [List.getElem?_set] at hz
       simp at hz
       rw [← hz.2]; rfl
      have hn : ∀ b p n xs, v ≠ .vs b (.pk p) n xs := by
       rintro b p n xs rfl
       simp [LVal.zr] at hu
      exact ⟨S, wM (.rs i) .yd G, (h.rsUndef i).xT hf, (h3.uy hn).xT, Pr.xT ..⟩
    | _ => simp [zp] at hc
   have same : u.simple = true → v = u → σ' = σ → ∃ S' G', Rel P vm lm ρ S' G' σ' a w ∧ At P w S' G' ρ yr .yd v (a.eval x) ∧ Pr w S G ρ w S' G' ρ := by
    rintro hs rfl rfl
    exact ⟨S, G, h, (At.simple hs).2 (h.zM hc (y := .loc i) hv hs), Pr.refl ..⟩
   cases u with
   | vs b o n xs =>
    cases o with
    | own e xx => simp at hg; exact over (.inl rfl) hg.1.symm hg.2.symm
    | pk p => simp at hg
    | sh => simp at hg; exact same rfl hg.1.symm hg.2.symm
    | full => simp at hg; exact same rfl hg.1.symm hg.2.symm
   | tup l => simp at hg; exact over (.inr ⟨_, rfl⟩) hg.1.symm hg.2.symm
   | _ => simp at hg; exact same rfl hg.1.symm hg.2.symm
end Go.L
namespace Go.L
open Go
variable {P : Program} {vm : List Nat} {lm : List (Option Nat)} {ρ ρ' : List Nat} {S S' : Nat → Nat → Prop} {G G' : Nat → Cl} {σ σ' : RS} {a : Act} {w w' : World}
structure qc (vm : List Nat) (lm : List (Option Nat)) : Prop where
 vv : ∀ (j k t : Nat), vm[j]? = some t → vm[k]? = some t → j = k
 ll : ∀ (i j t : Nat), lm[i]? = some (some t) → lm[j]? = some (some t) → i = j
 vl : ∀ (i k t : Nat), lm[i]? = some (some t) → vm[k]? = some t → False
def pU (vm : List Nat) (lm : List (Option Nat)) (dst : Option Tmp) (lo : zj) : Bool :=
 match lo.dst, dst with
 | none, none => false
 | none, some t => lm[lo.ix]? == some (some t)
 | some k, some t => vm[k]? == some t
 | some k, none => (vm[k]?).isNone
theorem getD_set {a : Array Value} {t : Nat} (ht : t < a.size) (v : Value) : (a.setIfInBounds t v).getD t undef = v := by
 simp [Array.getD, ht]
theorem getD_set_ne {a : Array Value} {t u : Nat} (hn : t ≠ u) (v : Value) : (a.setIfInBounds t v).getD u undef = a.getD u undef := by
 simp [Array.getD_eq_getD_getElem?, hn]
theorem Rel.put (h : Rel P vm lm ρ S G σ a w) (wf : qc vm lm) {v : LVal} {cv : Value} (hv : At P w S G ρ (tm vm ρ σ a w) .yd v cv) {dst : Option Tmp} {lo : zj}
 (hd : pU vm lm dst lo = true) : ∃ G', Rel P vm lm ρ S G' (σ.put lo v) (a.put dst cv) w ∧ Pr w S G ρ w S G' ρ := by
 unfold pU at hd
 cases hlo : lo.dst with
 | none =>
  rw [hlo] at hd
  cases dst with
  | none => simp at hd
  | some t =>
   simp only [beq_iff_eq] at hd
   have htl := h.lsz _ _ hd
   refine ⟨wM .yd (.rs lo.ix) G, ?_, Pr.xT ..⟩
   have h' := h.xT (p := .yd) (q := .rs lo.ix) trivial
   have hv' : At P w S (wM .yd (.rs lo.ix) G) ρ (tm vm ρ σ a w) (.rs lo.ix) v cv := hv.xT
   simp only [RS.put, hlo, Act.put]
   have pkk : ∀ p n xs cv, tm vm ρ σ a w p n xs cv → tm vm ρ { σ with rs := σ.rs.set lo.ix v } { a with tmps := a.tmps.setIfInBounds t cv } w p n xs cv := by
    intro p n xs c hp
    cases p with
    | var k =>
     obtain ⟨e, x, t', m1, m2, m3⟩ := hp
     refine ⟨e, x, t', m1, m2, ?_⟩
     exact (getD_set_ne (fun e => wf.vl _ _ _ hd (e ▸ m2)) _).trans m3
    | cell id off => exact hp
   have pkk' : ∀ c0 p n xs cv', tm vm ρ σ a w p n xs cv' → tm vm ρ { σ with rs := σ.rs.set lo.ix v } { a with tmps := a.tmps.setIfInBounds t c0 } w p n xs cv' := by
    intro c0 p n xs c hp
    cases p with
    | var k =>
     obtain ⟨e, x, t', m1, m2, m3⟩ := hp
     exact ⟨e, x, t', m1, m2, (getD_set_ne (fun e => wf.vl _ _ _ hd (e ▸ m2)) _).trans m3⟩
    | cell id off => exact hp
   exact {
    defers := h'.defers
    vsz := fun k t' hk => by simpa using h'.vsz k t' hk
    lsz := fun i t' hi => by simpa using h'.lsz i t' hi
    swf := h'.swf
    len := h'.len
    rho := h'.rho
    st := h'.st
    vars := fun k u hu => by
     obtain ⟨t', m1, m2, m3⟩ := h'.vars k u hu
     refine ⟨t', m1, by simpa using m2, ?_⟩
     rw [getD_set_ne (fun e => wf.vl _ _ _ hd (e ▸ m1))]; exact m3
    rs := fun i u hu => by
     by_cases hi : lo.ix = i
     ·subst hi
      rw [List.getElem?_set] at hu
      simp at hu
      obtain ⟨_, rfl⟩ := hu
      refine .inr ⟨t, hd, by simpa using htl, ?_⟩
      rw [getD_set htl]
      exact hv'.yb (Ext.refl _ _) (zB.refl _) (fun _ _ _ _ _ => ⟨rfl, rfl⟩) (fun p n xs hp => pkk' _ _ _ _ _ hp)
     ·rw [List.getElem?_set_ne hi] at hu
      rcases h'.rs i u hu with h0 | ⟨t', m1, m2, m3⟩
      ·exact .inl h0
      ·have hne : t ≠ t' := fun e => hi (wf.ll _ _ _ hd (e ▸ m1))
       refine .inr ⟨t', m1, by simpa using m2, ?_⟩
       rw [getD_set_ne hne]
       exact m3.yb (Ext.refl _ _) (zB.refl _) (fun _ _ _ _ _ => ⟨rfl, rfl⟩) (fun p n xs hp => pkk' _ _ _ _ _ hp) }
 | some k =>
  rw [hlo] at hd
  cases dst with
  | none =>
   simp only [Option.isNone_iff_eq_none] at hd
   refine ⟨G, ?_, Pr.refl ..⟩
   have hvk : σ.vars[k]? = none := by
    cases hu : σ.vars[k]? with
    | none => rfl
    | some u =>
     obtain ⟨t, h1, _⟩ := h.vars k u hu
     rw [hd] at h1; cases h1
   have hle : σ.vars.length ≤ k := by simpa using hvk
   simp only [RS.put, hlo, Act.put, RS.xp, hvk, Option.any_none, Bool.false_eq_true, if_false]
   rw [List.set_eq_of_length_le hle]
   exact h
  | some t =>
   simp only [beq_iff_eq] at hd
   have htl := h.vsz _ _ hd
   refine ⟨wM .yd (.var k) G, ?_, Pr.xT ..⟩
   simp only [RS.put, hlo, Act.put]
   have key : ∀ (σ1 : RS), Rel P vm lm ρ S G σ1 a w → (σ1.uy ∨ (∀ v, σ1.vars[k]? = some v → v.zr = false)) →
    Rel P vm lm ρ S (wM .yd (.var k) G) { σ1 with vars := σ1.vars.set k v.yT } { a with tmps := a.tmps.setIfInBounds t cv } w := by
    intro σ1 h1 hn
    have h' := h1.xT (p := .yd) (q := .var k) trivial
    have hv' : At P w S (wM .yd (.var k) G) ρ yr (.var k) v.yT cv := by
     rcases At.yT (pk' := yr) hv with m | ⟨m1, m2⟩
     ·rw [m]; exact (At.simple rfl).2 .undef
     ·rw [m1]; exact m2.xT
    have pkk : ∀ p n xs cv', (σ1.uy → False) → tm vm ρ σ1 a w p n xs cv' → tm vm ρ { σ1 with vars := σ1.vars.set k v.yT } { a with tmps := a.tmps.setIfInBounds t cv } w p n xs cv' := by
     intro p n xs c hnn hp
     cases p with
     | var j =>
      obtain ⟨e, x, t', m1, m2, m3⟩ := hp
      by_cases hj : k = j
      ·subst hj
       rcases hn with hn | hn
       ·exact (hnn hn).elim
       ·have := hn _ m1; simp [LVal.zr] at this
      ·exact ⟨e, x, t', by rw [List.getElem?_set_ne hj]; exact m1, m2, (getD_set_ne (fun e => hj (wf.vv _ _ t hd (by rw [e]; exact m2))) _).trans m3⟩
     | cell id off => exact hp
    exact {
     defers := h'.defers
     vsz := fun k t' hk => by simpa using h'.vsz k t' hk
     lsz := fun i t' hi => by simpa using h'.lsz i t' hi
     swf := h'.swf
     len := h'.len
     rho := h'.rho
     st := h'.st
     vars := fun j u hu => by
      by_cases hj : k = j
      ·subst hj
       rw [List.getElem?_set] at hu
       simp at hu
       obtain ⟨_, rfl⟩ := hu
       exact ⟨t, hd, by simpa using htl, by rw [getD_set htl]; exact hv'⟩
      ·rw [List.getElem?_set_ne hj] at hu
       obtain ⟨t', m1, m2, m3⟩ := h'.vars j u hu
       refine ⟨t', m1, by simpa using m2, ?_⟩
       rw [getD_set_ne (fun e => hj (wf.vv _ _ t hd (by rw [e]; exact m1)))]; exact m3
     rs := fun i u hu => by
      rcases h'.rs i u hu with h0 | ⟨t', m1, m2, m3⟩
      ·exact .inl h0
      ·refine .inr ⟨t', m1, by simpa using m2, ?_⟩
       rw [getD_set_ne (fun e => wf.vl _ _ _ m1 (e ▸ hd))]
       by_cases hnn : σ1.uy
       ·exact m3.uy (fun b p n xs e => hnn i b p n xs (e ▸ hu))
       ·exact m3.yb (Ext.refl _ _) (zB.refl _) (fun _ _ _ _ _ => ⟨rfl, rfl⟩) (fun p n xs hp => pkk _ _ _ _ hnn hp) }
   unfold RS.xp
   split
   ·exact key σ.yJ h.yJ (.inl σ.vq)
   ·rename_i hne
    refine key σ h (.inr fun u hu => ?_)
    rw [hu] at hne
    simpa using hne
def oA (S : Nat → Nat → Prop) (G : Nat → Cl) (id : Nat) : Nat → Nat → Prop := fun b o => S b o ∨ ∃ off c e x, G b = .arr (.cell id off, c) e x ∧ o < e
def pP (G : Nat → Cl) (id : Nat) : Nat → Cl := fun b => match G b with
 | .arr (.cell id' off, c) e x => if id' = id then .arr (.cell id' off, c) e false else .arr (.cell id' off, c) e x
 | g => g
theorem lW {id b off c e x} (h : G b = .arr (.cell id off, c) e x) : pP G id b = .arr (.cell id off, c) e false := by unfold pP; rw [h]; simp
theorem tK {id b} (h : ∀ off c e x, G b ≠ .arr (.cell id off, c) e x) : pP G id b = G b := by
 unfold pP
 split
 ·rename_i id' off c e x hg
  by_cases hi : id' = id
  ·subst hi; exact absurd hg (h off c e x)
  ·simp [hi, hg]
 ·rfl
theorem LVal.p8 {v : LVal} (h : v.zr = false) : v.stay = v := by
 cases v with
 | vs b o n xs => cases o <;> simp_all [LVal.stay, LVal.zr]
 | _ => rfl
theorem LVal.rL {v : LVal} (h : v.zr = false) : v.down = v := by
 cases v with
 | vs b o n xs => cases o <;> simp_all [LVal.down, LVal.zr]
 | _ => rfl
theorem Rel.downObjX (h : Rel P vm lm ρ S G σ a w) {id : Nat} {et : TypeId} {c : List LVal} (hc : σ.st[id]? = some (.cells et c)) :
 Rel P vm lm ρ (oA S G id) (pP G id) { σ with st := σ.st.set id (.cells et (c.map LVal.stay)) } a w ∧ Pr w S G ρ w (oA S G id) (pP G id) ρ ∧
  ∃ b cc, ρ[id]? = some b ∧ w.heap[b]? = some (.cells cc et (0, 0)) ∧ c.length ≤ cc.size ∧
   ∀ (o : Nat) (v : LVal), c[o]? = some v → ∃ cv, cc[o]? = some cv ∧ V w (oA S G id) ρ v.down cv ∧ (v.plain = true ∨ v.zr = true) ∧ At1 P w (oA S G id) (pP G id) ρ yr (.cell id o, 0) v.stay cv := by
 have he : Ext S w (oA S G id) w := fun b o hs => ⟨.inl hs, rfl⟩
 have hswf : SWf w (oA S G id) (pP G id) := {
  lt := fun b o hs => by
   rcases hs with hs | ⟨off, c, e, x, hg, _⟩
   ·exact h.swf.lt b o hs
   ·rcases Nat.lt_or_ge b w.heap.size with k | k
    ·exact k
    ·have := h.swf.fresh b k; rw [hg] at this; cases this
  fresh := fun b hb => by
   have := h.swf.fresh b hb
   rw [tK (fun off c e x hg => by rw [this] at hg; cases hg)]; exact this
  box := fun b o i hs hg => by
   by_cases hin : ∃ off c e x, G b = .arr (.cell id off, c) e x
   ·obtain ⟨off, c, e, x, hg'⟩ := hin
    rw [lW hg'] at hg; cases hg
   ·have hout := tK (id := id) (G := G) (b := b) (fun off c e x hg' => hin ⟨off, c, e, x, hg'⟩)
    rw [hout] at hg
    rcases hs with hs | ⟨off, c, e, x, hg', _⟩
    ·exact h.swf.box b o i hs hg
    ·exact hin ⟨off, c, e, x, hg'⟩
  arr := fun b o l e x hs hg => by
   by_cases hin : ∃ off c e x, G b = .arr (.cell id off, c) e x
   ·obtain ⟨off, c, e', x', hg'⟩ := hin
    rw [lW hg'] at hg
    injection hg with h1 h2 h3
    subst h2; subst h3
    refine ⟨rfl, ?_⟩
    rcases hs with hs | ⟨off2, c2, e2, x2, hg2, hlt⟩
    ·exact (h.swf.arr b o _ _ _ hs hg').2
    ·rw [hg'] at hg2; injection hg2 with _ h2 _; omega
   ·have hout := tK (id := id) (G := G) (b := b) (fun off c e x hg' => hin ⟨off, c, e, x, hg'⟩)
    rw [hout] at hg
    rcases hs with hs | ⟨off, c, e, x, hg', _⟩
    ·exact h.swf.arr b o l e x hs hg
    ·exact absurd ⟨off, c, e, x, hg'⟩ hin }
 have hkeep : ∀ b l e x, G b = .arr l e x → (∀ off, l.1 ≠ .cell id off) → w.heap[b]? = w.heap[b]? ∧ pP G id b = G b := fun b l e x hg hl =>
  ⟨rfl, tK (fun off c e' x' hg' => by rw [hg] at hg'; injection hg' with h1 _ _; exact hl off (by rw [h1]))⟩
 have hbox : ∀ b i, G b = .box i → w.heap[b]? = w.heap[b]? ∧ pP G id b = G b := fun b i hg => ⟨rfl, tK (fun off c e' x' hg' => by rw [hg] at hg'; cases hg')⟩
 obtain ⟨b, cc, h1, h2, h3, h4, h5⟩ := h.st id _ hc
 have cellfact : ∀ (o : Nat) (v : LVal), c[o]? = some v → ∃ cv, cc[o]? = some cv ∧ V w (oA S G id) ρ v.down cv ∧ (v.plain = true ∨ v.zr = true) ∧ At1 P w (oA S G id) (pP G id) ρ yr (.cell id o, 0) v.stay cv := by
  intro o v hv
  obtain ⟨m0, cv, m1, m2⟩ := h5 o v hv
  refine ⟨cv, m1, ?_⟩
  by_cases hown : v.zr = true
  ·obtain ⟨bb, e, x, n, xs, rfl⟩ := LVal.wT hown
   obtain ⟨rfl, bl, cap, cur, q1, q2, q3, q4, q5, q6, q7, q8, q9, q10⟩ := m2
   have hlen := yY q9
   have hcells : Cells w (oA S G id) (oA S G id) bl 0 (xs.flatMap LVal.cells) := by
    intro j u hj
    obtain ⟨_, cc', k1, k2, k3⟩ := q10 j u hj
    have hlt : j < xs.length * n := by rw [← hlen]; exact (List.getElem?_eq_some_iff.1 hj).1
    exact ⟨.inr ⟨_, _, _, _, q8, by omega⟩, cc', k1, k2.mono he (zB.refl _), k3⟩
   refine ⟨?_, .inr rfl, rfl, bl, cap, cur, q1, q2, q3, q4, q5, q6, q7, lW q8, q9, hcells.weak fun _ _ hs _ => hs⟩
   rw [q1]; exact .vs q3 q4 (by intro h; cases h) q9 hcells.row
  ·have hp : v.plain = true := by rcases m0 with m0 | m0; exact m0; exact absurd m0 hown
   have hs := LVal.zO hp
   have hown' : v.zr = false := by simpa using hown
   rw [LVal.p8 hown', LVal.rL hown']
   have hV := ((At1.simple hs).1 m2).mono he (zB.refl _)
   exact ⟨hV, .inl hp, (At1.simple hs).2 hV⟩
 refine ⟨?_, ?_, b, cc, h1, h2, h4, cellfact⟩
 ·exact {
   defers := h.defers
   vsz := h.vsz
   lsz := h.lsz
   swf := hswf
   len := by simpa using h.len
   rho := h.rho
   st := fun i o ho => by
    by_cases hi : id = i
    ·subst hi
     rw [List.getElem?_set] at ho
     simp at ho
     obtain ⟨_, rfl⟩ := ho
     refine ⟨b, cc, h1, h2, (hbox b id h3).2.trans h3, by simpa using h4, fun o v hv => ?_⟩
     simp at hv
     obtain ⟨u, hu, rfl⟩ := hv
     obtain ⟨cv, m1, m2, m3, m4⟩ := cellfact o u hu
     refine ⟨?_, cv, m1, m4⟩
     rcases m3 with m3 | m3
     ·left
      rw [LVal.p8 (by cases u with | vs b o n xs => cases o <;> simp_all [LVal.plain, LVal.zr] | _ => simp_all [LVal.plain, LVal.zr])]; exact m3
     ·right
      obtain ⟨bb, e, x, n, xs, rfl⟩ := LVal.wT m3
      rfl
    ·rw [List.getElem?_set_ne hi] at ho
     exact (h.st i o ho).yb he (zB.refl _) (fun b hb => hbox b i hb) (fun bl off c e x hb => hkeep bl _ e x hb (by simp; omega))
   vars := fun k v hv => by
    obtain ⟨t, h1, h2, h3⟩ := h.vars k v hv
    exact ⟨t, h1, h2, h3.yb he (zB.refl _) (fun bl c e x hb => hkeep bl _ e x hb (by simp)) (fun _ _ _ h => h)⟩
   rs := fun i v hv => by
    rcases h.rs i v hv with h0 | ⟨t, h1, h2, h3⟩
    ·exact .inl h0
    ·refine .inr ⟨t, h1, h2, h3.yb he (zB.refl _) (fun bl c e x hb => hkeep bl _ e x hb (by simp)) (fun p n xs hp => ?_)⟩
     cases p with
     | var k => exact hp
     | cell i' off =>
      obtain ⟨e, x, ty', c', b', cc', et', fr, q1, q2, q3, q4, q5⟩ := hp
      by_cases hi : id = i'
      ·subst hi
       rw [hc] at q1
       obtain rfl : c = c' := by injection q1 with q1; injection q1
       exact ⟨e, false, et, c.map LVal.stay, b', cc', et', fr, by simp [List.getElem?_set_self', hc], by simp [q2, LVal.stay], q3, q4, q5⟩
      ·exact ⟨e, x, ty', c', b', cc', et', fr, by rw [List.getElem?_set_ne hi]; exact q1, q2, q3, q4, q5⟩ }
 ·refine ⟨rfl, rfl, rfl, Nat.le_refl _, he, zB.refl _, fun b' _ hg => ⟨rfl, ?_⟩, ?_⟩
  ·rw [tK (fun off c e x hg' => by rw [hg] at hg'; cases hg')]; exact hg
  ·rintro b' o (hs | ⟨off, c, e, x, hg, _⟩)
   ·exact .inl hs
   ·exact .inr (.inr (by rw [hg]; simp))
theorem Rel.oP (h : Rel P vm lm ρ S G σ a w) {id : Nat} {et : TypeId} {c : List LVal} (hc : σ.st[id]? = some (.cells et c)) :
 ∃ S' G', Rel P vm lm ρ S' G' { σ with st := σ.st.set id (.cells et (c.map LVal.stay)) } a w ∧ Pr w S G ρ w S' G' ρ ∧
  ∃ b cc, ρ[id]? = some b ∧ w.heap[b]? = some (.cells cc et (0, 0)) ∧ c.length ≤ cc.size ∧
   ∀ (o : Nat) (v : LVal), c[o]? = some v → ∃ cv, cc[o]? = some cv ∧ V w S' ρ v.down cv ∧ (v.plain = true ∨ v.zr = true) ∧ At1 P w S' G' ρ yr (.cell id o, 0) v.stay cv :=
 ⟨_, _, h.downObjX hc⟩
theorem Rel.cellSet (h : Rel P vm lm ρ S G σ a w) (hn : σ.uy) {id off : Nat} {ty : TypeId} {c : List LVal} (hc : σ.st[id]? = some (.cells ty c)) {u : LVal} (hp : u.plain = true)
 (hu : ∃ b cc et, ρ[id]? = some b ∧ w.heap[b]? = some (.cells cc et (0, 0)) ∧ ∃ cv, cc[off]? = some cv ∧ V w S ρ u cv) :
 Rel P vm lm ρ S G { σ with st := σ.st.set id (.cells ty (c.set off u)) } a w where
 defers := h.defers
 vsz := h.vsz
 lsz := h.lsz
 swf := h.swf
 len := by simpa using h.len
 rho := h.rho
 st i o ho := by
  by_cases hi : id = i
  ·subst hi
   rw [List.getElem?_set] at ho
   simp at ho
   obtain ⟨_, rfl⟩ := ho
   obtain ⟨b, cc, h1, h2, h3, h4, h5⟩ := h.st id _ hc
   refine ⟨b, cc, h1, h2, h3, by simpa using h4, fun o v hv => ?_⟩
   by_cases hoff : off = o
   ·subst hoff
    rw [List.getElem?_set] at hv
    simp at hv
    obtain ⟨hlt, rfl⟩ := hv
    obtain ⟨b', cc', et', k1, k2, cv, k3, k4⟩ := hu
    obtain rfl : b = b' := by rw [h1] at k1; exact Option.some.inj k1
    rw [h2] at k2
    injection k2 with k2; injection k2 with k2 _ _
    subst k2
    exact ⟨.inl hp, cv, k3, (At1.simple (LVal.zO hp)).2 k4⟩
   ·rw [List.getElem?_set_ne hoff] at hv
    exact h5 o v hv
  ·rw [List.getElem?_set_ne hi] at ho
   exact h.st i o ho
 vars := h.vars
 rs i v hv := by
  rcases h.rs i v hv with h0 | ⟨t, h1, h2, h3⟩
  ·exact .inl h0
  ·exact .inr ⟨t, h1, h2, h3.uy (fun b p n xs e => hn i b p n xs (e ▸ hv))⟩
theorem ti.relab_cell {p q : qn} {id : Nat} {o : zt} (h : ti P w S G ρ id o) (hp : ∀ off ty c v, o = .cells ty c → p = .cell id off → c[off]? = some v → v.simple = true) : ti P w S (wM p q G) ρ id o := by
 cases o with
 | cells et c =>
  obtain ⟨b, cc, h1, h2, h3, h4, h5⟩ := h
  refine ⟨b, cc, h1, h2, rX.2 h3, h4, fun o v hv => ?_⟩
  obtain ⟨m0, cv, m1, m2⟩ := h5 o v hv
  refine ⟨m0, cv, m1, ?_⟩
  by_cases hb : qn.cell id o = p
  ·have := hp o et c v rfl hb.symm hv
   exact (At1.simple this).2 ((At1.simple this).1 m2)
  ·exact m2.yb (Ext.refl _ _) (zB.refl _) (fun bl e x hg => ⟨rfl, Go.L.vk hg hb⟩) (fun _ _ _ h => h)
 | dead => trivial
 | map es =>
  obtain ⟨b, ces, clock, h1, h2, h3, h4⟩ := h
  exact ⟨b, ces, clock, h1, h2, rX.2 h3, h4⟩
def RS.frees' (σ : RS) : qn → Prop
 | .cell id off => ∀ ty c v, σ.st[id]? = some (.cells ty c) → c[off]? = some v → v.simple = true
 | b => σ.frees b
theorem Rel.relab' (h : Rel P vm lm ρ S G σ a w) {p q : qn} (hp : σ.frees' p) : Rel P vm lm ρ S (wM p q G) σ a w := by
 by_cases hcell : ∃ id off, p = .cell id off
 ·obtain ⟨id, off, rfl⟩ := hcell
  exact {
   defers := h.defers
   vsz := h.vsz
   lsz := h.lsz
   swf := h.swf.xT _ q
   len := h.len
   rho := h.rho
   st := fun i o ho => (h.st i o ho).relab_cell (fun off' ty c v e1 e2 hv => by
    injection e2 with e2 e3
    subst e1; subst e2; subst e3
    exact hp ty c v ho hv)
   vars := fun k v hv => by
    obtain ⟨t, h1, h2, h3⟩ := h.vars k v hv
    exact ⟨t, h1, h2, h3.vk (by simp)⟩
   rs := fun i v hv => by
    rcases h.rs i v hv with h0 | ⟨t, h1, h2, h3⟩
    ·exact .inl h0
    ·exact .inr ⟨t, h1, h2, h3.vk (by simp)⟩ }
 ·refine h.xT ?_
  cases p with
  | cell id off => exact absurd ⟨id, off, rfl⟩ hcell
  | var k => exact hp
  | rs i => exact hp
  | yd => trivial
theorem Rel.acquire (h : Rel P vm lm ρ S G σ a w) {x : Operand} {y : Opd} (hc : zp vm lm x y = true) {v : LVal} (hg : σ.acquire y = some (v, σ')) :
 ∃ S' G', Rel P vm lm ρ S' G' σ' a w ∧ (At P w S' G' ρ yr .yd v (a.eval x) ∨ ∃ l, v = .tup l) ∧ Pr w S G ρ w S' G' ρ := by
 cases y with
 | const c =>
  simp [RS.acquire] at hg
  obtain ⟨rfl, rfl⟩ := hg
  have hs : c.simple = true := by
   cases x with
   | const c' => simp only [zp, Bool.and_eq_true] at hc; exact hc.2
   | func f => cases c <;> simp_all [zp, LVal.simple]
   | _ => simp [zp] at hc
  exact ⟨S, G, h, .inl ((At.simple hs).2 (h.zM hc (y := .const c) rfl hs)), Pr.refl ..⟩
 | var k => simp [RS.acquire] at hg
 | loc i =>
  simp only [RS.acquire] at hg
  cases hv : σ.rs[i]? with
  | none => simp [hv] at hg
  | some u =>
   simp only [hv, Option.bind_some] at hg
   have same : u.simple = true → v = u → σ' = σ → ∃ S' G', Rel P vm lm ρ S' G' σ' a w ∧ (At P w S' G' ρ yr .yd v (a.eval x) ∨ ∃ l, v = .tup l) ∧ Pr w S G ρ w S' G' ρ := by
    rintro hs rfl rfl
    exact ⟨S, G, h, .inl ((At.simple hs).2 (h.zM hc (y := .loc i) hv hs)), Pr.refl ..⟩
   cases u with
   | vs b o n xs =>
    cases o with
    | own e xx =>
     have hgive : σ.yW (.loc i) = some (v, σ') := by simp only [RS.yW, hv, Option.bind_some]; exact hg
     obtain ⟨S', G', k1, k2, k3⟩ := h.yW hc hgive
     exact ⟨S', G', k1, .inl k2, k3⟩
    | sh => simp at hg; exact same rfl hg.1.symm hg.2.symm
    | full => simp at hg; exact same rfl hg.1.symm hg.2.symm
    | pk p =>
     cases x with
     | tmp t =>
      simp [zp] at hc
      rcases h.rs i _ hv with h0 | ⟨t', h1, h2, h3⟩
      ·cases h0
      ·rw [hc] at h1; injection h1 with h1; injection h1 with h1; subst h1
       obtain ⟨rfl, hp⟩ := h3
       cases p with
       | var k =>
        obtain ⟨e, x, t', m1, m2, m3⟩ := hp
        simp only [m1, Option.bind_some, LVal.zr, if_true, Option.some.injEq, Prod.mk.injEq] at hg
        obtain ⟨rfl, rfl⟩ := hg
        obtain ⟨t'', q1, q2, q3⟩ := h.vars k _ m1
        obtain rfl : t' = t'' := by rw [m2] at q1; exact Option.some.inj q1
        rw [m3] at q3
        have hu := h.yJ.oT σ.vq k
        have hf : RS.frees { σ.yJ with vars := σ.vars.set k .undef } (.var k) := by
         intro z hz
         rw [List.getElem?_set] at hz
         simp at hz
         rw [← hz.2]; rfl
        refine ⟨S, wM (.var k) .yd G, hu.xT hf, .inl (q3.xT), Pr.xT ..⟩
       | cell id off =>
        obtain ⟨e, x, ty, c, b, cc, et, fr, m1, m2, m3, m4, m5⟩ := hp
        simp only [m1, m2, Option.bind_some, LVal.zr, if_true, Option.some.injEq, Prod.mk.injEq] at hg
        obtain ⟨rfl, rfl⟩ := hg
        obtain ⟨b', cc', q1, q2, q3, q4, q5⟩ := h.st id _ m1
        obtain rfl : b = b' := by rw [m3] at q1; exact Option.some.inj q1
        rw [m4] at q2
        injection q2 with q2; injection q2 with q2 _ _
        subst q2
        obtain ⟨_, cv', r1, r2⟩ := q5 off _ m2
        have ecv : a.tmps.getD t undef = cv' := by rw [m5] at r1; exact Option.some.inj r1
        obtain ⟨S', G', k1, k2, b2, cc2, p1, p2, p3, p4⟩ := h.yJ.oP m1
        obtain rfl : b = b2 := by rw [m3] at p1; exact Option.some.inj p1
        have p2c := p2
        rw [m4] at p2
        injection p2 with p2; injection p2 with p2 _ _
        subst p2
        obtain ⟨cv2, w1, w2, w3, w4⟩ := p4 off _ m2
        have ecv2 : cv' = cv2 := by rw [r1] at w1; exact Option.some.inj w1
        subst ecv2
        have hst : { σ.yJ with st := σ.st.set id (.cells ty ((c.map LVal.stay).set off (LVal.down (.vs false (.own e x) n xs)))) } =
         ({ ({ σ.yJ with st := σ.st.set id (.cells ty (c.map LVal.stay)) } : RS) with st := (σ.st.set id (.cells ty (c.map LVal.stay))).set id (.cells ty ((c.map LVal.stay).set off (.vs false .sh n xs))) } : RS) := by
         simp [List.set_set, LVal.down]
        have hlook : (σ.st.set id (.cells ty (c.map LVal.stay)))[id]? = some (.cells ty (c.map LVal.stay)) := by simp [List.getElem?_set_self', m1]
        rw [hst]
        have hu := k1.cellSet (off := off) (u := .vs false .sh n xs) (RS.vq σ) hlook rfl ⟨b, cc, ty, m3, p2c, _, r1, w2⟩
        have hf : RS.frees' { ({ σ.yJ with st := σ.st.set id (.cells ty (c.map LVal.stay)) } : RS) with st := (σ.st.set id (.cells ty (c.map LVal.stay))).set id (.cells ty ((c.map LVal.stay).set off (.vs false .sh n xs))) } (.cell id off) := by
         intro ty' c' z hc' hz
         simp only [List.getElem?_set_self', hlook] at hc'
         simp at hc'
         obtain ⟨_, rfl⟩ := hc'
         rw [List.getElem?_set] at hz
         simp at hz
         rw [← hz.2]; rfl
        refine ⟨S', wM (.cell id off) .yd G', hu.relab' hf, .inl ?_, k2.trans (Pr.xT ..)⟩
        show At P w S' _ ρ yr .yd _ (a.tmps.getD t undef)
        rw [ecv]
        exact (At.nt (by simp [LVal.stay])).2 (At1.xT w4)
     | _ => simp [zp] at hc
   | tup l =>
    simp at hg
    obtain ⟨rfl, rfl⟩ := hg
    exact ⟨S, G, h, .inr ⟨_, rfl⟩, Pr.refl ..⟩
   | _ => simp at hg; exact same rfl hg.1.symm hg.2.symm
end Go.L
namespace Go.L
open Go
variable {P : Program} {vm : List Nat} {lm : List (Option Nat)} {ρ ρ' : List Nat} {S S' : Nat → Nat → Prop} {G G' : Nat → Cl} {σ σ' : RS} {a : Act} {w w' : World}
def ru : TypeDesc → Bool
 | .struct _ | .array _ _ => true
 | _ => false
def ry (P : Program) (t : TypeId) (agg : Bool) (n : Nat) : Bool :=
 match P.underlying t with
 | some d => ru d == agg && (P.info? t).map (·.size) == some n && (agg || n == 1)
 | none => false
def uO (P : Program) (t : TypeId) (cells : List LVal) : Bool :=
 match (P.info? t).bind (·.zero) with
 | some z => wW z.cells.toList cells && cells.all LVal.plain
 | none => false
theorem uQ {t agg n} (h : ry P t agg n = true) : ∃ d i, P.underlying t = some d ∧ ru d = agg ∧ P.info? t = some i ∧ i.size = n ∧ (agg = false → n = 1) := by
 unfold ry at h
 cases hd : P.underlying t with
 | none => simp [hd] at h
 | some d =>
  simp only [hd, Bool.and_eq_true, beq_iff_eq, Option.map_eq_some_iff, Bool.or_eq_true] at h
  obtain ⟨⟨h1, i, h2, h3⟩, h4⟩ := h
  exact ⟨d, i, rfl, h1, h2, h3, fun e => by simpa [e] using h4⟩
theorem sE {t : TypeId} {d : TypeDesc} (h : P.underlying t = some d) (w : World) : (isAgg t).run P w = .ok (ru d) w := by
 unfold isAgg
 simp only [Sem.run_bind, run_underlying h, Result.andThen_ok]
 cases d <;> rfl
theorem x9 {t : TypeId} {i : TypeInfo} {z : Value} (h : P.info? t = some i) (hz : i.zero = some z) (w : World) : (zeroValue t).run P w = .ok z w := by
 unfold zeroValue
 simp [run_typeInfo w h, hz]
theorem xS {t : TypeId} {i : TypeInfo} (h : P.info? t = some i) (w : World) : (sizeOf t).run P w = .ok i.size w := by
 simp [sizeOf, run_typeInfo w h]
def yn (P : Program) (o : Oper) (a : Act) (w : World) (R : Value → World → Prop) : Prop :=
 ∀ (K : Act → World → Prop) (Q : Exit → Act → World → Prop), (∀ cv w', R cv w' → K (a.put o.dst cv) w') → o.wp P a w K Q
theorem yn.value {o : Oper} {R : Value → World → Prop} {cv : Value} (hr : (execOp a.eval o).run P w = .ok (.value cv) w') (h : R cv w') : yn P o a w R := by
 intro K Q hk
 unfold Oper.wp
 rw [hr]
 exact hk cv w' h
theorem yn.skip {o : Oper} {R : Value → World → Prop} (hr : (execOp a.eval o).run P w = .ok .skip w') (h : R undef w') : yn P o a w R := by
 intro K Q hk
 unfold Oper.wp
 rw [hr]
 exact hk undef w' h
def xk (P : Program) (vm : List Nat) (lm : List (Option Nat)) (ρ : List Nat) (S : Nat → Nat → Prop) (G : Nat → Cl) (w : World) (a : Act) (σ' : RS) (v : LVal) : Value → World → Prop :=
 fun cv w' => ∃ ρ' S' G', Rel P vm lm ρ' S' G' σ' a w' ∧ At P w' S' G' ρ' (tm vm ρ' σ' a w') .yd v cv ∧ Pr w S G ρ w' S' G' ρ'
theorem xk.of {v : LVal} {cv : Value} (h : Rel P vm lm ρ' S' G' σ' a w') (hv : At P w' S' G' ρ' yr .yd v cv) (hp : Pr w S G ρ w' S' G' ρ') : xk P vm lm ρ S G w a σ' v cv w' :=
 ⟨ρ', S', G', h, sX hv _, hp⟩
theorem xk.simple {v : LVal} {cv : Value} (h : Rel P vm lm ρ' S' G' σ' a w') (hs : v.simple = true) (hv : V w' S' ρ' v cv) (hp : Pr w S G ρ w' S' G' ρ') : xk P vm lm ρ S G w a σ' v cv w' :=
 ⟨ρ', S', G', h, (At.simple hs).2 hv, hp⟩
theorem xk.pure {v : LVal} {cv : Value} (h : Rel P vm lm ρ S G σ a w) (hs : v.simple = true) (hv : V w S ρ v cv) : xk P vm lm ρ S G w a σ v cv w :=
 .simple h hs hv (Pr.refl ..)
theorem yi {o : Oper} {s : Sem Value} {cv : Value} (he : execOp a.eval o = (do Pure.pure (.value (← s)))) (hs : s.run P w = .ok cv w') : (execOp a.eval o).run P w = .ok (.value cv) w' := by
 rw [he]; simp [hs]
theorem exec_u {o : Oper} {s : Sem Unit} (he : execOp a.eval o = (do s; Pure.pure .skip)) (hs : s.run P w = .ok () w') : (execOp a.eval o).run P w = .ok .skip w' := by
 rw [he]; simp [hs]
section inv
variable {cv : Value}
theorem V.vn {b} (h : V w S ρ (.bool b) cv) : cv = .bool b := by cases h; rfl
theorem V.xP {k n} (h : V w S ρ (.int k n) cv) : cv = .int k n := by cases h; rfl
theorem V.vK {s} (h : V w S ρ (.str s) cv) : cv = .string ⟨⟨s⟩⟩ := by cases h; rfl
theorem V.sL {id off} (h : V w S ρ (.ptr id off) cv) : ∃ b, ρ[id]? = some b ∧ cv = .pointer (some ⟨b, off, none⟩) := by cases h with | ptr h => exact ⟨_, h, rfl⟩
theorem V.qV {v} (h : V w S ρ (.ref v) cv) : ∃ b off, Row w S b off v.cells ∧ cv = .pointer (some ⟨b, off, none⟩) := by cases h with | ref h => exact ⟨_, _, h, rfl⟩
theorem V.nilptr_inv (h : V w S ρ .vh cv) : cv = .pointer none := by cases h; rfl
theorem V.pK {id off len esz agg} (h : V w S ρ (.ms id off len esz agg) cv) : ∃ b cap, ρ[id]? = some b ∧ len ≤ cap ∧ cap ≤ maxLen ∧ cv = .slice (some ⟨b, off, none⟩) len cap := by
 cases h with | ms h1 h2 h3 => exact ⟨_, _, h1, h2, h3, rfl⟩
theorem V.oL {id} (h : V w S ρ (.map id) cv) : ∃ b, ρ[id]? = some b ∧ cv = .map (some b) := by cases h with | map h => exact ⟨_, h, rfl⟩
theorem V.qH (h : V w S ρ .wq cv) : cv = .map none := by cases h; rfl
theorem V.func_inv {f caps} (h : V w S ρ (.func f caps) cv) : ∃ cs, VL w S ρ caps cs ∧ cv = .func (.func f) #[] ⟨cs⟩ := by cases h with | func h _ => exact ⟨_, h, rfl⟩
theorem V.nilfunc_inv (h : V w S ρ .x6 cv) : cv = .nilFunc := by cases h; rfl
theorem V.pO {t v} (h : V w S ρ (.iface t v) cv) : ∃ x, V w S ρ v x ∧ (v.plain = true ∨ v.isAgg = true) ∧ cv = .iface t x := by cases h with | iface h1 h2 => exact ⟨_, h1, h2, rfl⟩
theorem V.qZ (h : V w S ρ .yX cv) : cv = .nilIface := by cases h; rfl
theorem V.pg {cs} (h : V w S ρ (.agg cs) cv) : ∃ xs, VL w S ρ cs xs ∧ cs.all LVal.plain = true ∧ cv = .agg ⟨xs⟩ := by cases h with | agg h1 h2 => exact ⟨_, h1, h2, rfl⟩
end inv
theorem wC {o : Obj} {b : Nat} (hb : b < w.heap.size) : (w.alloc o).heap[b]? = w.heap[b]? := by
 show (w.heap.push o)[b]? = _
 rw [Array.getElem?_push, if_neg (by omega)]
theorem xN {o : Obj} : (w.alloc o).heap[w.heap.size]? = some o := by
 show (w.heap.push o)[_]? = _
 simp
theorem tp {o : Obj} : (w.alloc o).heap.size = w.heap.size + 1 := by
 show (w.heap.push o).size = _
 simp
theorem SWf.uu {b} (hs : SWf w S G) (hg : G b ≠ .ro) : b < w.heap.size := by
 rcases Nat.lt_or_ge b w.heap.size with h | h
 ·exact h
 ·exact absurd (hs.fresh b h) hg
theorem Ext.alloc (hs : SWf w S G) (o : Obj) : Ext S w S (w.alloc o) := fun b o' h1 => ⟨h1, World.cell?_alloc_lt _ _ _ (hs.lt _ _ h1)⟩
def gnew (w : World) (G : Nat → Cl) (id : Nat) : Nat → Cl := fun b => if b = w.heap.size then .box id else G b
section
variable {C : xV} {im : TypeId → String → Option FuncId} {impl : TypeId → TypeId → Bool}
variable (h : Rel P vm lm ρ S G σ a w) {o : Oper}
include h
theorem ok_asg {x : Operand} {y : Opd} (ho : o.op = .assign x ∨ o.op = .move x) (hc : zp vm lm x y = true) {v : LVal} (hs : σ.yW y = some (v, σ')) : yn P o a w (xk P vm lm ρ S G w a σ' v) := by
 obtain ⟨S', G', k1, k2, k3⟩ := h.yW hc hs
 refine .value (cv := a.eval x) (w' := w) ?_ (.of k1 k2 k3)
 rcases ho with ho | ho <;> simp [execOp, ho]
theorem ok_take {x : Operand} {y : Opd} (ho : o.op = .assign x ∨ o.op = .move x) (hc : zp vm lm x y = true) {v : LVal} (hs : σ.take y = some (v, σ')) : yn P o a w (xk P vm lm ρ S G w a σ' v) := by
 obtain ⟨S', G', k1, k2, k3, k4⟩ := h.take hc hs
 refine .value (cv := a.eval x) (w' := w) ?_ (.simple k1 k3 k2 k4)
 rcases ho with ho | ho <;> simp [execOp, ho]
theorem ok_look {x : Operand} {k : Nat} (ho : o.op = .assign x ∨ o.op = .move x) (hc : zp vm lm x (.var k) = true) {v : LVal} (hs : sem C im impl σ (.mv (.var k) true) = some (v, σ')) :
 yn P o a w (xk P vm lm ρ S G w a σ' v) := by
 have hrun : (execOp a.eval o).run P w = .ok (.value (a.eval x)) w := by rcases ho with ho | ho <;> simp [execOp, ho]
 simp only [sem] at hs
 cases hu : σ.vars[k]? with
 | none => simp [hu] at hs
 | some u =>
  simp only [hu, Option.bind_some] at hs
  cases x with
  | tmp t =>
   simp [zp] at hc
   obtain ⟨t', h1, h2, h3⟩ := h.vars k u hu
   rw [hc] at h1; injection h1 with h1; subst h1
   refine .value hrun ?_
   cases u with
   | vs b o n xs =>
    cases o with
    | own e x =>
     simp at hs
     obtain ⟨rfl, rfl⟩ := hs
     obtain ⟨rfl, _⟩ := h3
     exact ⟨ρ, S, G, h, ⟨rfl, e, x, t, hu, hc, rfl⟩, Pr.refl ..⟩
    | pk p => exact (h3.2).elim
    | sh => simp at hs; obtain ⟨rfl, rfl⟩ := hs; exact ⟨ρ, S, G, h, h3, Pr.refl ..⟩
    | full => simp at hs; obtain ⟨rfl, rfl⟩ := hs; exact ⟨ρ, S, G, h, h3, Pr.refl ..⟩
   | tup l => simp at hs
   | _ => simp at hs; obtain ⟨rfl, rfl⟩ := hs; exact ⟨ρ, S, G, h, h3, Pr.refl ..⟩
  | _ => simp [zp] at hc
theorem ok_pick {c x y : Operand} {c' x' y' : Opd} (ho : o.op = .pick c x y) (hc : zp vm lm c c' = true) (hx : zp vm lm x x' = true) (hy : zp vm lm y y' = true) {v : LVal}
 (hs : sem C im impl σ (.pick c' x' y') = some (v, σ')) : yn P o a w (xk P vm lm ρ S G w a σ' v) := by
 simp only [sem, Option.bind_eq_some_iff] at hs
 obtain ⟨b, h1, h2⟩ := hs
 cases b with
 | bool b =>
  have hb := h.zM hc h1 rfl
  have hcb : a.eval c = .bool b := hb.vn
  cases b with
  | true =>
   obtain ⟨S', G', k1, k2, k3, k4⟩ := h.take hx (by simpa using h2)
   exact .value (cv := a.eval x) (w' := w) (by simp [execOp, ho, hcb, asBool]) (.simple k1 k3 k2 k4)
  | false =>
   obtain ⟨S', G', k1, k2, k3, k4⟩ := h.take hy (by simpa using h2)
   exact .value (cv := a.eval y) (w' := w) (by simp [execOp, ho, hcb, asBool]) (.simple k1 k3 k2 k4)
 | _ => simp at h2
omit h in
theorem tm.st {σ σ' : RS} {p n xs cv} (h : tm vm ρ σ a w p n xs cv) (hv : σ'.vars = σ.vars) (hst : ∀ (id : Nat) ty c, σ.st[id]? = some (.cells ty c) → σ'.st[id]? = some (.cells ty c))
 (hr : zB ρ ρ') (hb : ∀ (id b : Nat), ρ[id]? = some b → (∃ ty c, σ.st[id]? = some (zt.cells ty c)) → w'.heap[b]? = w.heap[b]?) : tm vm ρ' σ' a w' p n xs cv := by
 cases p with
 | var k =>
  obtain ⟨e, x, t, h1, h2, h3⟩ := h
  exact ⟨e, x, t, by rw [hv]; exact h1, h2, h3⟩
 | cell id off =>
  obtain ⟨e, x, ty, c, b, cc, et, fr, h1, h2, h3, h4, h5⟩ := h
  exact ⟨e, x, ty, c, b, cc, et, fr, hst _ _ _ h1, h2, hr _ _ h3, (hb _ _ h3 ⟨ty, c, h1⟩).trans h4, h5⟩
omit h in
theorem Rel.newObj (h : Rel P vm lm ρ S G σ a w) {ob : Obj} {ol : zt}
 (hob : ∀ G' ρ', G' w.heap.size = .box σ.st.length → zB ρ ρ' → ρ'[σ.st.length]? = some w.heap.size → Ext S w S (w.alloc ob) →
  (∀ bl l e x, G bl = .arr l e x → (w.alloc ob).heap[bl]? = w.heap[bl]? ∧ G' bl = G bl) → ti P (w.alloc ob) S G' ρ' σ.st.length ol) :
 ∃ G', Rel P vm lm (ρ ++ [w.heap.size]) S G' (σ.alloc ol) a (w.alloc ob) ∧ Pr w S G ρ (w.alloc ob) S G' (ρ ++ [w.heap.size]) ∧
  (∀ bl l e x, G bl = .arr l e x → (w.alloc ob).heap[bl]? = w.heap[bl]? ∧ G' bl = G bl) := by
 have he := Ext.alloc h.swf ob
 have hr := zB.app ρ [w.heap.size]
 have hkeep : ∀ b, G b ≠ .ro → (w.alloc ob).heap[b]? = w.heap[b]? ∧ gnew w G σ.st.length b = G b := fun b hb => by
  have hlt := h.swf.uu hb
  exact ⟨wC hlt, by simp [gnew]; omega⟩
 have hsz : (w.alloc ob).heap.size = w.heap.size + 1 := tp
 refine ⟨gnew w G σ.st.length, ?_, ?_, fun bl l e x hg => hkeep bl (by rw [hg]; simp)⟩
 ·exact {
   defers := h.defers
   vsz := h.vsz
   lsz := h.lsz
   swf := {
    lt := fun b o hs => by have := h.swf.lt b o hs; omega
    fresh := fun b hb => by
     have : b ≠ w.heap.size := by omega
     simp [gnew, this]; exact h.swf.fresh b (by omega)
    box := fun b o id hs hg => by
     have := h.swf.lt b o hs
     simp [gnew] at hg
     rw [if_neg (by omega)] at hg
     exact h.swf.box b o id hs hg
    arr := fun b o l e x hs hg => by
     have := h.swf.lt b o hs
     simp [gnew] at hg
     rw [if_neg (by omega)] at hg
     exact h.swf.arr b o l e x hs hg }
   len := by simp [RS.alloc, h.len]
   rho := fun id b hb => by
    rw [List.getElem?_append] at hb
    split at hb
    ·have := h.rho id b hb; omega
    ·simp [List.getElem?_cons] at hb
     omega
   st := fun id o ho => by
    simp only [RS.alloc] at ho
    rw [List.getElem?_append] at ho
    split at ho
    ·refine (h.st id o ho).yb he hr (fun b hb => hkeep b (by rw [hb]; simp)) (fun bl off c e x hb => hkeep bl (by rw [hb]; simp))
    ·rename_i hlt
     have hid : id = σ.st.length := by
      have := (List.getElem?_eq_some_iff.1 ho).1
      simp at this; omega
     subst hid
     simp at ho
     subst ho
     exact hob _ _ (by simp [gnew]) hr (by rw [List.getElem?_append_right (by rw [h.len]; exact Nat.le_refl _)]; simp [h.len]) he (fun bl l e x hg => hkeep bl (by rw [hg]; simp))
   vars := fun k v hv => by
    obtain ⟨t, h1, h2, h3⟩ := h.vars k v hv
    exact ⟨t, h1, h2, h3.yb he hr (fun bl c e x hb => hkeep bl (by rw [hb]; simp)) (fun _ _ _ h => h)⟩
   rs := fun i v hv => by
    rcases h.rs i v hv with h0 | ⟨t, h1, h2, h3⟩
    ·exact .inl h0
    ·refine .inr ⟨t, h1, h2, h3.yb he hr (fun bl c e x hb => hkeep bl (by rw [hb]; simp)) (fun p n xs hp => tm.st hp rfl (fun id ty c hc => ?_) hr (fun id b hb _ => wC (h.rho id b hb)))⟩
     simp only [RS.alloc]
     rw [List.getElem?_append_left (List.getElem?_eq_some_iff.1 hc).1]
     exact hc }
 ·refine ⟨rfl, rfl, rfl, by omega, he, hr, fun b hb hg => ⟨wC hb, by simp [gnew]; rw [if_neg (by omega)]; exact hg⟩, fun b o hs => .inl hs⟩
theorem ok_alloc {t : TypeId} {cells : List LVal} (ho : o.op = .alloc t) (hz : uO P t cells = true) : yn P o a w (xk P vm lm ρ S G w a (σ.alloc (.cells t cells)) (.ptr σ.st.length 0)) := by
 unfold uO at hz
 cases hi : P.info? t with
 | none => simp [hi] at hz
 | some i =>
  cases hzz : i.zero with
  | none => simp [hi, hzz] at hz
  | some z =>
   simp only [hi, Option.bind_some, hzz, Bool.and_eq_true] at hz
   have hrun : (execOp a.eval o).run P w = .ok (.value (.pointer (some ⟨w.heap.size, 0, none⟩))) (w.alloc (.cells z.cells t)) := by
    refine yi (s := Instr.alloc t true (.tuple #[])) (by simp [execOp, ho]) ?_
    simp [Instr.alloc, x9 hi hzz, newVar, newRow]
   have hVL : VL w S ρ cells z.cells.toList := wW.VL ρ hz.1
   obtain ⟨G', k1, k2, k3⟩ := h.newObj (ob := .cells z.cells t) (ol := .cells t cells) (fun G' ρ' hG hr hρ he hk => by
    refine ⟨w.heap.size, z.cells, hρ, xN, hG, ?_, fun o v hv => ?_⟩
    ·have := hVL.length; simp at this; omega
    ·obtain ⟨c, hc, hvc⟩ := hVL.get o v hv
     have hp : v.plain = true := by
      have := List.all_eq_true.1 hz.2 v (List.mem_of_getElem? hv)
      exact this
     exact ⟨.inl hp, c, by simpa using hc, (At1.simple (LVal.zO hp)).2 (hvc.mono he hr)⟩)
   refine .value hrun (.simple k1 rfl (.ptr ?_) k2)
   rw [List.getElem?_append_right (by rw [h.len]; exact Nat.le_refl _)]; simp [h.len]
omit h in
theorem At1.of_pend_own {b e x n xs cv id} (hv : At P w S G ρ yr .yd (.vs b (.own e x) n xs) cv) : At1 P w S (wM .yd (.cell id 0) G) ρ yr (.cell id 0, 0) (.vs b (.own e x) n xs) cv :=
 At1.xT ((At.nt (by simp)).1 hv)
end
end Go.L
namespace Go.L
open Go
variable {P : Program} {vm : List Nat} {lm : List (Option Nat)} {ρ ρ' : List Nat} {S S' : Nat → Nat → Prop} {G G' : Nat → Cl} {σ σ' : RS} {a : Act} {w w' : World}
variable {C : xV} {im : TypeId → String → Option FuncId} {impl : TypeId → TypeId → Bool}
theorem V.one {v : LVal} {cv : Value} (h : V w S ρ v cv) (hp : v.plain = true) : cv.oneCell' = true ∧ cv.cells = #[cv] := by
 cases h <;> first | (simp [LVal.plain] at hp; done) | exact ⟨rfl, rfl⟩
theorem tO.one {l e x n xs cv} (h : tO P w S G l e x n xs cv) : cv.oneCell' = true ∧ cv.cells = #[cv] := by
 obtain ⟨b, cap, cur, h1, _⟩ := h
 subst h1; exact ⟨rfl, rfl⟩
theorem V.cells {v : LVal} {cv : Value} (h : V w S ρ v cv) (hp : v.cells.all LVal.plain = true) : VL w S ρ v.cells cv.cells.toList ∧ ∀ c ∈ cv.cells.toList, c.oneCell' = true := by
 cases v with
 | agg cs =>
  obtain ⟨xs, h1, h2, rfl⟩ := h.pg
  refine ⟨h1, fun c hc => ?_⟩
  obtain ⟨i, hi, hic⟩ := List.getElem_of_mem hc
  have hl := h1.length
  have hi' : i < xs.length := hi
  obtain ⟨c', e, hv⟩ := h1.get i cs[i] (List.getElem?_eq_getElem (by omega))
  have : c = c' := by
   have h3 : xs[i]? = some c := by rw [List.getElem?_eq_getElem hi']; exact congrArg some hic
   rw [h3] at e; exact Option.some.inj e
  subst this
  exact (hv.one (List.all_eq_true.1 h2 _ (List.getElem_mem _))).1
 | undef => simp [LVal.cells, LVal.plain] at hp
 | bool _ | int _ _ | str _ | ptr _ _ | ref _ | vh | vs _ _ _ _ | ms _ _ _ _ _ | map _ | wq | func _ _ | x6 | iface _ _ | yX | tup _ =>
  have hp' := (by simpa [LVal.cells] using hp)
  obtain ⟨h1, h2⟩ := h.one hp'
  rw [h2]
  exact ⟨.cons h .nil, fun c hc => by simp at hc; subst hc; exact h1⟩
section
variable (h : Rel P vm lm ρ S G σ a w) {o : Oper}
include h
theorem ok_boxed {v : LVal} {cv : Value} (hv : At P w S G ρ yr .yd v cv) (hp : (v.cells.all LVal.plain || (!v.isAgg && v.zr)) = true) (t : TypeId) :
 ∃ G', Rel P vm lm (ρ ++ [w.heap.size]) S G' (σ.alloc (.cells t v.cells)) a (w.alloc (.cells cv.cells t)) ∧ Pr w S G ρ (w.alloc (.cells cv.cells t)) S G' (ρ ++ [w.heap.size]) := by
 by_cases hall : v.cells.all LVal.plain = true
 ·have hs : v.simple = true := by
   cases v with
   | vs b o n xs => cases o <;> simp_all [LVal.simple, LVal.cells, LVal.plain]
   | tup l => simp [LVal.cells, LVal.plain] at hall
   | _ => rfl
  have hV := (At.simple hs).1 hv
  obtain ⟨hVL, _⟩ := hV.cells hall
  obtain ⟨G', k1, k2, _⟩ := h.newObj (ob := .cells cv.cells t) (ol := .cells t v.cells) (fun G' ρ' hG hr hρ he hk => by
   refine ⟨w.heap.size, cv.cells, hρ, xN, hG, ?_, fun o u hu => ?_⟩
   ·have := hVL.length; simp at this; omega
   ·obtain ⟨c, hc, hvc⟩ := hVL.get o u hu
    have hpu : u.plain = true := List.all_eq_true.1 hall u (List.mem_of_getElem? hu)
    exact ⟨.inl hpu, c, by simpa using hc, (At1.simple (LVal.zO hpu)).2 (hvc.mono he hr)⟩)
  exact ⟨G', k1, k2⟩
 ·have hown : v.zr = true := by
   simp only [Bool.or_eq_true, Bool.and_eq_true] at hp
   rcases hp with hp | hp
   ·exact absurd hp hall
   ·exact hp.2
  obtain ⟨bb, e, x, n, xs, rfl⟩ := LVal.wT hown
  have h1 := h.xT (p := .yd) (q := .cell σ.st.length 0) trivial
  have hat := At1.of_pend_own (id := σ.st.length) hv
  have hcells : cv.cells = #[cv] := by have := (At.nt (by simp)).1 hv; exact this.2.one.2
  obtain ⟨G', k1, k2, _⟩ := h1.newObj (ob := .cells cv.cells t) (ol := .cells t [.vs bb (.own e x) n xs]) (fun G' ρ' hG hr hρ he hk => by
   refine ⟨w.heap.size, cv.cells, hρ, xN, hG, by simp [hcells], fun o u hu => ?_⟩
   cases o with
   | zero =>
    simp at hu; subst hu
    refine ⟨.inr rfl, cv, by simp [hcells], hat.yb he hr (fun bl e x hg => hk bl _ e x hg) (fun _ _ _ h => h)⟩
   | succ o => simp at hu)
  exact ⟨G', k1, (Pr.xT ..).trans k2⟩
theorem ok_box {x : Operand} {y : Opd} {t : TypeId} (ho : o.op = .box t x) (hc : zp vm lm x y = true) {v : LVal} (hs : sem C im impl σ (.box t y) = some (v, σ')) :
 yn P o a w (xk P vm lm ρ S G w a σ' v) := by
 simp only [sem, Option.bind_eq_some_iff] at hs
 obtain ⟨⟨u, σ1⟩, h1, h2⟩ := hs
 dsimp only at h2
 split at h2
 ·rename_i hp
  simp at h2
  obtain ⟨rfl, rfl⟩ := h2
  obtain ⟨S1, G1, k1, k2, k3⟩ := h.yW hc h1
  obtain ⟨G', m1, m2⟩ := ok_boxed k1 k2 hp t
  refine .value (cv := .pointer (some ⟨w.heap.size, 0, none⟩)) (w' := w.alloc (.cells (a.eval x).cells t)) ?_ (.simple m1 rfl (.ptr ?_) (k3.trans m2))
  ·refine yi (s := Instr.box t (a.eval x)) (by simp [execOp, ho]) ?_
   simp [Instr.box, newVar, newRow]
  ·rw [List.getElem?_append_right (by rw [k1.len]; exact Nat.le_refl _)]; simp [k1.len]
 ·simp at h2
def rN (P : Program) (vm : List Nat) (lm : List (Option Nat)) (place : Nat → Option (Nat × Nat)) : List (Nat × Operand) → List (Nat × Nat × Opd) → Bool
 | [], [] => true
 | (i, x) :: r, (off, n, y) :: r' => place i == some (off, n) && zp vm lm x y && rN P vm lm place r r'
 | _, _ => false
omit h in
theorem qO : ∀ {ps : List (Nat × Operand)} {qs : List (Nat × Nat × Opd)} {S G σ} (_ : Rel P vm lm ρ S G σ a w) {place} (_ : rN P vm lm place ps qs = true)
 {us : List (Nat × Nat × LVal)} {σ' : RS} (_ : σ.zR qs = some (us, σ')),
 ∃ S' G', Rel P vm lm ρ S' G' σ' a w ∧ Pr w S G ρ w S' G' ρ ∧ us.length = ps.length ∧
  ∀ (j : Nat) off n v, us[j]? = some (off, n, v) → ∃ i x, ps[j]? = some (i, x) ∧ place i = some (off, n) ∧ V w S' ρ v (a.eval x)
 | [], [], S, G, σ, h, place, _, us, σ', ht => by
  simp [RS.zR] at ht
  obtain ⟨rfl, rfl⟩ := ht
  exact ⟨S, G, h, Pr.refl .., rfl, fun j _ _ _ hj => by simp at hj⟩
 | (i, x) :: ps, (off, n, y) :: qs, S, G, σ, h, place, hc, us, σ', ht => by
  simp only [rN, Bool.and_eq_true, beq_iff_eq] at hc
  simp only [RS.zR, Option.bind_eq_some_iff, Option.map_eq_some_iff] at ht
  obtain ⟨⟨u, σ1⟩, h1, ⟨⟨us1, σ2⟩, h2, e⟩⟩ := ht
  injection e with e1 e2; subst e1; subst e2
  obtain ⟨S1, G1, k1, k2, k3, k4⟩ := h.take hc.1.2 h1
  obtain ⟨S2, G2, m1, m2, m3, m4⟩ := qO k1 hc.2 h2
  refine ⟨S2, G2, m1, k4.trans m2, by simp [m3], fun j off' n' v hj => ?_⟩
  cases j with
  | zero =>
   simp at hj
   obtain ⟨rfl, rfl, rfl⟩ := hj
   exact ⟨i, x, rfl, hc.1.1, LVal.arg_V (k2.mono m2.ext (zB.refl _))⟩
  | succ j =>
   obtain ⟨i', x', q1, q2, q3⟩ := m4 j off' n' v (by simpa using hj)
   exact ⟨i', x', by simpa using q1, q2, q3⟩
omit h in
theorem VL.setPart {cs us : List LVal} {cc : Array Value} {uc : List Value} (h : VL w S ρ cs cc.toList) (hu : VL w S ρ us uc) {off : Nat} (hl : off + us.length ≤ cs.length) :
 VL w S ρ (cs.take off ++ us ++ cs.drop (off + us.length)) ((uc.zipIdx 0).foldl (fun cs (x : Value × Nat) => cs.setIfInBounds (off + x.2) x.1) cc).toList := by
 obtain ⟨h1, h2⟩ := Great.foldl_set off uc 0 cc
 have hlen := h.length
 have hul := hu.length
 simp at hlen
 refine VL.of (by simp [h1]; omega) (fun i v hv => ?_)
 rw [List.append_assoc] at hv
 simp only [Array.getElem?_toList, h2 i, Nat.add_zero]
 rw [List.getElem?_append] at hv
 simp only [List.length_take] at hv
 split at hv
 ·rename_i hi
  rw [if_neg (by omega)]
  rw [List.getElem?_take] at hv
  split at hv
  ·simpa using h.get i v hv
  ·simp at hv
 ·rename_i hi
  rw [List.getElem?_append] at hv
  split at hv
  ·rename_i hi2
   rw [if_pos (by omega)]
   have e : i - min off cs.length = i - off := by omega
   rw [e] at hv
   exact hu.get _ v hv
  ·rename_i hi2
   rw [List.getElem?_drop] at hv
   have e : off + us.length + (i - min off cs.length - us.length) = i := by omega
   rw [e] at hv
   rw [if_neg (by omega)]
   simpa using h.get i v hv
omit h in
theorem fill_ok {place : Nat → Option (Nat × Nat)} : ∀ {ps : List (Nat × Value)} {us : List (Nat × Nat × LVal)} {cs cs' : List LVal} {cc : Array Value}, VL w S ρ cs cc.toList → us.length = ps.length →
 (∀ (j : Nat) off n v, us[j]? = some (off, n, v) → ∃ i cv, ps[j]? = some (i, cv) ∧ place i = some (off, n) ∧ V w S ρ v cv) → us.all (fun p => p.2.2.cells.all LVal.plain) = true →
 yL cs us = some cs' → ∃ r, Instr.fill place cc ps = some r ∧ VL w S ρ cs' r.toList ∧ (cs.all LVal.plain = true → cs'.all LVal.plain = true)
 | [], [], cs, cs', cc, h, _, _, _, hs => by simp [yL] at hs; subst hs; exact ⟨cc, rfl, h, fun h => h⟩
 | (i, cv) :: ps, (off, n, v) :: us, cs, cs', cc, h, hl, hp, ha, hs => by
  simp only [yL] at hs
  split at hs
  ·rename_i hcond
   obtain ⟨hn, hoff⟩ := hcond
   obtain ⟨i', cv', e, hpl, hV⟩ := hp 0 off n v rfl
   simp at e
   obtain ⟨rfl, rfl⟩ := e
   simp only [List.all_cons, Bool.and_eq_true] at ha
   obtain ⟨hVL, _⟩ := hV.cells ha.1
   have hstep := h.setPart hVL (off := off) (by omega)
   rw [hn] at hstep
   have hsz : cv.cells.size = n := by have := hVL.length; simp at this; omega
   have hcc : cc.size = cs.length := by have := h.length; simp at this; omega
   obtain ⟨r, k1, k2, k3⟩ := fill_ok hstep (by simpa using hl) (fun j off' n' v' hj => by simpa using hp (j + 1) off' n' v' (by simpa using hj)) ha.2 hs
   refine ⟨r, ?_, k2, fun hpl => k3 ?_⟩
   ·unfold Instr.fill
    rw [hpl]
    simp only [hsz]
    rw [if_neg (by simp; omega)]
    rw [← k1]
    congr 1
    rw [← Array.foldl_toList, Array.toList_zipIdx]
   ·simp only [List.all_append, Bool.and_eq_true, List.all_eq_true]
    refine ⟨⟨fun x hx => List.all_eq_true.1 hpl x (List.mem_of_mem_take hx), fun x hx => List.all_eq_true.1 ha.1 x hx⟩, fun x hx => List.all_eq_true.1 hpl x (List.mem_of_mem_drop hx)⟩
  ·simp at hs
omit h in
theorem th {t : TypeId} {cells : List LVal} (hz : uO P t cells = true) : ∃ i z, P.info? t = some i ∧ i.zero = some z ∧ wW z.cells.toList cells = true ∧ cells.all LVal.plain = true := by
 unfold uO at hz
 cases hi : P.info? t with
 | none => simp [hi] at hz
 | some i =>
  cases hzz : i.zero with
  | none => simp [hi, hzz] at hz
  | some z =>
   simp only [hi, Option.bind_some, hzz, Bool.and_eq_true] at hz
   exact ⟨i, z, rfl, hzz, hz.1, hz.2⟩
def placesOf (P : Program) (t : TypeId) : Nat → Option (Nat × Nat) :=
 match P.underlying t with
 | some (.struct fs) => fun i => (fs[i]?).bind fun f => (P.info? f.type).map fun inf => (f.offset, inf.size)
 | some (.array _ e) => fun i => (P.info? e).map fun inf => (i * inf.size, inf.size)
 | _ => fun _ => none
def buildable (P : Program) (t : TypeId) : Bool :=
 match P.underlying t with
 | some (.struct fs) => fs.toList.all fun f => (P.info? f.type).isSome
 | some (.array _ e) => (P.info? e).isSome
 | _ => false
omit h in
theorem oB {fs : List Field} (hf : fs.all (fun f => (P.info? f.type).isSome) = true) (w : World) :
 (fs.mapM (fun f => do Pure.pure (f.offset, ← sizeOf f.type) : Field → Sem (Nat × Nat))).run P w = .ok (fs.map fun f => (f.offset, P.cellsOf f.type)) w := by
 induction fs with
 | nil => simp
 | cons f fs ih =>
  simp only [List.all_cons, Bool.and_eq_true] at hf
  obtain ⟨i, hi⟩ := Option.isSome_iff_exists.1 hf.1
  simp only [List.mapM_cons, Sem.run_bind, run_sizeOf w hi, Result.andThen_ok, ih hf.2, Sem.run_pure, List.map_cons]
theorem ok_build {t : TypeId} {ps : Array (Nat × Operand)} {zero : List LVal} {qs : List (Nat × Nat × Opd)} (ho : o.op = .build t ps) (hz : uO P t zero = true) (hb : buildable P t = true)
 (hc : rN P vm lm (placesOf P t) ps.toList qs = true) {v : LVal} (hs : sem C im impl σ (.build zero qs) = some (v, σ')) : yn P o a w (xk P vm lm ρ S G w a σ' v) := by
 simp only [sem, Option.bind_eq_some_iff] at hs
 obtain ⟨⟨us, σ1⟩, h1, h2⟩ := hs
 dsimp only at h2
 split at h2
 ·rename_i hall
  simp only [Option.map_eq_some_iff] at h2
  obtain ⟨cs, h3, e⟩ := h2
  injection e with e1 e2; subst e1; subst e2
  obtain ⟨S1, G1, k1, k2, k3, k4⟩ := qO h (ps := ps.toList) hc h1
  obtain ⟨i, z, z1, z2, z3, z4⟩ := th hz
  obtain ⟨r, r1, r2, r3⟩ := fill_ok (place := placesOf P t) (ps := (ps.map fun (p : Nat × Operand) => (p.1, a.eval p.2)).toList) (cc := z.cells) (wW.VL ρ z3) (by simp [k3]) (fun j off n v hj => by
   obtain ⟨i, x, q1, q2, q3⟩ := k4 j off n v hj
   exact ⟨i, a.eval x, by simp at q1 ⊢; exact ⟨i, x, q1, rfl, rfl⟩, q2, q3⟩) hall h3
  have hr3 := r3 z4
  refine .value (cv := .agg r) (w' := w) ?_ (.simple k1 rfl (.agg (xs := r.toList) r2 hr3) k2)
  refine yi (s := Instr.build t (ps.map fun (p : Nat × Operand) => (p.1, a.eval p.2))) (by simp [execOp, ho]) ?_
  unfold Instr.build
  simp only [Sem.run_bind, x9 z1 z2, Result.andThen_ok]
  unfold buildable at hb
  cases hu : P.underlying t with
  | none => simp [hu] at hb
  | some d =>
   simp only [run_underlying hu, Result.andThen_ok]
   cases d with
   | struct fs =>
    simp only [hu] at hb
    have hpl : (fs.mapM (fun f => do Pure.pure (f.offset, ← sizeOf f.type) : Field → Sem (Nat × Nat))).run P w = .ok (fs.map fun f => (f.offset, P.cellsOf f.type)) w := by
     rw [Array.mapM_eq_mapM_toList, Sem.run_map, oB hb]
     simp
     apply Array.ext'; simp
    have hplace : (fun i => (fs.map fun f => (f.offset, P.cellsOf f.type))[i]?) = placesOf P t := by
     funext i
     simp only [placesOf, hu]
     cases hfi : fs[i]? with
     | none => simp [hfi]
     | some f =>
      have hm := List.all_eq_true.1 hb f (by simpa using Array.mem_of_getElem? hfi)
      obtain ⟨inf, hinf⟩ := Option.isSome_iff_exists.1 hm
      simp [hfi, hinf, Program.cellsOf]
    simp only [Sem.run_bind, hpl, Result.andThen_ok]
    rw [hplace, r1]
    rfl
   | array n e =>
    simp only [hu] at hb
    obtain ⟨inf, hinf⟩ := Option.isSome_iff_exists.1 hb
    have hplace : (fun i => some (i * inf.size, inf.size)) = placesOf P t := by
     funext i
     simp [placesOf, hu, hinf]
    simp only [Sem.run_bind, xS hinf, Result.andThen_ok]
    rw [hplace, r1]
    rfl
   | _ => simp [hu] at hb
 ·simp at h2
end
end Go.L
