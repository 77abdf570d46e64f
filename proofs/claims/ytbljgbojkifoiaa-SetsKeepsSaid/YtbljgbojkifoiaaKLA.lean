/- The interpreter, part LA. -/
import Derived.Calls
import Derived.Laws.IdiomCopy
import Derived.Below
import Derived.MapKept
/- L0: an executable, deterministic interpreter of the model's code on values: its values, its states, its operations. -/
set_option linter.unusedVariables false
set_option linter.unusedSimpArgs false
namespace Go.L

inductive Loc where
  | var (k : Nat)
  | cell (id off : Nat)
  deriving DecidableEq

/-- What may be done with a slice's array: 'sh': nothing; 'full': nothing, and its capacity is its length; 'own e x': this place alone may append behind it
(elements of type e; x: no other value leads to its cells); 'pk l': a look at what the place l holds. -/
inductive Own where
  | sh
  | full
  | own (e : TypeId) (x : Bool)
  | pk (l : Loc)
  deriving DecidableEq

inductive LVal where
  | undef
  | bool (b : Bool)
  | int (k : IntKind) (n : Int)
  | str (s : List UInt8)
  | ptr (id off : Nat)
  | ref (v : LVal)
  | nilptr
  | vs (nil : Bool) (o : Own) (n : Nat) (xs : List LVal)
  | ms (id off len esz : Nat) (agg : Bool)
  | map (id : Nat)
  | nilmap
  | func (f : FuncId) (caps : List LVal)
  | nilfunc
  | iface (t : TypeId) (v : LVal)
  | niliface
  | agg (cells : List LVal)
  | tup (vs : List LVal)
  deriving Inhabited

inductive LObj where
  | dead
  | cells (t : TypeId) (c : List LVal)
  | map (es : List (LVal × LVal))
  deriving Inhabited

def LVal.cells : LVal → List LVal
  | .agg cs => cs
  | v => [v]

/-- One cell's value that is no slice which its place owns, or looks at. -/
def LVal.plain : LVal → Bool
  | .undef | .vs _ (.own ..) _ _ | .vs _ (.pk _) _ _ | .agg _ | .tup _ => false
  | _ => true

def LVal.isOwn : LVal → Bool
  | .vs _ (.own ..) _ _ => true
  | _ => false

/-- As another place may hold it too. -/
def LVal.down : LVal → LVal
  | .vs b (.own _ _) n xs => .vs b .sh n xs
  | v => v

/-- What stays at a place behind a copy of it. -/
def LVal.stay : LVal → LVal
  | .vs b (.own e _) n xs => .vs b (.own e false) n xs
  | v => v

def LVal.unpk : LVal → LVal
  | .vs _ (.pk _) _ _ => .undef
  | v => v

mutual
/-- It leads to no object of the store. -/
def LVal.pf : LVal → Bool
  | .ptr .. | .ms .. | .map _ => false
  | .func _ caps => pfs caps
  | .iface _ v => v.pf
  | .agg cs => pfs cs
  | .tup l => pfs l
  | _ => true
def LVal.pfs : List LVal → Bool
  | [] => true
  | v :: r => v.pf && pfs r
end

mutual
/-- It leads to no object from n on. -/
def LVal.within (n : Nat) : LVal → Bool
  | .ptr id _ | .ms id _ _ _ _ | .map id => decide (id < n)
  | .func _ caps => withins n caps
  | .iface _ v => v.within n
  | .agg cs => withins n cs
  | .tup l => withins n l
  | _ => true
def LVal.withins (n : Nat) : List LVal → Bool
  | [] => true
  | v :: r => v.within n && withins n r
end

def LObj.within (n : Nat) : LObj → Bool
  | .dead => true
  | .cells _ c => LVal.withins n c
  | .map es => LVal.withins n (es.map (·.1)) && LVal.withins n (es.map (·.2))

structure RS where
  vars : List LVal
  st : List LObj
  rs : List LVal

inductive Opd where
  | loc (i : Nat)
  | var (k : Nat)
  | const (v : LVal)

/-- What kind of keys a map has. -/
inductive KeyK where
  | b
  | i (k : IntKind)
  | s
  deriving DecidableEq

inductive LOp where
  | mv (x : Opd) (peek : Bool)
  | asg (x : Opd)
  | pick (c a b : Opd)
  | alloc (t : TypeId) (cells : List LVal)
  | box (t : TypeId) (x : Opd)
  | build (zero : List LVal) (parts : List (Nat × Nat × Opd))
  | mkslice (zero : LVal) (esz len : Nat) (parts : List (Nat × Opd))
  | load (agg : Bool) (n : Nat) (a : Opd) (peek : Bool)
  | store (n : Nat) (a v : Opd)
  | nilCheck (x : Opd)
  | bin (op : BinOp) (x y : Opd)
  | un (op : UnOp) (x : Opd)
  | eqAgg (neq : Bool) (ks : List KeyK) (x y : Opd)
  | isNil (kind : Nat) (neq : Bool) (x : Opd)
  | eqBool (neq : Bool) (x y : Opd)
  | cvInt (k : IntKind) (x : Opd)
  | cvId (x : Opd)
  | cvStr (x : Opd)
  | cvBytes (x : Opd)
  | mkIface (t : TypeId) (x : Opd)
  | mkFunc (f : FuncId) (caps : List Opd)
  | mkMap
  | mkMapR (x : Opd)
  | makeSlice (zero : LVal) (e : TypeId) (esz bytes : Nat) (l c : Opd) (mutb : Bool)
  | sliceStr (x : Opd) (lo hi : Option Opd)
  | sliceVs (esz : Nat) (x : Opd) (lo hi mx : Option Opd)
  | sliceArr (n esz : Nat) (agg : Bool) (x : Opd) (lo hi : Option Opd)
  | fieldAddr (off n : Nat) (agg : Bool) (x : Opd)
  | field (off n : Nat) (agg : Bool) (x : Opd)
  | idxAddrArr (len esz : Nat) (agg : Bool) (x i : Opd)
  | idxAddrVs (esz : Nat) (x i : Opd)
  | idxArr (len esz : Nat) (agg : Bool) (x i : Opd)
  | idxStr (x i : Opd)
  | lookup (kd : KeyK) (zero : LVal) (x i : Opd) (ok : Bool)
  | mapUpdate (kd : KeyK) (m k v : Opd)
  | tassert (t : TypeId) (zero : LVal) (x : Opd) (ok : Bool)
  | extract (x : Opd) (i : Nat)
  | call (f : FuncId) (args : List Opd)
  | callp (f : FuncId) (args : List Opd)
  | callv (x : Opd) (args : List Opd)
  | invoke (x : Opd) (name : String) (tbl : List (Nat × Nat)) (args : List Opd)
  | len (kind : Nat) (x : Opd)
  | append (e : TypeId) (esz bytes : Nat) (x y : Opd)
  | minmax (mx : Bool) (x : Opd) (r : List Opd)
  | thaw (k esz : Nat) (agg : Bool)
  | out (k : Nat)
  | asgT (x : Opd) (esz : Nat) (agg : Bool)
  | clear (zero : List LVal) (x : Opd)
  | s2ap (n : Nat) (x : Opd)
  | tassertI (t : TypeId) (x : Opd)
  | fail

/-- 'strict', 'away': in a region whose order is drawn. -/
structure LOper where
  ix : Nat
  dst : Option Nat
  guard : Option (Opd × Bool)
  op : LOp
  strict : Bool := false
  away : List (Opd × Nat) := []

inductive LCode where
  | skip
  | region (n : Nat) (ops : List LOper) (draw : Bool)
  | seq (a b : LCode)
  | cond (c : Opd) (a b : LCode)
  | block (id : Nat) (body : LCode)
  | loop (body : LCode)
  | exit (id : Nat)
  | ret
  | dead
  | fence (kill : List Nat) (body : LCode)

/-! ### Reading operands -/
def RS.peek (s : RS) : Opd → Option LVal
  | .const v => some v
  | .loc i => s.rs[i]?
  | .var k => s.vars[k]?

/-- A copy of one that another place may hold too. -/
def LVal.copy : LVal → Option LVal
  | .vs _ (.pk _) _ _ => none
  | .tup _ => none
  | v => some v.down

def RS.take (s : RS) : Opd → Option (LVal × RS)
  | .const v => some (v, s)
  | .loc i => (s.rs[i]?).bind fun v => v.copy.map fun u => (u, if v.isOwn then { s with rs := s.rs.set i v.stay } else s)
  | .var k => (s.vars[k]?).bind fun v => v.copy.map fun u => (u, if v.isOwn then { s with vars := s.vars.set k v.stay } else s)

/-- It goes over: what owned it does so no more. -/
def RS.give (s : RS) : Opd → Option (LVal × RS)
  | .loc i => (s.rs[i]?).bind fun v => match v with
      | .vs _ (.pk _) _ _ => none
      | .vs _ (.own ..) _ _ => some (v, { s with rs := s.rs.set i .undef })
      | .tup _ => some (v, { s with rs := s.rs.set i .undef })
      | v => some (v, s)
  | o => s.take o

def RS.takes (s : RS) : List Opd → Option (List LVal × RS)
  | [] => some ([], s)
  | o :: r => (s.take o).bind fun (v, s) => (s.takes r).map fun (vs, s) => (v :: vs, s)

def RS.noPk (s : RS) : RS := { s with rs := s.rs.map LVal.unpk }

/-- A variable is written: looks at what it owned end. -/
def RS.setVar (s : RS) (k : Nat) (v : LVal) : RS :=
  if (s.vars[k]?).any LVal.isOwn then { s.noPk with vars := s.vars.set k v } else { s with vars := s.vars.set k v }

/-- The value of which an append takes the place, and what is left. -/
def RS.acquire (s : RS) : Opd → Option (LVal × RS)
  | .loc i => (s.rs[i]?).bind fun v => match v with
      | .vs _ (.pk (.var k)) _ _ => (s.vars[k]?).bind fun u => if u.isOwn then some (u, { s.noPk with vars := s.vars.set k .undef }) else none
      | .vs _ (.pk (.cell id off)) _ _ => match s.st[id]? with
          | some (.cells t c) => (c[off]?).bind fun u => if u.isOwn then some (u.stay, { s.noPk with st := s.st.set id (.cells t ((c.map LVal.stay).set off u.down)) }) else none
          | _ => none
      | .vs _ (.own ..) _ _ => some (v, { s with rs := s.rs.set i .undef })
      | v => some (v, s)
  | .const v => some (v, s)
  | .var _ => none

/-! ### Draws: what an operation reads, and whether it is quiet -/
def LVal.calm1 (strict : Bool) : LVal → Bool
  | .undef | .vs _ (.pk _) _ _ | .tup _ => false
  | .vs _ (.own _ x) _ _ => !strict && !x
  | _ => true
/-- It is there, and a copy of it leaves it as it is. -/
def LVal.calm (strict : Bool) : LVal → Bool
  | .tup l => l.all (LVal.calm1 true)
  | v => v.calm1 strict

def optL : Option Opd → List Opd
  | none => []
  | some x => [x]

/-- The operands. -/
def LOp.opds : LOp → List Opd
  | .mv x _ | .asg x | .box _ x | .load _ _ x _ | .nilCheck x | .un _ x | .isNil _ _ x | .cvInt _ x | .cvId x | .cvStr x | .cvBytes x | .mkIface _ x | .fieldAddr _ _ _ x | .field _ _ _ x | .extract x _ | .len _ x | .tassert _ _ x _ |
    .tassertI _ x | .clear _ x | .s2ap _ x | .mkMapR x => [x]
  | .pick a b c => [a, b, c]
  | .alloc .. | .mkMap | .fail => []
  | .thaw k _ _ => [.var k]
  | .out k => [.var k]
  | .asgT x _ _ => [x]
  | .build _ ps => ps.map (·.2.2)
  | .mkslice _ _ _ ps => ps.map (·.2)
  | .store _ a v => [a, v]
  | .bin _ x y | .eqAgg _ _ x y | .eqBool _ x y | .idxAddrArr _ _ _ x y | .idxAddrVs _ x y | .idxArr _ _ _ x y | .idxStr x y | .lookup _ _ x y _ | .append _ _ _ x y => [x, y]
  | .mkFunc _ xs | .call _ xs | .callp _ xs => xs
  | .callv x xs | .invoke x _ _ xs | .minmax _ x xs => x :: xs
  | .makeSlice _ _ _ _ l c _ => [l, c]
  | .sliceStr x a b | .sliceArr _ _ _ x a b => x :: (optL a ++ optL b)
  | .sliceVs _ x a b c => x :: (optL a ++ optL b ++ optL c)
  | .mapUpdate _ m k v => [m, k, v]

/-- It does nothing but read, where its operands are calm. -/
def LOp.quiet : LOp → Bool
  | .mv (.loc _) _ => false
  | .mv .. | .pick .. | .build .. | .mkslice .. | .load .. | .nilCheck _ | .bin .. | .un .. | .eqAgg .. | .isNil .. | .eqBool .. | .cvInt .. | .cvId _ | .cvStr _ | .cvBytes _ | .mkIface .. | .mkFunc .. | .sliceStr .. | .sliceVs .. |
    .fieldAddr .. | .field .. | .idxAddrArr .. | .idxAddrVs .. | .idxArr .. | .idxStr .. | .lookup .. | .extract .. | .callp .. | .len .. | .minmax .. | .tassert .. | .tassertI .. | .s2ap .. => true
  | .makeSlice _ _ _ _ _ _ m => !m
  | _ => false

/-- It looks at a place of its own accord: what it gives may be appended to there. -/
def LOp.peeks : LOp → Bool
  | .mv (.var _) p | .load _ _ _ p => p
  | _ => false

/-- It does something else, of which it is known what. -/
def LOp.acts : LOp → Bool
  | .mv (.loc _) _ => true
  | .alloc .. | .box .. | .mkMap | .asg _ | .store .. | .mapUpdate .. | .append .. => true
  | _ => false

/-- What it takes away from its operands' places. -/
def LOp.gives : LOp → List Opd
  | .mv x _ | .asg x | .box _ x | .store _ _ x => [x]
  | _ => []

/-- It looks at the store. -/
def LOp.looks : LOp → Bool
  | .load .. | .lookup .. | .len 2 _ => true
  | _ => false

/-! ### Scalars -/
def binInt (op : BinOp) (k : IntKind) (x y : Int) : Option LVal :=
  match op with
  | .add => some (.int k (k.wrap (x + y)))
  | .sub => some (.int k (k.wrap (x - y)))
  | .mul => some (.int k (k.wrap (x * y)))
  | .quo => if y = 0 then none else some (.int k (k.wrap (x.tdiv y)))
  | .rem => if y = 0 then none else some (.int k (x.tmod y))
  | .and => some (.int k (k.wrap (BitVec.ofInt k.bits x &&& BitVec.ofInt k.bits y).toNat))
  | .or => some (.int k (k.wrap (BitVec.ofInt k.bits x ||| BitVec.ofInt k.bits y).toNat))
  | .xor => some (.int k (k.wrap (BitVec.ofInt k.bits x ^^^ BitVec.ofInt k.bits y).toNat))
  | .eql => some (.bool (x == y))
  | .neq => some (.bool (x != y))
  | .lss => some (.bool (decide (x < y)))
  | .leq => some (.bool (decide (x ≤ y)))
  | .gtr => some (.bool (decide (x > y)))
  | .geq => some (.bool (decide (x ≥ y)))
  | _ => none

def shiftInt (left : Bool) (k : IntKind) (x y : Int) : Option LVal :=
  if y < 0 then none
  else if left then some (.int k (k.wrap (x * 2 ^ (min y.toNat k.bits)))) else some (.int k (x.fdiv (2 ^ (min y.toNat k.bits))))

def binStr (op : BinOp) (x y : List UInt8) : Option LVal :=
  match op with
  | .add => if x.length + y.length ≤ 9223372036854775807 then some (.str (x ++ y)) else none
  | .eql => some (.bool (x == y))
  | .neq => some (.bool !(x == y))
  | .lss => some (.bool (Op.bytesLess x y))
  | .leq => some (.bool (Op.bytesLess x y || x == y))
  | .gtr => some (.bool !(Op.bytesLess x y || x == y))
  | .geq => some (.bool !(Op.bytesLess x y))
  | _ => none

def binL (op : BinOp) : LVal → LVal → Option LVal
  | .int k x, .int k' y =>
    match op with
    | .shl => shiftInt true k x y
    | .shr => shiftInt false k x y
    | op => if k = k' then binInt op k x y else none
  | .str x, .str y => binStr op x y
  | _, _ => none

def unL (op : UnOp) : LVal → Option LVal
  | .bool b => match op with | .not => some (.bool !b) | _ => none
  | .int k n => match op with
    | .neg => some (.int k (k.wrap (0 - n)))
    | .xor => some (.int k (k.wrap (BitVec.ofInt k.bits (if k.signed then -1 else k.max) ^^^ BitVec.ofInt k.bits n).toNat))
    | _ => none
  | _ => none

/-- Are two cells of a comparable struct alike? -/
def eqS : LVal → LVal → Option Bool
  | .bool a, .bool b => some (a == b)
  | .int k a, .int k' b => if k = k' then some (a == b) else none
  | .str a, .str b => some (a == b)
  | _, _ => none

def eqCells : List LVal → List LVal → Option Bool
  | [], [] => some true
  | x :: xs, y :: ys => (eqS x y).bind fun b => (eqCells xs ys).map fun c => b && c
  | _, _ => none

/-- Is it nil? By its kind: a pointer (0), a slice (1), a map (2), a function (3), an interface (4). -/
def isNilL : Nat → LVal → Option Bool
  | 0, .nilptr => some true
  | 0, .ptr .. | 0, .ref _ => some false
  | 1, .vs b _ _ _ => some b
  | 1, .ms .. => some false
  | 2, .nilmap => some true
  | 2, .map _ => some false
  | 3, .nilfunc => some true
  | 3, .func .. => some false
  | 4, .niliface => some true
  | 4, .iface .. => some false
  | _, _ => none

def byteL (b : UInt8) : LVal := .int .u8 b.toNat
def bytesL (s : List UInt8) : List LVal := s.map byteL
def byteOfL : LVal → Option UInt8
  | .int .u8 n => some (UInt8.ofNat n.toNat)
  | _ => none
def bytesOfL : List LVal → Option (List UInt8)
  | [] => some []
  | v :: r => (byteOfL v).bind fun b => (bytesOfL r).map fun l => b :: l

/-- A part of cells: a struct's, or one value. -/
def partL (agg : Bool) (cs : List LVal) (off n : Nat) : Option LVal :=
  if off + n ≤ cs.length then
    if agg then some (.agg ((cs.drop off).take n)) else if n = 1 then cs[off]? else none
  else none

def intL : LVal → Option Int
  | .int _ n => some n
  | _ => none

/-- An index that is in range. -/
def inRange (i : Int) (len : Nat) : Option Nat := if 0 ≤ i ∧ i < (len : Int) then some i.toNat else none
def bound (v : Option LVal) (dflt most : Nat) : Option Nat :=
  match v with
  | none => some dflt
  | some (.int _ i) => if 0 ≤ i ∧ i ≤ (most : Int) then some i.toNat else none
  | some _ => none

def setParts : List LVal → List (Nat × Nat × LVal) → Option (List LVal)
  | cs, [] => some cs
  | cs, (off, n, v) :: r =>
    if v.cells.length = n ∧ off + n ≤ cs.length then setParts (cs.take off ++ v.cells ++ cs.drop (off + n)) r else none

def setElems : List LVal → List (Nat × LVal) → Option (List LVal)
  | xs, [] => some xs
  | xs, (i, v) :: r => if i < xs.length then setElems (xs.set i v) r else none

/-- The elements that an append puts behind. -/
def elemsL : LVal → Option (Nat × List LVal)
  | .vs _ _ n xs => some (n, xs)
  | .str s => some (1, bytesL s)
  | _ => none

def keyEq : LVal → LVal → Option Bool
  | .int k a, .int k' b => if k = k' then some (a == b) else none
  | .str a, .str b => some (a == b)
  | .bool a, .bool b => some (a == b)
  | _, _ => none

def findL (k : LVal) : List (LVal × LVal) → Option (Option LVal)
  | [] => some none
  | (k', v) :: r => (keyEq k k').bind fun b => if b then some (some v) else findL k r

def putL (k v : LVal) : List (LVal × LVal) → Option (List (LVal × LVal))
  | [] => some [(k, v)]
  | (k', u) :: r => (keyEq k k').bind fun b => if b then some ((k, v) :: r) else (putL k v r).map fun l => (k', u) :: l

def scalarKey : LVal → Bool
  | .int .. | .str _ | .bool _ => true
  | _ => false

def keyKind : KeyK → LVal → Bool
  | .b, .bool _ => true
  | .i k, .int k' _ => decide (k' = k)
  | .s, .str _ => true
  | _, _ => false

def kindsOk : List KeyK → List LVal → Bool
  | [], [] => true
  | k :: ks, v :: vs => keyKind k v && kindsOk ks vs
  | _, _ => false

def mmL (mx : Bool) : LVal → LVal → Option LVal
  | .int k x, .int k' y => if k = k' then some (.int k (if mx then (if y > x then y else x) else (if y < x then y else x))) else none
  | _, _ => none

def mmsL (mx : Bool) : LVal → List LVal → Option LVal
  | x, [] => some x
  | x, y :: r => (mmL mx x y).bind fun z => mmsL mx z r

def maxBytes : Nat := 140737488355328

end Go.L
/- L1: the interpreter itself: operations, code, calls by fuel. -/
set_option linter.unusedVariables false
set_option linter.unusedSimpArgs false
namespace Go.L

/-- What a call answers, and the store behind it ('none': as it was). -/
abbrev CallL := FuncId → List LVal → List LObj → Option (LVal × Option (List LObj))

def LVal.isAgg : LVal → Bool
  | .agg _ => true
  | _ => false

def LVal.arg : LVal → LVal
  | .vs b .full n xs => .vs b .sh n xs
  | v => v

/-- Fit to be an element of a slice, or a part of an aggregate. -/
def fitsElem (zero v : LVal) : Bool := v.isAgg == zero.isAgg && v.cells.length == zero.cells.length && v.pf && v.cells.all LVal.plain

def RS.alloc (s : RS) (o : LObj) : RS := { s with st := s.st ++ [o] }

def callOut (s : RS) : Option (LVal × Option (List LObj)) → Option (LVal × RS)
  | none => none
  | some (v, none) => some (v, s)
  | some (v, some st) => some (v, { s.noPk with st := st })

def RS.takeParts (s : RS) : List (Nat × Nat × Opd) → Option (List (Nat × Nat × LVal) × RS)
  | [] => some ([], s)
  | (off, n, o) :: r => (s.take o).bind fun x => (x.2.takeParts r).map fun y => ((off, n, x.1) :: y.1, y.2)
def RS.takeElems (s : RS) : List (Nat × Opd) → Option (List (Nat × LVal) × RS)
  | [] => some ([], s)
  | (i, o) :: r => (s.take o).bind fun x => (x.2.takeElems r).map fun y => ((i, x.1) :: y.1, y.2)
def RS.peeks (s : RS) : List Opd → Option (List LVal)
  | [] => some []
  | o :: r => (s.peek o).bind fun v => (s.peeks r).map fun l => v :: l
def RS.peekO (s : RS) : Option Opd → Option (Option LVal)
  | none => some none
  | some o => (s.peek o).map some

def chunks (agg : Bool) (esz : Nat) : Nat → List LVal → List LVal
  | 0, _ => []
  | n + 1, cs => (if agg then .agg (cs.take esz) else cs.headD .undef) :: chunks agg esz n (cs.drop esz)

def loadL (s : RS) (agg : Bool) (n : Nat) (a : LVal) (peek : Bool) : Option (LVal × RS) :=
  match a with
  | .ref v => if v.isAgg = agg ∧ v.cells.length = n then some (v, s) else none
  | .ptr id off => match s.st[id]? with
    | some (.cells t c) =>
      if off + n ≤ c.length then
        if agg then
          let r := (c.drop off).take n
          some (.agg (r.map LVal.down), if r.any LVal.isOwn then { s with st := s.st.set id (.cells t (c.map LVal.stay)) } else s)
        else if n = 1 then
          (c[off]?).map fun v =>
            if v.isOwn then
              if peek then ((match v with | .vs b _ n xs => .vs b (.pk (.cell id off)) n xs | v => v), s)
              else (v.down, { s with st := s.st.set id (.cells t (c.map LVal.stay)) })
            else (v, s)
        else none
      else none
    | _ => none
  | _ => none

def storeL (s : RS) (n : Nat) (a v : LVal) : Option RS :=
  match a with
  | .ptr id off => match s.st[id]? with
    | some (.cells t c) =>
      if off + n ≤ c.length ∧ v.cells.length = n ∧ (v.cells.all LVal.plain || (!v.isAgg && v.isOwn)) then
        let s' := if ((c.drop off).take n).any LVal.isOwn then s.noPk else s
        some { s' with st := s.st.set id (.cells t (c.take off ++ v.cells ++ c.drop (off + n))) }
      else none
    | _ => none
  | _ => none

def appendL (s : RS) (e : TypeId) (esz bytes : Nat) (x : Opd) (m : Nat) (ys : List LVal) : Option (LVal × RS) :=
  (s.acquire x).bind fun r => match r.1 with
    | .vs b o n xs =>
      if ys.length = 0 then some (.vs b o n xs, r.2)
      else if (xs.length + ys.length) * bytes ≤ maxBytes ∧ xs.length + ys.length ≤ maxBytes ∧ m = esz then
        match o with
        | .full => if n = esz ∧ b = false then some (.vs false (.own e true) esz (xs ++ ys), r.2) else none
        | .own e' ex => if e' = e ∧ n = esz ∧ b = false then some (.vs false (.own e ex) esz (xs ++ ys), r.2) else none
        | .sh => if b = true then some (.vs false (.own e true) esz ys, r.2) else none
        | .pk _ => none
      else none
    | _ => none

/-- The length, by the kind of its type: a string (0), a slice (1), a map (2). -/
def lenL (k : Nat) (st : List LObj) (u : LVal) : Option Nat :=
  match k, u with
  | 0, .str l => some l.length
  | 1, .vs _ _ _ xs => some xs.length
  | 1, .ms _ _ len _ _ => some len
  | 2, .nilmap => some 0
  | 2, .map id => match st[id]? with
    | some (.map es) => some es.length
    | _ => none
  | _, _ => none

def lookL (st : List LObj) (k : LVal) : LVal → Option (Option LVal)
  | .nilmap => some none
  | .map id => match st[id]? with
    | some (.map es) => findL k es
    | _ => none
  | _ => none

def sem (C : CallL) (im : TypeId → String → Option FuncId) (impl : TypeId → TypeId → Bool) (s : RS) : LOp → Option (LVal × RS)
  | .mv x peek =>
    match x, peek with
    | .var k, true => (s.vars[k]?).bind fun v => match v with
      | .vs b (.own ..) n xs => some (.vs b (.pk (.var k)) n xs, s)
      | .tup _ => none
      | v => some (v, s)
    | .var k, false => s.take (.var k)
    | o, _ => s.give o
  | .asg x => s.give x
  | .pick c a b => (s.peek c).bind fun v => match v with
      | .bool t => s.take (if t then a else b)
      | _ => none
  | .alloc t cells => some (.ptr s.st.length 0, s.alloc (.cells t cells))
  | .box t x => (s.give x).bind fun r => if r.1.cells.all LVal.plain || (!r.1.isAgg && r.1.isOwn) then some (.ptr r.2.st.length 0, r.2.alloc (.cells t r.1.cells)) else none
  | .build zero parts => (s.takeParts parts).bind fun r => if r.1.all (fun p => p.2.2.cells.all LVal.plain) then (setParts zero r.1).map fun cs => (.agg cs, r.2) else none
  | .mkslice zero esz len parts => (s.takeElems parts).bind fun r => if zero.cells.length = esz ∧ r.1.all (fun p => fitsElem zero p.2) then (setElems (List.replicate len zero) r.1).map fun xs => (.vs false .full esz xs, r.2) else none
  | .load agg n a peek => (s.peek a).bind fun p => loadL s agg n p peek
  | .store n a v => (s.give v).bind fun r => (s.peek a).bind fun p => (storeL r.2 n p r.1).map fun s => (.undef, s)
  | .nilCheck x => (s.peek x).bind fun v => match v with
      | .ptr .. | .ref _ => some (v, s)
      | _ => none
  | .bin op x y => (s.peek x).bind fun u => (s.peek y).bind fun v => (binL op u v).map fun r => (r, s)
  | .un op x => (s.peek x).bind fun u => (unL op u).map fun r => (r, s)
  | .eqAgg neq ks x y => (s.peek x).bind fun u => (s.peek y).bind fun v => match u, v with
      | .agg xs, .agg ys => if kindsOk ks xs && kindsOk ks ys then (eqCells xs ys).map fun b => (.bool (b != neq), s) else none
      | _, _ => none
  | .isNil k neq x => (s.peek x).bind fun u => (isNilL k u).map fun b => (.bool (b != neq), s)
  | .eqBool neq x y => (s.peek x).bind fun u => (s.peek y).bind fun v => match u, v with
      | .bool a, .bool b => some (.bool ((a == b) != neq), s)
      | _, _ => none
  | .cvInt k x => (s.peek x).bind fun u => match u with
      | .int _ n => some (.int k (k.wrap n), s)
      | _ => none
  | .cvId x => (s.peek x).bind fun u => match u with
      | .str _ => some (u, s)
      | _ => none
  | .cvStr x => (s.peek x).bind fun u => match u with
      | .vs _ _ 1 xs => (bytesOfL xs).map fun l => (.str l, s)
      | _ => none
  | .cvBytes x => (s.peek x).bind fun u => match u with
      | .str l => if l.length ≤ maxBytes then some (.vs false .sh 1 (bytesL l), s) else none
      | _ => none
  | .mkIface t x => (s.take x).bind fun r => if r.1.plain || r.1.isAgg then some (.iface t r.1, r.2) else none
  | .mkFunc f caps => (s.takes caps).bind fun r => if r.1.all LVal.plain then some (.func f r.1, r.2) else none
  | .mkMap => some (.map s.st.length, s.alloc (.map []))
  | .mkMapR x => (s.peek x).bind fun u => match u with
      | .int _ _ => some (.map s.st.length, s.alloc (.map []))
      | _ => none
  | .makeSlice zero e esz bytes l c mutb => (s.peek l).bind fun l => (s.peek c).bind fun c => match l, c with
      | .int _ l, .int _ c =>
        if 0 ≤ l ∧ l ≤ c ∧ c * bytes ≤ (maxBytes : Int) ∧ c ≤ (maxBytes : Int) ∧ zero.cells.length = esz then
          if mutb then (if l = c then some (.ms s.st.length 0 l.toNat esz zero.isAgg, s.alloc (.cells e (List.replicate l.toNat zero.cells).flatten)) else none)
          else some (.vs false (if l = c then .full else .own e true) esz (List.replicate l.toNat zero), s)
        else none
      | _, _ => none
  | .sliceStr x lo hi => (s.peek x).bind fun u => (s.peekO lo).bind fun lo => (s.peekO hi).bind fun hi => match u with
      | .str l => (bound hi l.length l.length).bind fun h => (bound lo 0 h).map fun lo => (.str ((l.take h).drop lo), s)
      | _ => none
  | .sliceVs esz x lo hi mx => (s.peekO lo).bind fun lo => (s.peekO hi).bind fun hi => (s.peekO mx).bind fun mx => (s.peek x).bind fun u => match u with
      | .ms id off len e agg => if e = esz ∧ mx.isNone then (bound hi len len).bind fun h => (bound lo 0 h).map fun lo => (if lo = 0 ∨ lo < h then .ms id (off + lo * esz) (h - lo) e agg else .vs false .sh esz [], s) else none
      | _ => (s.take x).bind fun r => match r.1 with
        | .vs b o n xs => if n = esz ∨ b = true then (bound mx xs.length xs.length).bind fun m => (bound hi xs.length m).bind fun h => (bound lo 0 h).map fun lo =>
            (.vs b (if mx.isSome then (if m = h then .full else .sh) else if o = .full ∧ h = xs.length then .full else .sh) n ((xs.take h).drop lo), r.2) else none
        | _ => none
  | .sliceArr n esz agg x lo hi => (s.peek x).bind fun u => (s.peekO lo).bind fun lo => (s.peekO hi).bind fun hi => match u with
      | .ptr id 0 => match s.st[id]? with
        | some (.cells _ c) =>
          if c.length = n * esz ∧ c.all LVal.plain ∧ LVal.pfs c then
            (bound hi n n).bind fun h => (bound lo 0 h).map fun lo => (.vs false (if h = n then .full else .sh) esz (((chunks agg esz n c).take h).drop lo), { s.noPk with st := s.st.set id .dead })
          else none
        | _ => none
      | _ => none
  | .fieldAddr off n agg x => (s.peek x).bind fun u => match u with
      | .ptr id o => some (.ptr id (o + off), s)
      | .ref (.agg cs) => (partL agg cs off n).map fun v => (.ref v, s)
      | _ => none
  | .field off n agg x => (s.peek x).bind fun u => match u with
      | .agg cs => (partL agg cs off n).map fun v => (v, s)
      | _ => none
  | .idxAddrArr len esz agg x i => (s.peek x).bind fun u => (s.peek i).bind fun i => (intL i).bind fun i => (inRange i len).bind fun i => match u with
      | .ptr id o => some (.ptr id (o + i * esz), s)
      | .ref (.agg cs) => (partL agg cs (i * esz) esz).map fun v => (.ref v, s)
      | _ => none
  | .idxAddrVs esz x i => (s.peek i).bind fun i => (intL i).bind fun i => (s.take x).bind fun r => match r.1 with
      | .vs _ _ n xs => if n = esz then (inRange i xs.length).bind fun i => (xs[i]?).map fun v => (.ref v, r.2) else none
      | .ms id off len e _ => if e = esz then (inRange i len).map fun i => (.ptr id (off + i * esz), r.2) else none
      | _ => none
  | .idxArr len esz agg x i => (s.peek x).bind fun u => (s.peek i).bind fun i => (intL i).bind fun i => (inRange i len).bind fun i => match u with
      | .agg cs => (partL agg cs (i * esz) esz).map fun v => (v, s)
      | _ => none
  | .idxStr x i => (s.peek x).bind fun u => (s.peek i).bind fun i => (intL i).bind fun i => match u with
      | .str l => (inRange i l.length).bind fun i => (l[i]?).map fun b => (byteL b, s)
      | _ => none
  | .lookup kd zero x i ok => (s.peek x).bind fun u => (s.peek i).bind fun k => if keyKind kd k then
      (lookL s.st k u).map fun r => (if ok then .tup [r.getD zero, .bool r.isSome] else r.getD zero, s) else none
  | .mapUpdate kd m k v => (s.peek m).bind fun u => (s.peek k).bind fun k => (s.take v).bind fun r => match u with
      | .map id => match s.st[id]? with
        | some (.map es) => if keyKind kd k ∧ r.1.cells.all LVal.plain then (putL k r.1 es).map fun es => (.undef, { r.2 with st := r.2.st.set id (.map es) }) else none
        | _ => none
      | _ => none
  | .tassert t zero x ok => (s.peek x).bind fun u => match u with
      | .niliface => if ok then some (.tup [zero, .bool false], s) else none
      | .iface t' v => if t' = t then some (if ok then .tup [v, .bool true] else v, s) else if ok then some (.tup [zero, .bool false], s) else none
      | _ => none
  | .extract x i => match x with
      | .loc j => (s.rs[j]?).bind fun v => match v with
        | .tup l => (l[i]?).bind fun v => match v with
          | .tup _ => none
          | v => if v.isOwn then some (v, { s with rs := s.rs.set j (.tup (l.set i .undef)) }) else some (v, s)
        | _ => none
      | .var k => (s.vars[k]?).bind fun v => match v with
        | .tup l => (l[i]?).bind fun v => match v with
          | .tup _ => none
          | v => if v.isOwn then none else some (v, s)
        | _ => none
      | _ => none
  | .call f args => (s.takes args).bind fun r => callOut r.2 (C f (r.1.map LVal.arg) r.2.st)
  | .callp f args => (s.takes args).bind fun r => if LVal.pfs r.1 then (C f (r.1.map LVal.arg) []).bind fun o => match o with
      | (v, none) => some (v, r.2)
      | _ => none else none
  | .callv x args => (s.peek x).bind fun u => match u with
      | .func f caps => (s.takes args).bind fun r => callOut r.2 (C f (r.1.map LVal.arg ++ caps) r.2.st)
      | _ => none
  | .invoke x name tbl args => (s.peek x).bind fun u => match u with
      | .iface t v => (tbl.lookup t).bind fun f => (s.takes args).bind fun r => callOut r.2 (C f (v :: r.1.map LVal.arg) r.2.st)
      | _ => none
  | .len k x => (s.peek x).bind fun u => (lenL k s.st u).map fun (n : Nat) => (.int .i64 (n : Int), s)
  | .append e esz bytes x y => (s.peek y).bind fun v => (elemsL v).bind fun ys => appendL s e esz bytes x ys.1 ys.2
  | .minmax mx x r => (s.peek x).bind fun u => (s.peeks r).bind fun l => match u with
      | .int k n => (mmsL mx (.int k n) l).map fun v => (v, s)
      | _ => none
  | .thaw k esz agg => (s.vars[k]?).bind fun u => match u with
      | .vs false (.own e true) n xs =>
        if n = esz ∧ xs.all (fun v => v.isAgg == agg) then
          let m := LVal.ms s.st.length 0 xs.length esz agg
          some (m, { s.noPk with vars := s.vars.set k m, st := s.st ++ [.cells e (xs.flatMap LVal.cells)] })
        else none
      | _ => none
  | .out k => (s.vars[k]?).bind fun u => match u with
      | .vs b (.own e x) n xs => some (.vs b (.own e x) n xs, { s.noPk with vars := s.vars.set k .undef })
      | _ => s.take (.var k)
  | .asgT x esz agg => (s.give x).bind fun r => match r.1 with
      | .vs false (.own e true) n xs =>
        if n = esz ∧ xs.all (fun v => v.isAgg == agg) then some (.ms r.2.st.length 0 xs.length esz agg, { r.2.noPk with st := r.2.st ++ [.cells e (xs.flatMap LVal.cells)] }) else none
      | .vs _ (.own ..) _ _ => none
      | v => some (v, r.2)
  | .clear zero x => (s.peek x).bind fun u => match u with
      | .ms id off len esz _ => match s.st[id]? with
        | some (.cells t c) =>
          if zero.length = esz ∧ off + len * esz ≤ c.length ∧ zero.all LVal.plain then
            some (.undef, { s.noPk with st := s.st.set id (.cells t (c.take off ++ (List.replicate len zero).flatten ++ c.drop (off + len * esz))) })
          else none
        | _ => none
      | _ => none
  | .s2ap n x => (s.take x).bind fun r => match r.1 with
      | .vs false _ _ xs => if 0 < n ∧ n ≤ xs.length then some (.ref (.agg ((xs.take n).flatMap LVal.cells)), r.2) else none
      | _ => none
  | .tassertI t x => (s.peek x).bind fun u => match u with
      | .iface t' v => if impl t t' then some (.iface t' v, s) else none
      | _ => none
  | .fail => none

section
variable (C : CallL) (im : TypeId → String → Option FuncId) (impl : TypeId → TypeId → Bool)

def RS.put (s : RS) (o : LOper) (v : LVal) : RS :=
  match o.dst with
  | none => { s with rs := s.rs.set o.ix v }
  | some k => s.setVar k v.unpk

def step (s : RS) (o : LOper) : Option RS :=
  match o.guard with
  | none => (sem C im impl s o.op).map fun r => r.2.put o r.1
  | some (g, want) => (s.peek g).bind fun v => match v with
    | .bool b => if b = want then (sem C im impl s o.op).map fun r => r.2.put o r.1 else some (s.put o (.tup []))
    | .tup _ => some (s.put o (.tup []))
    | _ => none

def runOps : List LOper → RS → Option RS
  | [], s => some s
  | o :: r, s => (step C im impl s o).bind (runOps r)

/-! Regions whose order is drawn: quiet operations on calm operands may change their places. -/
def LObj.settle : LObj → LObj
  | .cells t c => .cells t (c.map LVal.stay)
  | o => o
def RS.settle (s : RS) : RS := { s with vars := s.vars.map LVal.stay, st := s.st.map LObj.settle }

def LVal.settled : LVal → Bool
  | .vs _ (.own _ x) _ _ => !x
  | _ => true

def loadCalm (strict : Bool) (s : RS) : LOp → Bool
  | .load _ n a _ => match s.peek a with
    | some (.ptr id off) => match s.st[id]? with
      | some (.cells _ c) => c.all LVal.settled && ((c.drop off).take n).all (fun v => v.plain || (!strict && v.isOwn))
      | _ => false
    | _ => true
  | _ => true

def LVal.free : LVal → Bool
  | .vs _ (.own ..) _ _ | .vs _ (.pk _) _ _ => false
  | _ => true
def dstFree (s : RS) : Option Nat → Bool
  | none => true
  | some k => (s.vars[k]?).all LVal.free

/-- The cells that a store turns are others than those that were looked at. -/
def awayOk (s : RS) (away : List (Opd × Nat)) : LOp → Bool
  | .store n a _ => match s.peek a with
    | some (.ptr id off) => away.all fun p => match s.peek p.1 with
      | some (.ptr id' off') => id != id' || decide (off + n ≤ off') || decide (off' + p.2 ≤ off)
      | _ => true
    | _ => false
  | _ => true

def calmOk (s : RS) (strict : Bool) : LOp → Bool
  | .mv (.var _) true => true
  | .append _ _ _ _ y => (s.peek y).any (LVal.calm false)
  | op => op.opds.all fun x => (s.peek x).any (LVal.calm strict)

def semD (s : RS) (o : LOper) : Option (LVal × RS) :=
  if o.op.quiet || o.op.acts then
    if calmOk s o.strict o.op && loadCalm o.strict s o.op && awayOk s o.away o.op then sem C im impl s o.op else none
  else sem C im impl s o.op

/-- As a place of a drawn region holds it. -/
def LOper.fix (o : LOper) (v : LVal) : LVal := if o.op.peeks then v else v.stay.unpk

def stepD (s : RS) (o : LOper) : Option RS :=
  if o.op.quiet && !dstFree s o.dst then none
  else match o.guard with
  | none => (semD C im impl s o).map fun r => r.2.put o (o.fix r.1)
  | some (g, want) => (s.peek g).bind fun v => match v with
    | .bool b => if b = want then (semD C im impl s o).map fun r => r.2.put o (o.fix r.1) else some (s.put o (.tup []))
    | .tup [] => some (s.put o (.tup []))
    | _ => none

def runOpsD : List LOper → RS → Option RS
  | [], s => some s
  | o :: r, s => (stepD C im impl s o).bind (runOpsD r)

inductive LExit where
  | normal
  | exit (id : Nat)
  | ret
  deriving DecidableEq

def kill (ks : List Nat) (vars : List LVal) : List LVal := ks.foldl (fun l k => l.set k .undef) vars

def fenceOut (n : Nat) (ks : List Nat) (r : LExit × RS) : Option (LExit × RS) :=
  match r.1 with
  | .normal =>
    let vars := kill ks r.2.vars
    if LVal.withins n vars ∧ (r.2.st.take n).all (LObj.within n) ∧ n ≤ r.2.st.length then some (.normal, { vars := vars, st := r.2.st.take n, rs := [] }) else none
  | _ => some r

def loopN (body : RS → Option (LExit × RS)) : Nat → RS → Option (LExit × RS)
  | 0, _ => none
  | n + 1, s => (body s).bind fun r => match r.1 with
    | .normal => loopN body n r.2
    | _ => some r

def codeN (fuel : Nat) : LCode → RS → Option (LExit × RS)
  | .skip, s => some (.normal, s)
  | .region n ops draw, s => (if draw then runOpsD C im impl ops { s.settle with rs := List.replicate n .undef } else runOps C im impl ops { s with rs := List.replicate n .undef }).map fun s => (.normal, { s with rs := [] })
  | .seq a b, s => (codeN fuel a s).bind fun r => match r.1 with
    | .normal => codeN fuel b r.2
    | _ => some r
  | .cond c a b, s => (s.peek c).bind fun v => match v with
    | .bool t => if t then codeN fuel a s else codeN fuel b s
    | _ => none
  | .block id b, s => (codeN fuel b s).map fun r => if r.1 = .exit id then (.normal, r.2) else r
  | .loop b, s => loopN (codeN fuel b) fuel s
  | .exit id, s => some (.exit id, s)
  | .ret, s => some (.ret, s)
  | .dead, _ => none
  | .fence ks b, s => (codeN fuel b s).bind fun r => fenceOut s.st.length ks r

end

inductive LMode where
  | pure | pureF | trim | keep
  deriving DecidableEq

def LMode.isPure : LMode → Bool
  | .pure | .pureF => true
  | _ => false

/-- A result: a variable, or what lies at the address that it holds. -/
inductive ResL where
  | var (k : Nat)
  | cell (k n : Nat) (agg : Bool)

structure LFun where
  nparams : Nat
  init : List (Option Nat)
  code : LCode
  results : List ResL
  mode : LMode

inductive LDef where
  | fn (f : LFun)
  | hook (h : List LVal → List LObj → Option (LVal × Option (List LObj)))

def initVars (init : List (Option Nat)) (args : List LVal) : List LVal := init.map fun o => (o.bind (args[·]?)).getD .undef

def res1 (s : RS) : ResL → Option (LVal × RS)
  | .var k => (s.vars[k]?).map fun v => (v, { s with vars := s.vars.set k .undef })
  | .cell k n agg => (s.vars[k]?).bind fun p => match p with
    | .ptr id off => match s.st[id]? with
      | some (.cells t c) => (partL agg (c.map LVal.down) off n).map fun v => (v, { s with st := s.st.set id (.cells t (c.map LVal.stay)) })
      | _ => none
    | _ => none

def LVal.isTup : LVal → Bool
  | .tup _ => true
  | _ => false

def resOne (s : RS) (r : ResL) : Option (LVal × RS) := (res1 s r).bind fun v => if v.1.isTup then none else some v

def resAll (s : RS) : List ResL → Option (List LVal × RS)
  | [] => some ([], s)
  | r :: rs => (resOne s r).bind fun v => (resAll v.2 rs).map fun l => (v.1 :: l.1, l.2)

def resL (s : RS) : List ResL → Option (LVal × RS)
  | [r] => resOne s r
  | rs => (resAll s rs).map fun p => (.tup p.1, p.2)

/-- A slice that the call made and filled goes out as one that stays. -/
def freeze1 (st : List LObj) (id off len esz : Nat) (agg : Bool) : LVal := match st[id]? with
  | some (.cells _ c) => if off + len * esz ≤ c.length ∧ c.all LVal.plain ∧ LVal.pfs c ∧ (agg || esz == 1) then .vs false .sh esz (chunks agg esz len ((c.drop off).take (len * esz))) else .undef
  | _ => .undef
def freezeL (st : List LObj) : List LVal → List LVal
  | [] => []
  | .ms id off len esz agg :: r => freeze1 st id off len esz agg :: r
  | v :: r => v :: freezeL st r
def freeze (st : List LObj) : LVal → LVal
  | .tup l => .tup (freezeL st l)
  | .ms id off len esz agg => freeze1 st id off len esz agg
  | v => v

def outL (m : LMode) (st : List LObj) (v : LVal) (st' : List LObj) : Option (LVal × Option (List LObj)) :=
  match m with
  | .pure => if v.pf then some (v, none) else none
  | .pureF => let u := freeze st' v; if u.pf then some (u, none) else none
  | .trim => if v.within st.length ∧ (st'.take st.length).all (LObj.within st.length) ∧ st.length ≤ st'.length then some (v, some (st'.take st.length)) else none
  | .keep => some (v, some st')

def runFun (code : LCode → RS → Option (LExit × RS)) (lf : LFun) (args : List LVal) (st : List LObj) : Option (LVal × Option (List LObj)) :=
  if args.length = lf.nparams ∧ (lf.mode.isPure = true → LVal.pfs args = true) then
    (code lf.code { vars := initVars lf.init args, st := if lf.mode.isPure then [] else st, rs := [] }).bind fun r => match r.1 with
      | .exit _ => none
      | _ => (resL r.2 lf.results).bind fun v => outL lf.mode st v.1 v.2.st
  else none

structure Tbl where
  fns : FuncId → Option LDef
  im : TypeId → String → Option FuncId
  impl : TypeId → TypeId → Bool

def callN (T : Tbl) : Nat → CallL
  | 0 => fun _ _ _ => none
  | n + 1 => fun f args st => match T.fns f with
    | none => none
    | some (.hook h) => h args st
    | some (.fn lf) => runFun (codeN (callN T n) T.im T.impl n) lf args st

end Go.L
/- L2: what the interpreter's values and states stand for in the model's world. -/
set_option linter.unusedVariables false
set_option linter.unusedSimpArgs false
namespace Go.L
open Go

mutual
/-- The value stands for the model's one: cells that slices and pointers lead to, outside the store, are among those that stay (S). -/
inductive V (w : World) (S : Nat → Nat → Prop) : List Nat → LVal → Value → Prop
  | undef {ρ cv} : V w S ρ .undef cv
  | bool {ρ} (b) : V w S ρ (.bool b) (.bool b)
  | int {ρ} (k n) : V w S ρ (.int k n) (.int k n)
  | str {ρ} (s) : V w S ρ (.str s) (.string ⟨⟨s⟩⟩)
  | ptr {ρ id off b} : ρ[id]? = some b → V w S ρ (.ptr id off) (.pointer (some ⟨b, off, none⟩))
  | ref {ρ v b off} : Row w S b off v.cells → V w S ρ (.ref v) (.pointer (some ⟨b, off, none⟩))
  | nilptr {ρ} : V w S ρ .nilptr (.pointer none)
  | nils {ρ o n} : V w S ρ (.vs true o n []) (.slice none 0 0)
  | vs {ρ o n xs b off cap} : xs.length ≤ cap → cap ≤ maxLen → (o = .full → cap = xs.length) → (∀ x ∈ xs, x.cells.length = n) → Row w S b off (xs.flatMap LVal.cells) →
      V w S ρ (.vs false o n xs) (.slice (some ⟨b, off, none⟩) xs.length cap)
  | vz {ρ o n} {ad : Addr} : V w S ρ (.vs false o n []) (.slice (some ad) 0 0)
  | ms {ρ id b off len esz agg cap} : ρ[id]? = some b → len ≤ cap → cap ≤ maxLen → V w S ρ (.ms id off len esz agg) (.slice (some ⟨b, off, none⟩) len cap)
  | map {ρ id b} : ρ[id]? = some b → V w S ρ (.map id) (.map (some b))
  | nilmap {ρ} : V w S ρ .nilmap (.map none)
  | func {ρ f caps cs} : VL w S ρ caps cs → caps.all LVal.plain = true → V w S ρ (.func f caps) (.func (.func f) #[] ⟨cs⟩)
  | nilfunc {ρ} : V w S ρ .nilfunc .nilFunc
  | iface {ρ t v x} : V w S ρ v x → (v.plain = true ∨ v.isAgg = true) → V w S ρ (.iface t v) (.iface t x)
  | niliface {ρ} : V w S ρ .niliface .nilIface
  | agg {ρ cs xs} : VL w S ρ cs xs → cs.all LVal.plain = true → V w S ρ (.agg cs) (.agg ⟨xs⟩)
  | tup {ρ l xs} : VL w S ρ l xs → l.all (fun v => v.plain || v.isAgg) = true → V w S ρ (.tup l) (.tuple ⟨xs⟩)
inductive VL (w : World) (S : Nat → Nat → Prop) : List Nat → List LVal → List Value → Prop
  | nil {ρ} : VL w S ρ [] []
  | cons {ρ v c vs cs} : V w S ρ v c → VL w S ρ vs cs → VL w S ρ (v :: vs) (c :: cs)
inductive Row (w : World) (S : Nat → Nat → Prop) : Nat → Nat → List LVal → Prop
  | nil {b off} : Row w S b off []
  | cons {b off v c r} : S b off → w.cell? ⟨b, off, none⟩ = some c → V w S [] v c → v.plain = true → Row w S b (off + 1) r → Row w S b off (v :: r)
end

def Ext (S : Nat → Nat → Prop) (w : World) (S' : Nat → Nat → Prop) (w' : World) : Prop :=
  ∀ b o, S b o → S' b o ∧ w'.cell? ⟨b, o, none⟩ = w.cell? ⟨b, o, none⟩
def RhoLe (ρ ρ' : List Nat) : Prop := ∀ (id b : Nat), ρ[id]? = some b → ρ'[id]? = some b

theorem Ext.refl (S w) : Ext S w S w := fun _ _ h => ⟨h, rfl⟩
theorem Ext.trans {S w S' w' S'' w''} (h : Ext S w S' w') (k : Ext S' w' S'' w'') : Ext S w S'' w'' :=
  fun b o hs => let ⟨h1, h2⟩ := h b o hs; let ⟨k1, k2⟩ := k b o h1; ⟨k1, k2.trans h2⟩
theorem RhoLe.refl (ρ) : RhoLe ρ ρ := fun _ _ h => h
theorem RhoLe.nil (ρ) : RhoLe [] ρ := fun _ _ h => by simp at h
theorem RhoLe.trans {a b c} (h : RhoLe a b) (k : RhoLe b c) : RhoLe a c := fun i x e => k i x (h i x e)
theorem RhoLe.app (ρ l : List Nat) : RhoLe ρ (ρ ++ l) := fun id b h => by
  rw [List.getElem?_append_left]; exact h
  exact (List.getElem?_eq_some_iff.1 h).1

section mono
variable {w w' : World} {S S' : Nat → Nat → Prop}

theorem V.mono_all (he : Ext S w S' w') {ρ v cv} (h : V w S ρ v cv) : ∀ ρ', RhoLe ρ ρ' → V w' S' ρ' v cv := by
  refine V.rec (motive_1 := fun ρ v cv _ => ∀ ρ', RhoLe ρ ρ' → V w' S' ρ' v cv)
    (motive_2 := fun ρ l cs _ => ∀ ρ', RhoLe ρ ρ' → VL w' S' ρ' l cs)
    (motive_3 := fun b off l _ => Row w' S' b off l) ?_ ?_ ?_ ?_ ?_ ?_ ?_ ?_ ?_ ?_ ?_ ?_ ?_ ?_ ?_ ?_ ?_ ?_ ?_ ?_ ?_ ?_ ?_ h
  · intros; exact .undef
  · intros; exact .bool _
  · intros; exact .int _ _
  · intros; exact .str _
  · intro ρ id off b h ρ' hr; exact .ptr (hr _ _ h)
  · intro ρ v b off _ ih ρ' hr; exact .ref ih
  · intros; exact .nilptr
  · intros; exact .nils
  · intro ρ o n xs b off cap h1 h2 h3 h4 _ ih ρ' hr; exact .vs h1 h2 h3 h4 ih
  · intros; exact .vz
  · intro ρ id b off len esz agg cap h h1 h2 ρ' hr; exact .ms (hr _ _ h) h1 h2
  · intro ρ id b h ρ' hr; exact .map (hr _ _ h)
  · intros; exact .nilmap
  · intro ρ f caps cs _ hp ih ρ' hr; exact .func (ih ρ' hr) hp
  · intros; exact .nilfunc
  · intro ρ t v x _ hp ih ρ' hr; exact .iface (ih ρ' hr) hp
  · intros; exact .niliface
  · intro ρ cs xs _ hp ih ρ' hr; exact .agg (ih ρ' hr) hp
  · intro ρ l xs _ hp ih ρ' hr; exact .tup (ih ρ' hr) hp
  · intros; exact .nil
  · intro ρ v c vs cs _ _ i1 i2 ρ' hr; exact .cons (i1 ρ' hr) (i2 ρ' hr)
  · intros; exact .nil
  · intro b off v c r hs hc _ hp _ i1 i2
    have := he _ _ hs
    exact .cons this.1 (this.2.trans hc) (i1 [] (RhoLe.refl _)) hp i2

theorem V.mono {ρ ρ' v cv} (h : V w S ρ v cv) (he : Ext S w S' w') (hr : RhoLe ρ ρ') : V w' S' ρ' v cv := V.mono_all he h ρ' hr
theorem VL.mono {ρ ρ' l cs} (h : VL w S ρ l cs) (he : Ext S w S' w') (hr : RhoLe ρ ρ') : VL w' S' ρ' l cs := by
  induction l generalizing cs with
  | nil => cases h; exact .nil
  | cons v l ih => cases h with | cons h1 h2 => exact .cons (h1.mono he hr) (ih h2)
end mono

theorem VL.length {w S ρ l cs} (h : VL w S ρ l cs) : l.length = cs.length := by
  induction l generalizing cs with
  | nil => cases h; rfl
  | cons v l ih => cases h with | cons h1 h2 => simp [ih h2]
theorem VL.get {w S ρ l cs} (h : VL w S ρ l cs) : ∀ (i : Nat) (v : LVal), l[i]? = some v → ∃ c, cs[i]? = some c ∧ V w S ρ v c := by
  induction l generalizing cs with
  | nil => intro i v hv; simp at hv
  | cons x l ih =>
    cases h with
    | cons h1 h2 =>
      intro i v hv
      cases i with
      | zero => simp at hv; subst hv; exact ⟨_, rfl, h1⟩
      | succ i => simpa using ih h2 i v (by simpa using hv)
theorem VL.of {w S ρ} : ∀ {l : List LVal} {cs : List Value}, l.length = cs.length → (∀ (i : Nat) (v : LVal), l[i]? = some v → ∃ c, cs[i]? = some c ∧ V w S ρ v c) → VL w S ρ l cs
  | [], [], _, _ => .nil
  | v :: l, c :: cs, hl, h => by
    obtain ⟨c', e, hv⟩ := h 0 v rfl
    simp at e; subst e
    exact .cons hv (VL.of (by simpa using hl) (fun i u hu => by simpa using h (i + 1) u (by simpa using hu)))
theorem VL.append {w S ρ l l' cs cs'} (h : VL w S ρ l cs) (h' : VL w S ρ l' cs') : VL w S ρ (l ++ l') (cs ++ cs') := by
  induction l generalizing cs with
  | nil => cases h; exact h'
  | cons v l ih => cases h with | cons h1 h2 => exact .cons h1 (ih h2)

/-- Cells from a place on, that stand for values (their own place in T). -/
def Cells (w : World) (S T : Nat → Nat → Prop) (b off : Nat) (l : List LVal) : Prop :=
  ∀ (j : Nat) (v : LVal), l[j]? = some v → T b (off + j) ∧ ∃ c, w.cell? ⟨b, off + j, none⟩ = some c ∧ V w S [] v c ∧ v.plain = true

theorem Row.cells {w S b off l} (h : Row w S b off l) : Cells w S S b off l := by
  induction l generalizing off with
  | nil => intro j v hv; simp at hv
  | cons x l ih =>
    cases h with
    | cons hs hc hv hp hr =>
      intro j v hj
      cases j with
      | zero => simp at hj; subst hj; exact ⟨hs, _, hc, hv, hp⟩
      | succ j =>
        have := ih hr j v (by simpa using hj)
        rwa [show off + 1 + j = off + (j + 1) by omega] at this
theorem Cells.row {w S b} : ∀ {l : List LVal} {off : Nat}, Cells w S S b off l → Row w S b off l
  | [], _, _ => .nil
  | v :: l, off, h => by
    obtain ⟨hs, c, hc, hv, hp⟩ := h 0 v rfl
    refine .cons hs hc hv hp (Cells.row fun j u hu => ?_)
    have := h (j + 1) u (by simpa using hu)
    rwa [show off + (j + 1) = off + 1 + j by omega] at this
theorem Cells.weak {w S T T' b off l} (h : Cells w S T b off l) (ht : ∀ b o, T b o → T' b o) : Cells w S T' b off l :=
  fun j v hj => let ⟨h1, h2⟩ := h j v hj; ⟨ht _ _ h1, h2⟩
theorem Cells.sub {w S T b off l} (h : Cells w S T b off l) (i n : Nat) : Cells w S T b (off + i) ((l.drop i).take n) := by
  intro j v hj
  have hj' : l[i + j]? = some v := by
    rw [List.getElem?_take] at hj
    split at hj
    · simpa using hj
    · cases hj
  have := h (i + j) v hj'
  rwa [show off + (i + j) = off + i + j by omega] at this

/-! ### Who owns what -/
inductive Base where
  | var (k : Nat)
  | cell (id off : Nat)
  | rs (i : Nat)
  | pend
  deriving DecidableEq

abbrev GLoc := Base × Nat

inductive Cl where
  | ro
  | box (id : Nat)
  | arr (l : GLoc) (e : Nat) (x : Bool)

/-- What a place owns: a slice from its block's first cell on, with room behind. -/
def OwnAt (P : Program) (w : World) (S : Nat → Nat → Prop) (G : Nat → Cl) (l : GLoc) (e : TypeId) (x : Bool) (n : Nat) (xs : List LVal) (cv : Value) : Prop :=
  ∃ b cap cur, cv = .slice (some ⟨b, 0, none⟩) xs.length cap ∧ w.heap[b]? = some (.cells cur e (0, 0)) ∧ xs.length ≤ cap ∧ cap ≤ maxLen ∧ cur.size = cap * n ∧
    P.cellsOf e = n ∧ 0 < n ∧ G b = .arr l (xs.length * n) x ∧ (∀ y ∈ xs, y.cells.length = n) ∧ Cells w S (fun b o => x = false → S b o) b 0 (xs.flatMap LVal.cells)

def At1 (P : Program) (w : World) (S : Nat → Nat → Prop) (G : Nat → Cl) (ρ : List Nat) (pkok : Loc → Nat → List LVal → Value → Prop) (l : GLoc) (v : LVal) (cv : Value) : Prop :=
  match v with
  | .vs b (.own e x) n xs => b = false ∧ OwnAt P w S G l e x n xs cv
  | .vs b (.pk p) n xs => b = false ∧ pkok p n xs cv
  | v => V w S ρ v cv

def At (P : Program) (w : World) (S : Nat → Nat → Prop) (G : Nat → Cl) (ρ : List Nat) (pkok : Loc → Nat → List LVal → Value → Prop) (b : Base) (v : LVal) (cv : Value) : Prop :=
  match v with
  | .tup l => ∃ cs : List Value, cv = .tuple ⟨cs⟩ ∧ l.length = cs.length ∧ ∀ (c : Nat) (u : LVal), l[c]? = some u → (∀ l', u ≠ .tup l') ∧ ∃ cu, cs[c]? = some cu ∧ At1 P w S G ρ (fun _ _ _ _ => False) (b, c + 1) u cu
  | v => At1 P w S G ρ pkok (b, 0) v cv

def noPkOk : Loc → Nat → List LVal → Value → Prop := fun _ _ _ _ => False

/-- An object of the store, in its block. -/
def ObjAt (P : Program) (w : World) (S : Nat → Nat → Prop) (G : Nat → Cl) (ρ : List Nat) (id : Nat) : LObj → Prop
  | .dead => True
  | .cells et c => ∃ b cc, ρ[id]? = some b ∧ w.heap[b]? = some (.cells cc et (0, 0)) ∧ G b = .box id ∧ c.length ≤ cc.size ∧
      ∀ (o : Nat) (v : LVal), c[o]? = some v → (v.plain = true ∨ v.isOwn = true) ∧ ∃ cv, cc[o]? = some cv ∧ At1 P w S G ρ noPkOk (.cell id o, 0) v cv
  | .map es => ∃ b ces clock, ρ[id]? = some b ∧ w.heap[b]? = some (.map ces clock) ∧ G b = .box id ∧ ces.size = es.length ∧ MapKept.Stamped ces clock ∧
      ∀ (i : Nat) (e : LVal × LVal), es[i]? = some e → ∃ ce : MapEntry, ces[i]? = some ce ∧ V w S [] e.1 ce.key ∧ scalarKey e.1 = true ∧ V w S ρ e.2 ce.val ∧ (e.2.plain = true ∨ e.2.isAgg = true)

/-- A look at a place, that still holds what it held. -/
def PkOk (vm : List Nat) (ρ : List Nat) (σ : RS) (a : Act) (w : World) : Loc → Nat → List LVal → Value → Prop
  | .var k, n, xs, cv => ∃ e x t, σ.vars[k]? = some (.vs false (.own e x) n xs) ∧ vm[k]? = some t ∧ a.tmps.getD t undef = cv
  | .cell id off, n, xs, cv => ∃ e x ty c b cc et fr, σ.st[id]? = some (.cells ty c) ∧ c[off]? = some (.vs false (.own e x) n xs) ∧ ρ[id]? = some b ∧ w.heap[b]? = some (.cells cc et fr) ∧ cc[off]? = some cv

structure SWf (w : World) (S : Nat → Nat → Prop) (G : Nat → Cl) : Prop where
  lt : ∀ b o, S b o → b < w.heap.size
  fresh : ∀ b, w.heap.size ≤ b → G b = .ro
  box : ∀ b o id, S b o → G b ≠ .box id
  arr : ∀ b o l e x, S b o → G b = .arr l e x → x = false ∧ o < e

structure Rel (P : Program) (vm : List Nat) (lm : List (Option Nat)) (ρ : List Nat) (S : Nat → Nat → Prop) (G : Nat → Cl) (σ : RS) (a : Act) (w : World) : Prop where
  defers : a.defers = []
  vsz : ∀ (k t : Nat), vm[k]? = some t → t < a.tmps.size
  lsz : ∀ (i t : Nat), lm[i]? = some (some t) → t < a.tmps.size
  swf : SWf w S G
  len : ρ.length = σ.st.length
  rho : ∀ (id b : Nat), ρ[id]? = some b → b < w.heap.size
  st : ∀ (id : Nat) (o : LObj), σ.st[id]? = some o → ObjAt P w S G ρ id o
  vars : ∀ (k : Nat) (v : LVal), σ.vars[k]? = some v → ∃ t, vm[k]? = some t ∧ t < a.tmps.size ∧ At P w S G ρ noPkOk (.var k) v (a.tmps.getD t undef)
  rs : ∀ (i : Nat) (v : LVal), σ.rs[i]? = some v → v = .undef ∨ ∃ t, lm[i]? = some (some t) ∧ t < a.tmps.size ∧ At P w S G ρ (PkOk vm ρ σ a w) (.rs i) v (a.tmps.getD t undef)

/-- What a run of code does to the world beside its own things. -/
structure Pr (w : World) (S : Nat → Nat → Prop) (G : Nat → Cl) (ρ : List Nat) (w' : World) (S' : Nat → Nat → Prop) (G' : Nat → Cl) (ρ' : List Nat) : Prop where
  os : w'.os = w.os
  tape : w'.tape = w.tape
  output : w'.output = w.output
  size : w.heap.size ≤ w'.heap.size
  ext : Ext S w S' w'
  rho : RhoLe ρ ρ'
  frame : ∀ b, b < w.heap.size → G b = .ro → w'.heap[b]? = w.heap[b]? ∧ G' b = .ro
  snew : ∀ b o, S' b o → S b o ∨ w.heap.size ≤ b ∨ G b ≠ .ro

theorem Pr.refl (w S G ρ) : Pr w S G ρ w S G ρ := ⟨rfl, rfl, rfl, Nat.le_refl _, Ext.refl _ _, RhoLe.refl _, fun _ _ h => ⟨rfl, h⟩, fun _ _ h => .inl h⟩
theorem Pr.trans {w S G ρ w1 S1 G1 ρ1 w2 S2 G2 ρ2} (h : Pr w S G ρ w1 S1 G1 ρ1) (k : Pr w1 S1 G1 ρ1 w2 S2 G2 ρ2) : Pr w S G ρ w2 S2 G2 ρ2 where
  os := k.os.trans h.os
  tape := k.tape.trans h.tape
  output := k.output.trans h.output
  size := Nat.le_trans h.size k.size
  ext := h.ext.trans k.ext
  rho := h.rho.trans k.rho
  frame b hb hg := by
    obtain ⟨h1, h2⟩ := h.frame b hb hg
    obtain ⟨k1, k2⟩ := k.frame b (Nat.lt_of_lt_of_le hb h.size) h2
    exact ⟨k1.trans h1, k2⟩
  snew b o hs := by
    rcases k.snew b o hs with h1 | h1 | h1
    · exact h.snew b o h1
    · exact .inr (.inl (Nat.le_trans h.size h1))
    · by_cases hb : b < w.heap.size
      · by_cases hg : G b = .ro
        · exact absurd (h.frame b hb hg).2 h1
        · exact .inr (.inr hg)
      · exact .inr (.inl (by omega))

end Go.L
