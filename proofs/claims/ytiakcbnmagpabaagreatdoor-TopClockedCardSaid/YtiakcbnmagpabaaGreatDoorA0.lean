/- The abstract machine: a deterministic evaluator of the model's code, over values whose addresses are names of rows. -/
import GoSem.Dispatch
import Derived.Laws.Sem
import Derived.Laws.Cells
import Derived.OrdersIn
import Derived.RangeFuncRecord
import Derived.Laws.Entries
import Derived.Laws.StructEq
import Derived.ChangeKeysEq
namespace Go.Am

/-- A place of a register: the binary digits of its number + 1. -/
inductive Pth where
  | h
  | l (p : Pth)
  | r (p : Pth)
  deriving DecidableEq, Repr, Inhabited

def Pth.ofF : Nat → Nat → Pth
  | 0, _ => .h
  | f + 1, n => if n = 0 then .h else if (n - 1) % 2 = 0 then .l (Pth.ofF f ((n - 1) / 2)) else .r (Pth.ofF f ((n - 1) / 2))
def Pth.of (n : Nat) : Pth := Pth.ofF n n

inductive Cap where
  | fixed (c : Nat)
  | upto (lo : Nat)
  deriving DecidableEq, Repr, Inhabited

inductive AV where
  | bool (b : Bool)
  | int (k : IntKind) (n : Int)
  | str (s : List UInt8)
  | ptr (id off : Nat)
  | nilptr
  | slice (id off len : Nat) (cap : Cap)
  | nilslice
  | map (id : Nat)
  | nilmap
  | func (fn : Fn) (first captured : List AV)
  | nilfunc
  | agg (cells : List AV)
  | tuple (vs : List AV)
  deriving Inhabited

def undef : AV := .tuple []

inductive RT where
  | nil
  | node (v : AV) (l r : RT)
  deriving Inhabited

def RT.get : Pth → RT → AV
  | _, .nil => undef
  | .h, .node v _ _ => v
  | .l p, .node _ a _ => RT.get p a
  | .r p, .node _ _ b => RT.get p b

def RT.set : Pth → RT → AV → RT
  | .h, .nil, v => .node v .nil .nil
  | .h, .node _ a b, v => .node v a b
  | .l p, .nil, v => .node undef (RT.set p .nil v) .nil
  | .l p, .node x a b, v => .node x (RT.set p a v) b
  | .r p, .nil, v => .node undef .nil (RT.set p .nil v)
  | .r p, .node x a b, v => .node x a (RT.set p b v)

inductive RK where
  | closed | open_ | ro
  deriving DecidableEq, Repr, Inhabited

inductive AX where
  | normal | exit (id : Nat) | ret
  deriving DecidableEq, Repr, Inhabited

inductive LS where
  | ready | busy | done | exhausted
  deriving DecidableEq, Repr, Inhabited

inductive AO where
  | row (e : Nat) (cells : List AV) (k : RK)
  | map (es : List (AV × AV × Nat)) (clock : Nat)
  | loop (st : LS) (pending : Option AX)
  | dfr (taken : Bool)
  deriving Inhabited

inductive HT where
  | nil
  | node (o : Option AO) (l r : HT)
  deriving Inhabited

def HT.get : HT → Nat → Option AO
  | .nil, _ => none
  | .node o _ _, 0 => o
  | .node _ l r, n + 1 => if n % 2 = 0 then l.get (n / 2) else r.get (n / 2)

def HT.setF : Nat → HT → Nat → Option AO → HT
  | _, .nil, 0, x => .node x .nil .nil
  | _, .node _ l r, 0, x => .node x l r
  | 0, t, _ + 1, _ => t
  | f + 1, .nil, n + 1, x => if n % 2 = 0 then .node none (HT.setF f .nil (n / 2) x) .nil else .node none .nil (HT.setF f .nil (n / 2) x)
  | f + 1, .node o l r, n + 1, x => if n % 2 = 0 then .node o (HT.setF f l (n / 2) x) r else .node o l (HT.setF f r (n / 2) x)
def HT.set (t : HT) (n : Nat) (x : Option AO) : HT := HT.setF (n + 1) t n x

structure AH where
  next : Nat
  floor : Nat
  marks : List Nat
  tr : HT
  deriving Inhabited

def AH.get (h : AH) (id : Nat) : Option AO := h.tr.get id
/-- an object changed: one that may be written -/
def AH.put (h : AH) (id : Nat) (o : Option AO) : Option AH :=
  if h.floor ≤ id then some { h with tr := h.tr.set id o } else none
def AH.new (h : AH) (o : AO) : Nat × AH := (h.next, { h with next := h.next + 1, tr := h.tr.set h.next (some o) })
/-- a name without an object -/
def AH.phantom (h : AH) : Nat × AH := (h.next, { h with next := h.next + 1 })

inductive Opd where
  | r (i : Nat)
  | c (v : AV)
  deriving Inhabited
def Opd.ev (g : RT) : Opd → AV
  | .r i => g.get (Pth.of i)
  | .c v => v

inductive PTy where
  | bool | int (k : IntKind) | str
  deriving DecidableEq, Repr, Inhabited

inductive LenK where
  | str | slice | map | const (n : Nat)
  deriving DecidableEq, Repr, Inhabited

inductive AOp where
  | mv (x : Opd)
  | pick (c a b : Opd)
  | bin (op : BinOp) (x y : Opd)
  | eql (neg : Bool) (t : List PTy) (agg : Bool) (x y : Opd)
  | eqnil (neg : Bool) (k : Nat) (x y : Opd)    -- 0: pointers, 1: slices, 2: maps, 3: functions
  | un (op : UnOp) (x : Opd)
  | toInt (k : IntKind) (x : Opd)
  | same (x : Opd)                 -- a string's conversion that changes nothing
  | sameSl (x : Opd)               -- a slice's of bytes: it is marked behind its end
  | bytesOf (x : Opd)              -- string to bytes
  | strOf (x : Opd)                -- bytes to string
  | load1 (x : Opd)
  | loadN (n : Nat) (x : Opd)
  | store (n : Nat) (x v : Opd)
  | fieldAt (off : Nat) (x : Opd)
  | indexArr (len e : Nat) (x i : Opd)
  | indexSl (e : Nat) (x i : Opd)
  | indexStr (x i : Opd)
  | indexAgg (len e : Nat) (agg : Bool) (x i : Opd)
  | part (off n : Nat) (agg : Bool) (x : Opd)
  | extract (i : Nat) (x : Opd)
  | nilCheck (x : Opd)
  | sliceSl (e : Nat) (ph : Bool) (x : Opd) (lo hi mx : Option Opd)
  | sliceArr (n e : Nat) (x : Opd) (lo hi mx : Option Opd)
  | sliceStr (x : Opd) (lo hi : Option Opd)
  | build (zero : List AV) (parts : List (Nat × Nat × Opd))
  | buildSlice (e len : Nat) (zero : List AV) (parts : List (Nat × Nat × Opd))
  | box (n : Nat) (x : Opd)
  | alloc (zero : List AV)
  | makeSlice (e bytes : Nat) (zero : List AV) (len cap : Opd)
  | makeMap
  | makeFunc (fn : Fn) (first captured : List Opd)
  | lookup (kt : List PTy) (agg : Bool) (zero : AV) (ok : Bool) (m k : Opd)
  | mapUpdate (kt : List PTy) (agg : Bool) (m k v : Opd)
  | len (k : LenK) (x : Opd)
  | cap (x : Opd)
  | append (e bytes : Nat) (x y : Opd)
  | appendZ (e bytes : Nat) (zero : List AV) (x n : Opd)
  | copy (e : Nat) (x y : Opd)
  | maxmin (isMax : Bool) (x : Opd) (ys : List Opd)
  | toArr (n : Nat) (x : Opd)
  | add64 (x y z : Opd)            -- math/bits.Add64, which has no body
  | call (f : FuncId) (args : List Opd)
  | pcall (f : FuncId) (args : List Opd)
  | callv (f : Opd) (args : List Opd)
  | bad (why : Nat)
  deriving Inhabited

structure AOper where
  dst : Option Nat
  op : AOp
  guard : Option (Nat × Bool)
  deriving Inhabited

inductive AC where
  | skip
  | ops (l : List AOper)
  | multi (l : List (Nat × AOper)) (pairs : List (Nat × Nat))    -- a region whose orders differ: kinds of heap use, pairs that are to be apart
  | seq (a b : AC)
  | cond (c : Opd) (a b : AC)
  | block (id : Nat) (c : AC)
  | loop (c : AC)
  | rfun (f : Opd) (ps : List Nat) (assign body : AC)
  | exit (id : Nat)
  | ret
  | fail (why : Nat)
  deriving Inhabited

inductive RV where
  | reg (p : Nat)
  | cell (p : Nat) (n : Nat) (agg : Bool)
  deriving Inhabited

structure AF where
  nt : Nat
  results : List RV
  body : AC
  deriving Inhabited

/-! ### values -/
def AV.cells : AV → List AV
  | .agg l => l
  | v => [v]
def AV.one : AV → Bool
  | .agg _ | .tuple _ => false
  | _ => true

def eqTy : PTy → AV → AV → Option Bool
  | .bool, .bool a, .bool b => some (a == b)
  | .int _, .int j a, .int k b => if j = k then some (a == b) else none
  | .str, .str a, .str b => some (a == b)
  | _, _, _ => none
def eqTys : List PTy → List AV → List AV → Option Bool
  | [], [], [] => some true
  | t :: ts, x :: xs, y :: ys => match eqTy t x y, eqTys ts xs ys with
    | some a, some b => some (a && b)
    | _, _ => none
  | _, _, _ => none
def eqVal (ts : List PTy) (agg : Bool) (x y : AV) : Option Bool :=
  match agg, x, y with
  | true, .agg a, .agg b => eqTys ts a b
  | false, x, y => eqTys ts [x] [y]
  | _, _, _ => none

def intBin (op : BinOp) (k : IntKind) (x y : Int) : Option AV :=
  match op with
  | .add => some (.int k (k.wrap (x + y)))
  | .sub => some (.int k (k.wrap (x - y)))
  | .mul => some (.int k (k.wrap (x * y)))
  | .quo => if y = 0 then none else some (.int k (k.wrap (x.tdiv y)))
  | .rem => if y = 0 then none else some (.int k (x.tmod y))
  | .and => some (.int k (k.wrap ((BitVec.ofInt k.bits x &&& BitVec.ofInt k.bits y).toNat : Nat)))
  | .or => some (.int k (k.wrap ((BitVec.ofInt k.bits x ||| BitVec.ofInt k.bits y).toNat : Nat)))
  | .xor => some (.int k (k.wrap ((BitVec.ofInt k.bits x ^^^ BitVec.ofInt k.bits y).toNat : Nat)))
  | .andNot => some (.int k (k.wrap ((BitVec.ofInt k.bits x &&& ~~~BitVec.ofInt k.bits y).toNat : Nat)))
  | .eql => some (.bool (x == y))
  | .neq => some (.bool (x != y))
  | .lss => some (.bool (decide (x < y)))
  | .leq => some (.bool (decide (x ≤ y)))
  | .gtr => some (.bool (decide (x > y)))
  | .geq => some (.bool (decide (x ≥ y)))
  | .shl | .shr => none
def intShift (left : Bool) (k : IntKind) (x y : Int) : Option AV :=
  if y < 0 then none else
  let n := min y.toNat k.bits
  some (.int k (if left then k.wrap (x * 2 ^ n) else x.fdiv (2 ^ n)))
def strBin (op : BinOp) (a b : List UInt8) : Option AV :=
  let lt := Op.bytesLess a b
  let eq := a == b
  match op with
  | .add => if a.length + b.length ≤ 2 ^ 40 then some (.str (a ++ b)) else none
  | .eql => some (.bool eq)
  | .neq => some (.bool !eq)
  | .lss => some (.bool lt)
  | .leq => some (.bool (lt || eq))
  | .gtr => some (.bool !(lt || eq))
  | .geq => some (.bool !lt)
  | _ => none
def binV (op : BinOp) (x y : AV) : Option AV :=
  match op, x, y with
  | .shl, .int k a, .int _ b => intShift true k a b
  | .shr, .int k a, .int _ b => intShift false k a b
  | op, .int k a, .int k' b => if k = k' then intBin op k a b else none
  | op, .str a, .str b => strBin op a b
  | _, _, _ => none
def unV (op : UnOp) (x : AV) : Option AV :=
  match op, x with
  | .neg, .int k n => intBin .sub k 0 n
  | .xor, .int k n => intBin .xor k (if k.signed then -1 else k.max) n
  | .not, .bool b => some (.bool !b)
  | _, _ => none
/-- is a value of the kind nil? -/
def isNil : Nat → AV → Option Bool
  | 0, .nilptr | 1, .nilslice | 2, .nilmap | 3, .nilfunc => some true
  | 0, .ptr .. | 1, .slice .. | 2, .map .. | 3, .func .. => some false
  | _, _ => none

/-! ### rows -/
def AH.cell (h : AH) (id off : Nat) : Option AV :=
  match h.get id with
  | some (.row _ cs _) => cs[off]?
  | _ => none
def AH.cellsAt (h : AH) (id off n : Nat) : Option (List AV) :=
  if n = 0 then some [] else
  match h.get id with
  | some (.row _ cs _) => if off + n ≤ cs.length then some ((cs.drop off).take n) else none
  | _ => none
def splice (cs : List AV) (off : Nat) (vs : List AV) : List AV := cs.take off ++ vs ++ cs.drop (off + vs.length)
def AH.write (h : AH) (id off : Nat) (vs : List AV) : Option AH :=
  if vs.isEmpty then some h else
  match h.get id with
  | some (.row e cs k) => if k = .ro then none else if off + vs.length ≤ cs.length ∧ vs.all AV.one then h.put id (some (.row e (splice cs off vs) k)) else none
  | _ => none

def sliceB (x : AV) (y : Nat) : Option Nat :=
  match x with
  | .int _ i => if 0 ≤ i ∧ i ≤ y then some i.toNat else none
  | _ => none

def optB (o : Option AV) (y d : Nat) : Option Nat :=
  match o with
  | none => some d
  | some v => sliceB v y

def fillParts : List AV → List (Nat × Nat × AV) → Option (List AV)
  | cells, [] => some cells
  | cells, (off, size, v) :: rest =>
    let vs := v.cells
    if vs.length = size ∧ off + size ≤ cells.length then fillParts (splice cells off vs) rest else none

def rep (n : Nat) (zero : List AV) : List AV := (List.replicate n zero).flatten

def opt {α β : Type} (x : Option α) (f : α → Option β) : Option β := match x with | some a => f a | none => none

def lookupE (ts : List PTy) (agg : Bool) (k : AV) : List (AV × AV × Nat) → Nat → Option (Option (Nat × AV))
  | [], _ => some none
  | (k', v, _) :: es, i => match eqVal ts agg k k' with
    | some true => some (some (i, v))
    | some false => lookupE ts agg k es (i + 1)
    | none => none

def capBound (need bytes : Nat) : Bool := (2 * need + 1024) * bytes ≤ 2 ^ 47

/-- how much of an open row is known, in elements from lo on -/
def capOf (h : AH) (id : Nat) (lo : Nat) (e : Nat) : Nat :=
  match h.get id with
  | some (.row e' cs .open_) => if e' = e then cs.length / e - lo else 0
  | _ => 0

/-- append: s, and the new cells -/
def appendV (e bytes : Nat) (s : AV) (n : Nat) (new : List AV) (h : AH) : Option (AV × AH) :=
  match s with
  | .nilslice =>
    if n = 0 then some (.nilslice, h) else
    if !capBound n bytes || !new.all AV.one then none else
    let (id, h) := h.new (.row e new .open_)
    some (.slice id 0 n (.upto 0), h)
  | .slice id off len (.fixed c) =>
    if len + n ≤ c then
      opt (h.write id (off + len * e) new) fun h => some (.slice id off (len + n) (.fixed c), h)
    else
      if !capBound (len + n) bytes || !new.all AV.one then none else
      opt (h.cellsAt id off (len * e)) fun old =>
      let (id', h) := h.new (.row e (old ++ new) .open_)
      some (.slice id' 0 (len + n) (.upto 0), h)
  | .slice id off len (.upto lo) =>
    if n = 0 then (if len ≤ capOf h id lo e then some (s, h) else none) else
    match h.get id with
    | some (.row e' cs k) =>
      if e' ≠ e ∨ off ≠ lo * e ∨ k ≠ .open_ ∨ !capBound (len + n) bytes ∨ !new.all AV.one then none else
      if (lo + len + n) * e ≤ cs.length then
        opt (h.write id (off + len * e) new) fun h => some (.slice id off (len + n) (.upto lo), h)
      else
        opt (h.cellsAt id off (len * e)) fun old =>
        opt (h.put id none) fun h =>
        let (id', h) := h.new (.row e (old ++ new) .open_)
        some (.slice id' 0 (len + n) (.upto 0), h)
    | _ => none
  | _ => none

def lenV : AV → Option Nat
  | .slice _ _ n _ => some n
  | .nilslice => some 0
  | .str s => some s.length
  | _ => none
def byteAV (b : UInt8) : AV := .int .u8 b.toNat
def firstCells (e n : Nat) (h : AH) : AV → Option (List AV)
  | .slice id off _ _ => h.cellsAt id off (n * e)
  | .nilslice => some []
  | .str s => if e = 1 then some ((s.take n).map byteAV) else none
  | _ => none
def toBytes : List AV → Option (List UInt8)
  | [] => some []
  | .int .u8 n :: rest => opt (toBytes rest) fun l => some (UInt8.ofNat n.toNat :: l)
  | _ => none

def idxV (i : AV) (len : Nat) : Option Nat :=
  match i with
  | .int _ n => if 0 ≤ n ∧ n < len then some n.toNat else none
  | _ => none

def sliceSlV (e : Nat) (ph : Bool) (x : AV) (lo hi mx : Option AV) (h : AH) : Option (AV × AH) :=
  match x with
  | .nilslice =>
    opt (optB mx 0 0) fun m => opt (optB hi m 0) fun hh => opt (optB lo hh 0) fun _ => some (.nilslice, h)
  | .slice id off len (.fixed c) =>
    opt (optB mx c c) fun m => opt (optB hi m len) fun hh => opt (optB lo hh 0) fun l =>
      some (.slice id (if m = l then off else off + l * e) (hh - l) (.fixed (m - l)), h)
  | .slice id off len (.upto b) =>
    match mx with
    | some mx =>
      opt (sliceB mx (capOf h id b e)) fun m => opt (optB hi m len) fun hh => opt (optB lo hh 0) fun l =>
        some (.slice id (if m = l then off else off + l * e) (hh - l) (.fixed (m - l)), h)
    | none =>
      opt (optB hi (capOf h id b e) len) fun hh => opt (optB lo hh 0) fun l =>
        if l = 0 then some (.slice id off hh (.upto b), h) else
        if l < capOf h id b e then some (.slice id (off + l * e) (hh - l) (.upto (b + l)), h) else
        -- at the end: is there room behind? nobody knows
        if l = hh ∧ ph = true then some (.slice h.next 0 0 (.upto 0), { h with next := h.next + 1 }) else none
  | _ => none

def two (isMax : Bool) (a b : AV) : Option AV :=
  match a, b with
  | .int k x, .int _ y => some (.int k (if isMax then (if y > x then y else x) else (if y < x then y else x)))
  | _, _ => none
def maxs (isMax : Bool) (g : RT) : List Opd → AV → Option AV
  | [], v => some v
  | y :: ys, v => opt (two isMax v (y.ev g)) fun v => maxs isMax g ys v

/-- one operation that is no call -/
def evOp (o : AOp) (g : RT) (h : AH) : Option (AV × AH) :=
  let pure1 (x : Option AV) : Option (AV × AH) := opt x fun v => some (v, h)
  match o with
  | .mv x => some (x.ev g, h)
  | .same x => match x.ev g with
    | .str s => some (.str s, h)
    | _ => none
  | .sameSl x => match x.ev g with
    | .slice id off len cap => match h.get id with
      | some (.row e cs k) => if k = .ro then none else opt (h.put id (some (.row e cs k))) fun h => some (.slice id off len cap, h)
      | _ => none
    | _ => none
  | .pick c a b => match c.ev g with
    | .bool true => some (a.ev g, h)
    | .bool false => some (b.ev g, h)
    | _ => none
  | .bin op x y => pure1 (binV op (x.ev g) (y.ev g))
  | .eql neg ts agg x y => pure1 (opt (eqVal ts agg (x.ev g) (y.ev g)) fun b => some (.bool (if neg then !b else b)))
  | .eqnil neg k x y => pure1 (opt (isNil k (x.ev g)) fun p => opt (isNil k (y.ev g)) fun q => if p || q then some (.bool (if neg then !(p && q) else (p && q))) else none)
  | .un op x => pure1 (unV op (x.ev g))
  | .toInt k x => match x.ev g with
    | .int _ n => some (.int k (k.wrap n), h)
    | _ => none
  | .bytesOf x => match x.ev g with
    | .str s => if s.length ≤ 2 ^ 40 then (let (id, h) := h.new (.row 1 (s.map byteAV) .open_); some (.slice id 0 s.length (.upto 0), h)) else none
    | _ => none
  | .strOf x => match x.ev g with
    | .nilslice => some (.str [], h)
    | .slice id off len _ => pure1 (opt (h.cellsAt id off len) fun cs => opt (toBytes cs) fun l => some (.str l))
    | _ => none
  | .load1 x => match x.ev g with
    | .ptr id off => pure1 (h.cell id off)
    | _ => none
  | .loadN n x => match x.ev g with
    | .ptr id off => pure1 (opt (h.cellsAt id off n) fun cs => some (.agg cs))
    | _ => none
  | .store n x v => match x.ev g with
    | .ptr id off =>
      let vs := (v.ev g).cells
      if vs.length = n then opt (h.write id off vs) fun h => some (undef, h) else none
    | _ => none
  | .fieldAt off x => match x.ev g with
    | .ptr id o => some (.ptr id (o + off), h)
    | _ => none
  | .indexArr len e x i => match x.ev g with
    | .ptr id off => pure1 (opt (idxV (i.ev g) len) fun j => some (.ptr id (off + j * e)))
    | _ => none
  | .indexSl e x i => match x.ev g with
    | .slice id off len _ => pure1 (opt (idxV (i.ev g) len) fun j => some (.ptr id (off + j * e)))
    | _ => none
  | .indexStr x i => match x.ev g with
    | .str s => pure1 (opt (idxV (i.ev g) s.length) fun j => opt s[j]? fun b => some (byteAV b))
    | _ => none
  | .indexAgg len e agg x i => match x.ev g with
    | .agg cs => pure1 (opt (idxV (i.ev g) len) fun j => if agg then some (.agg ((cs.drop (j * e)).take e)) else cs[j * e]?)
    | _ => none
  | .part off n agg x => match x.ev g with
    | .agg cs => pure1 (if agg then some (.agg ((cs.drop off).take n)) else cs[off]?)
    | _ => none
  | .extract i x => match x.ev g with
    | .tuple vs => pure1 vs[i]?
    | _ => none
  | .nilCheck x => match x.ev g with
    | .ptr id off => some (.ptr id off, h)
    | .func (.func f) a b => some (.func (.func f) a b, h)
    | _ => none
  | .sliceSl e ph x lo hi mx => sliceSlV e ph (x.ev g) (lo.map (·.ev g)) (hi.map (·.ev g)) (mx.map (·.ev g)) h
  | .sliceArr n e x lo hi mx => match x.ev g with
    | .ptr id off =>
      pure1 (opt (optB (mx.map (·.ev g)) n n) fun m => opt (optB (hi.map (·.ev g)) m n) fun hh => opt (optB (lo.map (·.ev g)) hh 0) fun l =>
        some (.slice id (if m = l then off else off + l * e) (hh - l) (.fixed (m - l))))
    | _ => none
  | .sliceStr x lo hi => match x.ev g with
    | .str s => pure1 (opt (optB (hi.map (·.ev g)) s.length s.length) fun hh => opt (optB (lo.map (·.ev g)) hh 0) fun l => some (.str ((s.take hh).drop l)))
    | _ => none
  | .build zero parts => pure1 (opt (fillParts zero (parts.map fun (a, b, x) => (a, b, x.ev g))) fun cs => some (.agg cs))
  | .buildSlice e len zero parts =>
    opt (fillParts (rep len zero) (parts.map fun (a, b, x) => (a, b, x.ev g))) fun cs =>
      if cs.all AV.one then
        let (id, h) := h.new (.row e cs .closed)
        some (.slice id 0 len (.fixed len), h)
      else none
  | .box n x =>
    let vs := (x.ev g).cells
    if vs.length = n ∧ vs.all AV.one then
      let (id, h) := h.new (.row 1 vs .closed)
      some (.ptr id 0, h)
    else none
  | .alloc zero =>
    let (id, h) := h.new (.row 1 zero .closed)
    some (.ptr id 0, h)
  | .makeSlice e bytes zero l c => match l.ev g, c.ev g with
    | .int _ l, .int _ c =>
      if 0 ≤ l ∧ l ≤ c ∧ c.toNat * (bytes + 1) ≤ 2 ^ 40 then
        let (id, h) := h.new (.row e (rep c.toNat zero) .closed)
        some (.slice id 0 l.toNat (.fixed c.toNat), h)
      else none
    | _, _ => none
  | .makeMap => let (id, h) := h.new (.map [] 0); some (.map id, h)
  | .makeFunc fn a b => some (.func fn (a.map (·.ev g)) (b.map (·.ev g)), h)
  | .lookup ts agg zero ok m k =>
    let es : Option (List (AV × AV × Nat)) := match m.ev g with
      | .nilmap => some []
      | .map id => match h.get id with
        | some (.map es _) => some es
        | _ => none
      | _ => none
    pure1 (opt es fun es => if (eqVal ts agg (k.ev g) (k.ev g)).isSome then opt (lookupE ts agg (k.ev g) es 0) fun r => match r with
        | some (_, v) => some (if ok then .tuple [v, .bool true] else v)
        | none => some (if ok then .tuple [zero, .bool false] else zero)
      else none)
  | .mapUpdate ts agg m k v => match m.ev g with
    | .map id => match h.get id with
      | some (.map es clock) => if (eqVal ts agg (k.ev g) (k.ev g)).isSome then opt (lookupE ts agg (k.ev g) es 0) fun r => match r with
          | some (i, _) => opt (h.put id (some (.map (es.modify i fun e => (k.ev g, v.ev g, e.2.2)) clock))) fun h => some (undef, h)
          | none => opt (h.put id (some (.map (es ++ [(k.ev g, v.ev g, clock)]) (clock + 1)))) fun h => some (undef, h)
        else none
      | _ => none
    | _ => none
  | .len k x => match k, x.ev g with
    | .str, .str s => some (.int .i64 s.length, h)
    | .slice, .slice _ _ n _ => some (.int .i64 n, h)
    | .slice, .nilslice => some (.int .i64 0, h)
    | .map, .nilmap => some (.int .i64 0, h)
    | .map, .map id => match h.get id with
      | some (.map es _) => some (.int .i64 es.length, h)
      | _ => none
    | .const n, _ => some (.int .i64 n, h)
    | _, _ => none
  | .cap x => match x.ev g with
    | .slice _ _ _ (.fixed c) => some (.int .i64 c, h)
    | .nilslice => some (.int .i64 0, h)
    | _ => none
  | .append e bytes x y =>
    let s := x.ev g
    let t := y.ev g
    opt (lenV t) fun n => opt (firstCells e n h t) fun new => appendV e bytes s n new h
  | .appendZ e bytes zero x n =>
    match n.ev g with
    | .int _ n => if 0 ≤ n ∧ n ≤ 2 ^ 30 then appendV e bytes (x.ev g) n.toNat (rep n.toNat zero) h else none
    | _ => none
  | .copy e x y =>
    let t := y.ev g
    match x.ev g with
    | .nilslice => opt (lenV t) fun _ => some (.int .i64 0, h)
    | .slice id off dlen _ => opt (lenV t) fun sl =>
      let n := min sl dlen
      opt (firstCells e n h t) fun cs => opt (h.write id off cs) fun h => some (.int .i64 n, h)
    | _ => none
  | .maxmin isMax x ys =>
    pure1 (maxs isMax g ys (x.ev g))
  | .toArr n x => match x.ev g with
    | .slice id off len _ => if n ≤ len then some (.ptr id off, h) else none
    | _ => none
  | .add64 x y z => match x.ev g, y.ev g, z.ev g with
    | .int .u64 a, .int .u64 b, .int .u64 c => if 0 ≤ a ∧ 0 ≤ b ∧ 0 ≤ c ∧ c ≤ 1 then some (.tuple [.int .u64 ((a + b + c) % 18446744073709551616), .int .u64 ((a + b + c) / 18446744073709551616)], h) else none
    | _, _, _ => none
  | .call .. | .pcall .. | .callv .. | .bad _ => none

/-- no name of a row in it -/
def AV.flat : AV → Bool
  | .bool _ | .int .. => true
  | .tuple l => l.all fun | .int .. => true | .bool _ => true | _ => false
  | _ => false

/-- the rounds of the loops over functions that are under way -/
abbrev YH := Nat → Option (List AV → AH → Option (AV × AH))
abbrev CallH := YH → FuncId → List AV → AH → Option (AV × AH)

def evOper (Y : YH) (H : CallH) (o : AOp) (g : RT) (h : AH) : Option (AV × AH) :=
  match o with
  | .call f args => H Y f (args.map (·.ev g)) h
  | .pcall f args => if (args.map (·.ev g)).all AV.flat then opt (H (fun _ => none) f (args.map (·.ev g)) { next := 32, floor := 32, marks := [], tr := .nil }) fun (v, _) => if v.flat then some (v, h) else none else none
  | .callv f args => match f.ev g with
    | .func (.func k) first captured => H Y k (first ++ args.map (·.ev g) ++ captured) h
    | .func (.yield l) [] [] => opt (Y l) fun f => f (args.map (·.ev g)) h
    | _ => none
  | o => evOp o g h

def RT.geti (g : RT) (i : Nat) : AV := g.get (Pth.of i)
def RT.seti (g : RT) (i : Nat) (v : AV) : RT := g.set (Pth.of i) v
def setDst (g : RT) (d : Option Nat) (v : AV) : RT := match d with | some p => g.seti p v | none => g

def wants (g : RT) (gd : Option (Nat × Bool)) : Bool :=
  match gd with
  | none => true
  | some (p, b) => match g.geti p with | .bool c => c == b | _ => false

abbrev St := RT × AH

def evOps (Y : YH) (H : CallH) : List AOper → St → Option St
  | [], s => some s
  | o :: l, (g, h) =>
    if wants g o.guard then opt (evOper Y H o.op g h) fun (v, h) => evOps Y H l (setDst g o.dst v, h)
    else evOps Y H l (setDst g o.dst undef, h)

/-- which old names an operation uses -/
def idOf : AV → List Nat
  | .ptr id _ => [id]
  | .slice id _ _ _ => [id]
  | .map id => [id]
  | _ => []
def usesOf (g : RT) : AOp → List Nat
  | .load1 x | .loadN _ x | .strOf x | .len _ x => idOf (x.ev g)
  | .store _ x _ | .sameSl x => idOf (x.ev g)
  | .lookup _ _ _ _ m _ => idOf (m.ev g)
  | .mapUpdate _ _ m _ _ => idOf (m.ev g)
  | .append _ _ x y | .copy _ x y => idOf (x.ev g) ++ idOf (y.ev g)
  | .appendZ _ _ _ x _ => idOf (x.ev g)
  | .sliceSl _ _ x _ _ _ => idOf (x.ev g)
  | _ => []

def AH.only (h : AH) (ids : List Nat) : AH := { h with tr := ids.foldl (fun t i => t.set i (h.get i)) .nil }
def AH.merge (h h' : AH) (ids : List Nat) : AH :=
  { h with next := h'.next, tr := (ids ++ (List.range (h'.next - h.next)).map (h.next + ·)).foldl (fun t i => t.set i (h'.get i)) h.tr }

/-- kinds of heap use: 0: none; 1: reads; 2: makes; 3: changes (may make); 4: a call; 5: whatever it is, each other that matters has its place before or behind it -/
abbrev Rng := Nat × Nat
def apartR (a b : Rng) : Bool := a.2 ≤ b.1 || b.2 ≤ a.1 || a.1 == a.2 || b.1 == b.2
def apart (x y : List Rng) : Bool := x.all fun a => y.all fun b => apartR a b
def one (i : Nat) : Rng := (i, i + 1)

def evMulti (Y : YH) (H : CallH) : List (Nat × AOper) → St → List (List Rng × List Rng) → Option (St × List (List Rng × List Rng))
  | [], s, acc => some (s, acc.reverse)
  | (k, o) :: l, (g, h), acc =>
    if wants g o.guard then
      if k = 0 then opt (evOper Y H o.op g h) fun (v, _) => evMulti Y H l (setDst g o.dst v, h) (([], []) :: acc)
      else if k = 5 then opt (evOper Y H o.op g h) fun (v, h) => evMulti Y H l (setDst g o.dst v, h) (([], []) :: acc)
      else if k = 4 then
        if h.next < h.floor then none else
        opt (evOper Y H o.op g { h with floor := h.next }) fun (v, h') =>
          evMulti Y H l (setDst g o.dst v, { h' with floor := h.floor }) (([(0, h.next)], [(h.next, h'.next)]) :: acc)
      else
        let ids := usesOf g o.op
        opt (evOper Y H o.op g (h.only ids)) fun (v, h') =>
          let rs := ids.map one
          evMulti Y H l (setDst g o.dst v, h.merge h' ids) ((rs, (if k = 3 then rs else []) ++ [(h.next, h'.next)]) :: acc)
    else evMulti Y H l (setDst g o.dst undef, h) (([], []) :: acc)

def pairsOk (acc : List (List Rng × List Rng)) (pairs : List (Nat × Nat)) : Bool :=
  pairs.all fun (i, j) => match acc[i]?, acc[j]? with
    | some (u, t), some (u', t') => apart u t' && apart u' t && apart t t'
    | _, _ => false

def iter (f : St → Option (AX × St)) : Nat → St → Option (AX × St)
  | 0, _ => none
  | n + 1, s => match f s with
    | some (.normal, s) => iter f n s
    | r => r

def setAll : List Nat → List AV → RT → Option RT
  | [], [], g => some g
  | p :: ps, v :: vs, g => setAll ps vs (g.seti p v)
  | _, _, _ => none

/-- a round of a loop over a function ends -/
def endRound (l : Nat) (x : AX) (h : AH) : Option (AV × AH) :=
  match h.get l with
  | some (.loop _ _) =>
    match x with
    | .normal => opt (h.put l (some (.loop .ready none))) fun h => some (.bool true, h)
    | x => opt (h.put l (some (.loop .done (some x)))) fun h => some (.bool false, h)
  | _ => none

def evCode (H : CallH) (lf : Nat) (rd : Bool) (Y : YH) : AC → St → Option (AX × St)
  | .skip, s => some (.normal, s)
  | .ops l, s => opt (evOps Y H l s) fun s => some (.normal, s)
  | .multi l pairs, s => opt (evMulti Y H l s []) fun (s, acc) => if pairsOk acc pairs then some (.normal, s) else none
  | .seq a b, s => match evCode H lf rd Y a s with
    | some (.normal, s) => evCode H lf rd Y b s
    | r => r
  | .cond c a b, s => match c.ev s.1 with
    | .bool true => evCode H lf rd Y a s
    | .bool false => evCode H lf rd Y b s
    | _ => none
  | .block id c, s => match evCode H lf rd Y c s with
    | some (.exit i, s) => if i = id then some (.normal, s) else some (.exit i, s)
    | r => r
  | .loop c, s => iter (evCode H lf rd Y c) lf s
  | .rfun f ps assign body, (g, h) =>
    if rd then none else
    match f.ev g with
    | .func (.func k) first captured =>
      let (d, h) := h.new (.dfr false)
      let (l, h) := h.new (.loop .ready none)
      let round : List AV → AH → Option (AV × AH) := fun args h =>
        match h.get l with
        | some (.loop .ready _) =>
          opt (setAll ps args g) fun g =>
          match evCode H lf true Y assign (g, { h with marks := [] }) with
          | some (.normal, (g, h')) =>
            match h'.get l with
            | some (.loop .ready p) =>
              opt (h'.put l (some (.loop .busy p))) fun h' =>
              opt (evCode H lf true Y body (g, h')) fun (x, (_, h')) =>
              if h'.marks.isEmpty then opt (endRound l x h') fun (v, h') => some (v, { h' with marks := h.marks }) else none
            | _ => none
          | _ => none
        | _ => none
      opt (H (fun i => if i = l then some round else Y i) k (first ++ [.func (.yield l) [] []] ++ captured) h) fun (_, h) =>
      match h.get l with
      | some (.loop st p) => if st = .busy then none else
        opt (h.put l (some (.loop .exhausted p))) fun h =>
        let h := { h with marks := d :: h.marks }
        match p with
        | none => some (.normal, (g, h))
        | some x => some (x, (g, h))
      | _ => none
    | _ => none
  | .exit id, s => some (.exit id, s)
  | .ret, s => some (.ret, s)
  | .fail _, _ => none

def evRV (g : RT) (h : AH) : RV → Option AV
  | .reg p => some (g.geti p)
  | .cell p n agg => match g.geti p with
    | .ptr id off => if agg then opt (h.cellsAt id off n) fun cs => some (.agg cs) else h.cell id off
    | _ => none
def evRVs (g : RT) (h : AH) : List RV → Option (List AV)
  | [] => some []
  | r :: l => opt (evRV g h r) fun v => opt (evRVs g h l) fun vs => some (v :: vs)
def retV : List AV → AV
  | [v] => v
  | l => .tuple l

def argRegs : List AV → Nat → RT → RT
  | [], _, g => g
  | v :: l, i, g => argRegs l (i + 1) (g.seti i v)

/-- the blocks of deferred calls of the loops over functions of an activation, none of which has any -/
def takeMarks : List Nat → AH → Option AH
  | [], h => some h
  | d :: l, h => match h.get d with
    | some (.dfr false) => opt (h.put d (some (.dfr true))) fun h => takeMarks l h
    | _ => none

def evFn (C : FuncId → Option AF) (lf : Nat) : Nat → CallH
  | 0, _, _, _, _ => none
  | n + 1, Y, f, args, h =>
    opt (C f) fun fn =>
    if args.length > fn.nt then none else
    match evCode (evFn C lf n) lf false Y fn.body (argRegs args 0 .nil, { h with marks := [] }) with
    | some (.normal, (g, h')) | some (.ret, (g, h')) =>
      opt (takeMarks h'.marks h') fun h' =>
      opt (evRVs g h' fn.results) fun vs => some (retV vs, { h' with marks := h.marks })
    | _ => none

end Go.Am

/- From the model's code to the abstract machine's. -/
namespace Go.Am

mutual
def compVal : Value → Option AV
  | .bool b => some (.bool b)
  | .int k n => some (.int k n)
  | .string s => some (.str s.data.toList)
  | .pointer none => some .nilptr
  | .slice none 0 0 => some .nilslice
  | .map none => some .nilmap
  | .nilFunc => some .nilfunc
  | .agg ⟨l⟩ => opt (compVals l) fun l => some (.agg l)
  | .tuple ⟨l⟩ => opt (compVals l) fun l => some (.tuple l)
  | _ => none
def compVals : List Value → Option (List AV)
  | [] => some []
  | v :: l => opt (compVal v) fun v => opt (compVals l) fun l => some (v :: l)
end

def compOpd : Operand → Option Opd
  | .tmp t => some (.r t)
  | .const v => opt (compVal v) fun v => some (.c v)
  | .global g => if g < 32 then some (.c (.ptr g 0)) else none
  | .func f => some (.c (.func (.func f) [] []))
def compOpds : List Operand → Option (List Opd)
  | [] => some []
  | x :: l => opt (compOpd x) fun x => opt (compOpds l) fun l => some (x :: l)
def compOpt : Option Operand → Option (Option Opd)
  | none => some none
  | some x => opt (compOpd x) fun x => some (some x)

def sizeOfT (P : Program) (t : TypeId) : Option Nat := opt (P.info? t) fun i => some i.size
def bytesOfT (P : Program) (t : TypeId) : Option Nat := opt (P.info? t) fun i => some i.bytes
def zeroOfT (P : Program) (t : TypeId) : Option AV := opt (P.info? t) fun i => opt i.zero compVal
def aggT (P : Program) (t : TypeId) : Option Bool := opt (P.underlying t) fun
  | .struct _ | .array _ _ => some true
  | _ => some false

def scalarTy (P : Program) (t : TypeId) : Option PTy := opt (P.underlying t) fun
  | .bool => some .bool
  | .int k => some (.int k)
  | .string => some .str
  | _ => none
def fieldTys (P : Program) : Nat → List Field → Option (List PTy)
  | _, [] => some []
  | i, f :: fs => if f.name = "_" ∨ f.offset ≠ i then none else opt (scalarTy P f.type) fun x => opt (fieldTys P (i + 1) fs) fun l => some (x :: l)
/-- what a value is made of whose type has an '==' that this text knows: its cells, one behind the other; is it a struct or an array? -/
def eqTysOf (P : Program) (t : TypeId) : Option (List PTy × Bool) :=
  opt (P.underlying t) fun
    | .array n e => opt (scalarTy P e) fun x => if P.cellsOf e = 1 ∧ P.eqGuardType P.depth t = false then some (List.replicate n x, true) else none
    | .struct fs => opt (fieldTys P 0 fs.toList) fun l => if P.stoodInHeld t = false ∧ P.eqGuardType P.depth t = false then some (l, true) else none
    | _ => opt (scalarTy P t) fun x => some ([x], false)

def structPlace (P : Program) (fs : Array Field) (i : Nat) : Option (Nat × Nat) := opt fs[i]? fun f => opt (sizeOfT P f.type) fun s => some (f.offset, s)
def compParts (place : Nat → Option (Nat × Nat)) : List (Nat × Operand) → Option (List (Nat × Nat × Opd))
  | [] => some []
  | (i, x) :: l => opt (place i) fun (o, s) => opt (compOpd x) fun x => opt (compParts place l) fun l => some ((o, s, x) :: l)

def isAdd64 (P : Program) (f : FuncId) : Bool := match P.funcs[f]? with
  | some fn => fn.body.isNone && fn.name == "math/bits.Add64" && (Extern.findNext fn).isNone
  | none => false
def callOf (P : Program) (f : FuncId) : List Opd → AOp
  | [x, y, z] => if isAdd64 P f then .add64 x y z else .call f [x, y, z]
  | l => .call f l
def compCall (P : Program) (c : Call) : Option AOp :=
  match c.callee with
  | .value (.func f) => opt (compOpds c.args.toList) fun l => some (callOf P f l)
  | .value x => opt (compOpd x) fun x => opt (compOpds c.args.toList) fun l => some (.callv x l)
  | .invoke .. => none
  | .builtin b => opt (compOpds c.args.toList) fun l =>
    match b, c.argTypes.toList, l with
    | .len, [t], [x] => opt (P.underlying t) fun
      | .string => some (.len .str x)
      | .slice _ => some (.len .slice x)
      | .map _ _ => some (.len .map x)
      | .array n _ => some (.len (.const n) x)
      | .pointer a => opt (P.underlying a) fun
        | .array n _ => some (.len (.const n) x)
        | _ => none
      | _ => none
    | .cap, [t], [x] => opt (P.underlying t) fun
      | .slice _ => some (.cap x)
      | _ => none
    | .append, t :: u :: _, [x, y] => opt (P.underlying t) fun
      | .slice e => opt (sizeOfT P e) fun s => opt (bytesOfT P e) fun b => opt (zeroOfT P e) fun z => opt (P.underlying u) fun
        | .int _ => if b = 0 ∨ s = 0 ∨ z.cells.length ≠ s ∨ 262144 < b then none else some (.appendZ s b z.cells x y)
        | .slice _ | .string => if b = 0 ∨ s = 0 ∨ z.cells.length ≠ s then none else some (.append s b x y)
        | _ => none
      | _ => none
    | .copy, t :: _, [x, y] => opt (P.underlying t) fun
      | .slice e => opt (sizeOfT P e) fun s => some (.copy s x y)
      | _ => none
    | .max, _, x :: l => some (.maxmin true x l)
    | .min, _, x :: l => some (.maxmin false x l)
    | _, _, _ => none

def compOp (P : Program) (o : Oper) : Option AOp :=
  match o.op with
  | .move x | .assign x => opt (compOpd x) fun x => some (.mv x)
  | .pick c a b => opt (compOpd c) fun c => opt (compOpd a) fun a => opt (compOpd b) fun b => some (.pick c a b)
  | .alloc e => opt (zeroOfT P e) fun z => some (.alloc z.cells)
  | .box e x => opt (sizeOfT P e) fun n => opt (compOpd x) fun x => some (.box n x)
  | .build t parts => opt (zeroOfT P t) fun z => opt (P.underlying t) fun
    | .struct fs => if !(fs.all fun f => (sizeOfT P f.type).isSome) then none else opt (compParts (structPlace P fs) parts.toList) fun ps => some (.build z.cells ps)
    | .array _ e => opt (sizeOfT P e) fun s => opt (compParts (fun i => some (i * s, s)) parts.toList) fun ps => some (.build z.cells ps)
    | _ => none
  | .buildSlice t len parts => opt (P.underlying t) fun
    | .slice e => opt (sizeOfT P e) fun s => opt (zeroOfT P e) fun z => if len * s > 2 ^ 24 ∨ z.cells.length ≠ s then none else
      opt (compParts (fun i => some (i * s, s)) parts.toList) fun ps => some (.buildSlice s len z.cells ps)
    | _ => none
  | .load t a => opt (aggT P t) fun b => opt (sizeOfT P t) fun n => opt (compOpd a) fun a => some (if b then .loadN n a else .load1 a)
  | .store t a x => opt (sizeOfT P t) fun n => opt (compOpd a) fun a => opt (compOpd x) fun x => some (.store n a x)
  | .nilCheck x => opt (compOpd x) fun x => some (.nilCheck x)
  | .binOp op t x y _ => opt (compOpd x) fun a => opt (compOpd y) fun b => opt (P.underlying t) fun d =>
    match op, d with
    | _, .int _ | _, .string => some (.bin op a b)
    | .eql, .bool | .eql, .struct _ | .eql, .array _ _ => opt (eqTysOf P t) fun (ts, g) => some (.eql false ts g a b)
    | .neq, .bool | .neq, .struct _ | .neq, .array _ _ => opt (eqTysOf P t) fun (ts, g) => some (.eql true ts g a b)
    | .eql, .pointer _ => some (.eqnil false 0 a b)
    | .neq, .pointer _ => some (.eqnil true 0 a b)
    | .eql, .slice _ => some (.eqnil false 1 a b)
    | .neq, .slice _ => some (.eqnil true 1 a b)
    | .eql, .map _ _ => some (.eqnil false 2 a b)
    | .neq, .map _ _ => some (.eqnil true 2 a b)
    | .eql, .func _ _ _ => some (.eqnil false 3 a b)
    | .neq, .func _ _ _ => some (.eqnil true 3 a b)
    | _, _ => none
  | .unOp op _ x => opt (compOpd x) fun x => some (.un op x)
  | .convert s d x => opt (P.underlying s) fun su => opt (P.underlying d) fun du => opt (compOpd x) fun a =>
    match su, du with
    | .int _, .int k => some (.toInt k a)
    | .string, .string => some (.same a)
    | .string, .slice e => opt (P.underlying e) fun
      | .int .u8 => some (.bytesOf a)
      | _ => none
    | .slice _, .slice e => opt (P.underlying e) fun
      | .int .u8 => if s = d then some (.sameSl a) else none
      | _ => none
    | .slice e, .string => opt (P.underlying e) fun
      | .int .u8 => some (.strOf a)
      | _ => none
    | _, _ => none
  | .sliceToArrayPointer d x => opt (P.underlying d) fun
    | .array n _ => opt (compOpd x) fun x => some (.toArr n x)
    | _ => none
  | .makeFunc fn a b => match fn with
    | .yield _ => none
    | fn => opt (compOpds a.toList) fun a => opt (compOpds b.toList) fun b => some (.makeFunc fn a b)
  | .makeMap t r => match r with
    | none => some .makeMap
    | some (.const (.int _ _)) => opt (P.underlying t) fun
      | .map _ _ => some .makeMap
      | _ => none
    | _ => none
  | .makeSlice t l c => opt (P.underlying t) fun
    | .slice e => opt (sizeOfT P e) fun s => opt (bytesOfT P e) fun b => opt (zeroOfT P e) fun z => opt (compOpd l) fun l => opt (compOpd c) fun c => if z.cells.length ≠ s then none else some (.makeSlice s b z.cells l c)
    | _ => none
  | .slice t x lo hi mx => if mx.isSome && hi.isNone then none else opt (compOpd x) fun x => opt (compOpt lo) fun lo => opt (compOpt hi) fun hi => opt (compOpt mx) fun mx => opt (P.underlying t) fun
    | .array n e => opt (sizeOfT P e) fun s => some (.sliceArr n s x lo hi mx)
    | .pointer a => opt (P.underlying a) fun
      | .array n e => opt (sizeOfT P e) fun s => some (.sliceArr n s x lo hi mx)
      | _ => none
    | .slice e => opt (sizeOfT P e) fun s => some (.sliceSl s lo.isSome x lo hi mx)
    | .string => if mx.isSome then none else some (.sliceStr x lo hi)
    | _ => none
  | .fieldAddr t x f => opt (P.underlying t) fun
    | .struct fs => opt fs[f]? fun f => opt (sizeOfT P f.type) fun s => if s = 0 then none else opt (compOpd x) fun x => some (.fieldAt f.offset x)
    | _ => none
  | .field t x f => opt (P.underlying t) fun
    | .struct fs => opt fs[f]? fun f => opt (sizeOfT P f.type) fun s => opt (aggT P f.type) fun b => opt (compOpd x) fun x => some (.part f.offset s b x)
    | _ => none
  | .indexAddr t x i => opt (compOpd x) fun x => opt (compOpd i) fun i => opt (P.underlying t) fun
    | .array n e => opt (sizeOfT P e) fun s => some (.indexArr n s x i)
    | .slice e => opt (sizeOfT P e) fun s => some (.indexSl s x i)
    | _ => none
  | .index t x i => opt (compOpd x) fun x => opt (compOpd i) fun i => opt (P.underlying t) fun
    | .array n e => opt (sizeOfT P e) fun s => opt (aggT P e) fun b => some (.indexAgg n s b x i)
    | .string => some (.indexStr x i)
    | _ => none
  | .lookup t m k ok => opt (compOpd m) fun m => opt (compOpd k) fun k => opt (P.underlying t) fun
    | .map kt e => opt (eqTysOf P kt) fun (ts, b) => opt (zeroOfT P e) fun z => some (.lookup ts b z ok m k)
    | _ => none
  | .mapUpdate t m k v | .insert t m k v => opt (compOpd m) fun m => opt (compOpd k) fun k => opt (compOpd v) fun v => opt (P.underlying t) fun
    | .map kt _ => opt (eqTysOf P kt) fun (ts, b) => some (.mapUpdate ts b m k v)
    | _ => none
  | .extract x i => opt (compOpd x) fun x => some (.extract i x)
  | .call c => compCall P c
  | _ => none

def noCall : AOp → Bool
  | .call .. | .callv .. | .pcall .. => false
  | _ => true
def onlyNoCall (o : Option AOp) : Option AOp := opt o fun ao => if noCall ao then some ao else none
/-- an operation: no calls but where a function is called -/
def compOp2 (P : Program) (o : Oper) : Option AOp :=
  match o.op with
  | .call c => match c.callee with
    | .value _ => compCall P c
    | _ => onlyNoCall (compOp P o)
  | _ => onlyNoCall (compOp P o)

/-- kinds of heap use: 0: none; 1: reads; 2: makes; 3: changes; 4: a call -/
def heapUse : AOp → Nat
  | .load1 _ | .loadN .. | .strOf _ | .lookup .. | .len .map _ | .sliceSl _ false .. => 1
  | .sliceSl _ true .. | .bytesOf _ | .buildSlice .. | .box .. | .alloc _ | .makeSlice .. | .makeMap => 2
  | .store .. | .append .. | .appendZ .. | .copy .. | .mapUpdate .. | .sameSl _ => 3
  | .call .. | .callv .. => 4
  | _ => 0

def scalarT (P : Program) (t : TypeId) : Bool := match P.underlying t with | some (.int _) | some .bool => true | _ => false
def scalarF (P : Program) (f : FuncId) : Bool := match P.funcs[f]? with
  | some fn => fn.params.all (scalarT P) && fn.resultTypes.all (scalarT P)
  | none => false

def clashes (ks : List Nat) (b : Array Nat) : List (Nat × Nat) :=
  let l := ks.zipIdx.filter (·.1 ≠ 0)
  l.flatMap fun (k, i) => l.filterMap fun (k', j) => if i < j ∧ !((b.getD j 0).testBit i) ∧ (2 ≤ k ∨ 2 ≤ k') then some (i, j) else none

def compDst (n : Nat) : Option Tmp → Option Nat
  | some d => if d < n then some d else none
  | none => none
def compOper (P : Program) (n : Nat) (ops : Array Oper) (o : Oper) : AOper :=
  let gd : Option (Option (Nat × Bool)) := match o.guard with
    | none => some none
    | some (j, b) => opt ((ops[j]?).bind (·.dst)) fun d => some (some (d, b))
  match gd with
  | none => { dst := none, op := .bad 1, guard := none }
  | some gd => { dst := compDst n o.dst, op := (compOp2 P o).getD (.bad 0), guard := gd }

def Opd.regs : Opd → List Nat
  | .r i => [i]
  | .c _ => []
def optRegs : Option Opd → List Nat
  | some x => x.regs
  | none => []
def listRegs (l : List Opd) : List Nat := l.flatMap Opd.regs
def partRegs (l : List (Nat × Nat × Opd)) : List Nat := l.flatMap fun p => p.2.2.regs
def AOp.regs : AOp → List Nat
  | .mv x | .un _ x | .toInt _ x | .same x | .sameSl x | .bytesOf x | .strOf x | .load1 x | .loadN _ x | .fieldAt _ x | .part _ _ _ x | .extract _ x | .nilCheck x | .box _ x | .len _ x | .cap x | .toArr _ x => x.regs
  | .bin _ x y | .eql _ _ _ x y | .eqnil _ _ x y | .store _ x y | .indexArr _ _ x y | .indexSl _ x y | .indexStr x y | .indexAgg _ _ _ x y | .makeSlice _ _ _ x y | .lookup _ _ _ _ x y | .append _ _ x y | .appendZ _ _ _ x y | .copy _ x y => x.regs ++ y.regs
  | .pick x y z | .mapUpdate _ _ x y z | .add64 x y z => x.regs ++ y.regs ++ z.regs
  | .sliceSl _ _ x a b c | .sliceArr _ _ x a b c => x.regs ++ optRegs a ++ optRegs b ++ optRegs c
  | .sliceStr x a b => x.regs ++ optRegs a ++ optRegs b
  | .build _ l | .buildSlice _ _ _ l => partRegs l
  | .alloc _ | .makeMap | .bad _ => []
  | .makeFunc _ a b => listRegs a ++ listRegs b
  | .maxmin _ x l => x.regs ++ listRegs l
  | .call _ l | .pcall _ l => listRegs l
  | .callv x l => x.regs ++ listRegs l

/-- the registers that an operation of a region looks at -/
def AOper.rd (o : AOper) : List Nat := match o.guard with
  | some (d, _) => d :: o.op.regs
  | none => o.op.regs
def freeOf (o p : AOper) : Bool := match o.dst with
  | none => true
  | some d => !p.rd.contains d && !(p.dst == some d)
/-- operations without an order write no registers of one another -/
def regsOk (l : List AOper) (b : Array Nat) : Bool :=
  l.zipIdx.all fun (p, j) => l.zipIdx.all fun (o, i) => !(decide (i < j)) || (b.getD j 0).testBit i || (freeOf o p && freeOf p o)

/-- whatever comes before an operation stands before it -/
def edgesOk (ops : Array Oper) : Bool :=
  ops.toList.zipIdx.all fun (o, i) => o.after.toList.all fun e => !(Region.binds .any e) || decide (e.on < i)

def compRegion (P : Program) (n : Nat) (ops : Array Oper) (draw : Bool) : AC :=
  let l := ops.toList.map (compOper P n ops)
  if !draw then .ops l else
  let b := Region.before ops
  if !regsOk l b || !edgesOk ops then .fail 1 else
  let ks := l.map (heapUse ·.op)
  let cl := clashes ks b
  if cl.isEmpty then .ops l else
  -- calls of numbers alone, met by others: in no heap
  let l := l.zipIdx.map fun (o, i) => match o.op with
    | .call f args => if cl.any (fun (a, c) => a == i || c == i) && scalarF P f then { o with op := .pcall f args } else o
    | _ => o
  let ks := l.map (heapUse ·.op)
  let cl := clashes ks b
  if cl.isEmpty then .ops l else .multi ((ks.zipIdx.map fun (k, i) => if k ≠ 0 && !(cl.any fun (a, c) => a == i || c == i) then 5 else k).zip l) cl

def comp (P : Program) (n : Nat) : Code → AC
  | .skip => .skip
  | .region _ ops draw => compRegion P n ops draw
  | .seq a b => .seq (comp P n a) (comp P n b)
  | .cond c a b => match compOpd c with
    | some c => .cond c (comp P n a) (comp P n b)
    | none => .fail 2
  | .block id c => .block id (comp P n c)
  | .loop c => .loop (comp P n c)
  | .rangeFunc f ps a b => match compOpd f with
    | some f => if ps.toList.all (· < n) then .rfun f ps.toList (comp P n a) (comp P n b) else .fail 6
    | none => .fail 3
  | .exit id => .exit id
  | .scope c => comp P n c
  | .label _ => .skip
  | .goto _ => .fail 4
  | .ret => .ret
  | .refuse _ => .fail 5

def compRV (P : Program) : ResultVar → Option RV
  | .tmp t => some (.reg t)
  | .cell a t => opt (aggT P t) fun b => opt (sizeOfT P t) fun n => some (.cell a n b)
def compRVs (P : Program) : List ResultVar → Option (List RV)
  | [] => some []
  | r :: l => opt (compRV P r) fun r => opt (compRVs P l) fun l => some (r :: l)

def compFn (P : Program) (f : FuncId) : Option AF :=
  opt P.funcs[f]? fun fn => opt fn.body fun c => opt (compRVs P fn.results.toList) fun rs => if fn.name = "runtime.NumGoroutine" then none else some { nt := fn.ntmps, results := rs, body := comp P fn.ntmps c }

end Go.Am

/- What the abstract machine's values, registers and heap stand for in the model. -/
namespace Go.Am

/-- Where a name lies: a row's first cell; how many elements an open row has in all; a loop's record. -/
structure Row where
  block : Nat
  off : Nat
  cap : Nat
  loop : Loop

abbrev Env := Nat → Option Row

def Env.le (ρ ρ' : Env) : Prop := ∀ id r, ρ id = some r → ρ' id = some r
theorem Env.le_refl (ρ : Env) : ρ.le ρ := fun _ _ h => h
theorem Env.le_trans {a b c : Env} (h : a.le b) (k : b.le c) : a.le c := fun i r e => k i r (h i r e)

def Cap.den (r : Row) : Cap → Nat
  | .fixed c => c
  | .upto lo => r.cap - lo

def fnDen (ρ : Env) : Fn → Option Fn
  | .yield l => (ρ l).map fun r => .yield r.block
  | f => some f

mutual
def AV.den (ρ : Env) : AV → Option Value
  | .bool b => some (.bool b)
  | .int k n => some (.int k n)
  | .str s => some (.string ⟨s.toArray⟩)
  | .ptr id off => (ρ id).map fun r => .pointer (some ⟨r.block, r.off + off, none⟩)
  | .nilptr => some (.pointer none)
  | .slice id off len c => (ρ id).map fun r => .slice (some ⟨r.block, r.off + off, none⟩) len (c.den r)
  | .nilslice => some (.slice none 0 0)
  | .map id => (ρ id).map fun r => .map (some r.block)
  | .nilmap => some (.map none)
  | .func fn a b => match fnDen ρ fn, denL ρ a, denL ρ b with
    | some fn, some a, some b => some (.func fn a.toArray b.toArray)
    | _, _, _ => none
  | .nilfunc => some .nilFunc
  | .agg l => match denL ρ l with
    | some l => some (.agg l.toArray)
    | none => none
  | .tuple l => match denL ρ l with
    | some l => some (.tuple l.toArray)
    | none => none
def denL (ρ : Env) : List AV → Option (List Value)
  | [] => some []
  | v :: l => match v.den ρ, denL ρ l with
    | some x, some xs => some (x :: xs)
    | _, _ => none
end

theorem opt_some {α β : Type} {x : Option α} {f : α → Option β} {y : β} : opt x f = some y ↔ ∃ a, x = some a ∧ f a = some y := by
  cases x <;> simp [opt]

theorem fnDen_mono {ρ ρ' : Env} (h : ρ.le ρ') {f g : Fn} (hf : fnDen ρ f = some g) : fnDen ρ' f = some g := by
  cases f <;> simp only [fnDen] at hf ⊢ <;> try exact hf
  rename_i l
  cases hl : ρ l with
  | none => simp [hl] at hf
  | some r => rw [h _ _ hl]; simpa [hl] using hf

theorem map_mono {ρ ρ' : Env} (h : ρ.le ρ') {id : Nat} {f : Row → Value} {x : Value} (hx : (ρ id).map f = some x) : (ρ' id).map f = some x := by
  cases hl : ρ id with
  | none => simp [hl] at hx
  | some r => rw [h _ _ hl]; simpa [hl] using hx

mutual
theorem den_mono {ρ ρ' : Env} (h : ρ.le ρ') : ∀ (v : AV) (x : Value), v.den ρ = some x → v.den ρ' = some x
  | .bool _, _, e | .int _ _, _, e | .str _, _, e | .nilptr, _, e | .nilslice, _, e | .nilmap, _, e | .nilfunc, _, e => by simpa [AV.den] using e
  | .ptr _ _, _, e | .slice _ _ _ _, _, e | .map _, _, e => by simp only [AV.den] at e ⊢; exact map_mono h e
  | .func fn a b, x, e => by
    simp only [AV.den] at e ⊢
    split at e
    · rename_i h1 h2 h3
      rw [fnDen_mono h h1, denL_mono h a _ h2, denL_mono h b _ h3]
      exact e
    · cases e
  | .agg l, x, e => by
    simp only [AV.den] at e ⊢
    split at e
    · rename_i h1
      rw [denL_mono h l _ h1]
      exact e
    · cases e
  | .tuple l, x, e => by
    simp only [AV.den] at e ⊢
    split at e
    · rename_i h1
      rw [denL_mono h l _ h1]
      exact e
    · cases e
theorem denL_mono {ρ ρ' : Env} (h : ρ.le ρ') : ∀ (l : List AV) (xs : List Value), denL ρ l = some xs → denL ρ' l = some xs
  | [], _, e => e
  | v :: l, xs, e => by
    simp only [denL] at e ⊢
    split at e
    · rename_i h1 h2
      rw [den_mono h v _ h1, denL_mono h l _ h2]
      exact e
    · cases e
end

theorem denL_nil {ρ : Env} {xs : List Value} : denL ρ [] = some xs ↔ xs = [] := by simp [denL, eq_comm]
theorem denL_cons {ρ : Env} {v : AV} {l : List AV} {xs : List Value} :
    denL ρ (v :: l) = some xs ↔ ∃ y ys, v.den ρ = some y ∧ denL ρ l = some ys ∧ xs = y :: ys := by
  simp only [denL]
  constructor
  · intro h
    split at h
    · rename_i h1 h2
      exact ⟨_, _, h1, h2, (Option.some.inj h).symm⟩
    · cases h
  · rintro ⟨y, ys, h1, h2, rfl⟩
    simp [h1, h2]
theorem denL_append {ρ : Env} {a b : List AV} {xs : List Value} :
    denL ρ (a ++ b) = some xs ↔ ∃ ys zs, denL ρ a = some ys ∧ denL ρ b = some zs ∧ xs = ys ++ zs := by
  induction a generalizing xs with
  | nil => simp [denL, eq_comm]
  | cons v a ih =>
    simp only [List.cons_append, denL_cons, ih]
    constructor
    · rintro ⟨y, ys, h1, ⟨ys', zs, h2, h3, rfl⟩, rfl⟩
      exact ⟨y :: ys', zs, ⟨y, ys', h1, h2, rfl⟩, h3, rfl⟩
    · rintro ⟨_, zs, ⟨y, ys', h1, h2, rfl⟩, h3, rfl⟩
      exact ⟨y, ys' ++ zs, h1, ⟨ys', zs, h2, h3, rfl⟩, rfl⟩
theorem denL_length {ρ : Env} : ∀ {l : List AV} {xs : List Value}, denL ρ l = some xs → xs.length = l.length
  | [], _, h => by rw [denL_nil.1 h]; rfl
  | v :: l, xs, h => by
    obtain ⟨y, ys, _, h2, rfl⟩ := denL_cons.1 h
    simp [denL_length h2]
theorem denL_get {ρ : Env} : ∀ {l : List AV} {xs : List Value} {i : Nat} {v : AV}, denL ρ l = some xs → l[i]? = some v → ∃ x, v.den ρ = some x ∧ xs[i]? = some x
  | [], _, _, _, _, h => by simp at h
  | v :: l, xs, i, u, h, hi => by
    obtain ⟨y, ys, h1, h2, rfl⟩ := denL_cons.1 h
    cases i with
    | zero => simp at hi; subst hi; exact ⟨y, h1, rfl⟩
    | succ i => simp at hi ⊢; exact denL_get h2 hi
theorem denL_take {ρ : Env} {l : List AV} {xs : List Value} (n : Nat) (h : denL ρ l = some xs) : denL ρ (l.take n) = some (xs.take n) := by
  have e : l.take n ++ l.drop n = l := List.take_append_drop n l
  rw [← e] at h
  obtain ⟨ys, zs, h1, h2, rfl⟩ := denL_append.1 h
  have hl := denL_length h1
  rw [h1]
  congr 1
  rw [List.length_take] at hl
  by_cases hn : n ≤ l.length
  · rw [List.take_append_of_le_length (by omega), List.take_of_length_le (by omega)]
  · have hz := denL_length h2
    have : zs = [] := List.eq_nil_of_length_eq_zero (by rw [hz, List.length_drop]; omega)
    subst this
    rw [List.append_nil, List.take_of_length_le (by omega)]
theorem denL_drop {ρ : Env} {l : List AV} {xs : List Value} (n : Nat) (h : denL ρ l = some xs) : denL ρ (l.drop n) = some (xs.drop n) := by
  have e : l.take n ++ l.drop n = l := List.take_append_drop n l
  rw [← e] at h
  obtain ⟨ys, zs, h1, h2, rfl⟩ := denL_append.1 h
  have hl := denL_length h1
  rw [h2]
  congr 1
  rw [List.length_take] at hl
  by_cases hn : n ≤ l.length
  · rw [List.drop_append_of_le_length (by omega), List.drop_of_length_le (by omega), List.nil_append]
  · have hz := denL_length h2
    have : zs = [] := List.eq_nil_of_length_eq_zero (by rw [hz, List.length_drop]; omega)
    subst this
    rw [List.append_nil, List.drop_of_length_le (by omega)]

theorem den_agg {ρ : Env} {l : List AV} {x : Value} : (AV.agg l).den ρ = some x ↔ ∃ xs, denL ρ l = some xs ∧ x = .agg xs.toArray := by
  simp only [AV.den]
  cases denL ρ l <;> simp [eq_comm]
theorem den_tuple {ρ : Env} {l : List AV} {x : Value} : (AV.tuple l).den ρ = some x ↔ ∃ xs, denL ρ l = some xs ∧ x = .tuple xs.toArray := by
  simp only [AV.den]
  cases denL ρ l <;> simp [eq_comm]
theorem den_ptr {ρ : Env} {id off : Nat} {x : Value} : (AV.ptr id off).den ρ = some x ↔ ∃ r, ρ id = some r ∧ x = .pointer (some ⟨r.block, r.off + off, none⟩) := by
  simp only [AV.den]
  cases ρ id <;> simp [eq_comm]
theorem den_slice {ρ : Env} {id off len : Nat} {c : Cap} {x : Value} :
    (AV.slice id off len c).den ρ = some x ↔ ∃ r, ρ id = some r ∧ x = .slice (some ⟨r.block, r.off + off, none⟩) len (c.den r) := by
  simp only [AV.den]
  cases ρ id <;> simp [eq_comm]
theorem den_map {ρ : Env} {id : Nat} {x : Value} : (AV.map id).den ρ = some x ↔ ∃ r, ρ id = some r ∧ x = .map (some r.block) := by
  simp only [AV.den]
  cases ρ id <;> simp [eq_comm]
theorem den_func {ρ : Env} {fn : Fn} {a b : List AV} {x : Value} :
    (AV.func fn a b).den ρ = some x ↔ ∃ g xs ys, fnDen ρ fn = some g ∧ denL ρ a = some xs ∧ denL ρ b = some ys ∧ x = .func g xs.toArray ys.toArray := by
  simp only [AV.den]
  cases fnDen ρ fn <;> cases denL ρ a <;> cases denL ρ b <;> simp [eq_comm]
theorem den_undef {ρ : Env} : undef.den ρ = some Go.undef := rfl

/-- a value's cells -/
theorem den_cells {ρ : Env} {v : AV} {x : Value} (h : v.den ρ = some x) : denL ρ v.cells = some x.cells.toList := by
  cases v <;> simp only [AV.cells] <;> first
    | (obtain ⟨xs, h1, rfl⟩ := den_agg.1 h; simpa [Value.cells] using h1)
    | skip
  all_goals (rw [denL_cons]; refine ⟨x, [], h, rfl, ?_⟩)
  case func => obtain ⟨_, _, _, _, _, _, rfl⟩ := den_func.1 h; rfl
  case tuple => obtain ⟨_, _, rfl⟩ := den_tuple.1 h; rfl
  case ptr => obtain ⟨_, _, rfl⟩ := den_ptr.1 h; rfl
  case slice => obtain ⟨_, _, rfl⟩ := den_slice.1 h; rfl
  case map => obtain ⟨_, _, rfl⟩ := den_map.1 h; rfl
  all_goals (simp only [AV.den, Option.some.injEq] at h; subst h; rfl)
theorem den_one {ρ : Env} {v : AV} {x : Value} (h : v.den ρ = some x) (ho : v.one = true) : x.oneCell' = true := by
  cases v <;> simp only [AV.one] at ho <;> first | (cases ho; done) | skip
  case func => obtain ⟨_, _, _, _, _, _, rfl⟩ := den_func.1 h; rfl
  case ptr => obtain ⟨_, _, rfl⟩ := den_ptr.1 h; rfl
  case slice => obtain ⟨_, _, rfl⟩ := den_slice.1 h; rfl
  case map => obtain ⟨_, _, rfl⟩ := den_map.1 h; rfl
  all_goals (simp only [AV.den, Option.some.injEq] at h; subst h; rfl)
theorem denL_one {ρ : Env} : ∀ {l : List AV} {xs : List Value}, denL ρ l = some xs → l.all AV.one = true → ∀ x ∈ xs, x.oneCell' = true
  | [], _, h, _, x, hx => by rw [denL_nil.1 h] at hx; cases hx
  | v :: l, xs, h, ho, x, hx => by
    obtain ⟨y, ys, h1, h2, rfl⟩ := denL_cons.1 h
    simp only [List.all_cons, Bool.and_eq_true] at ho
    rcases List.mem_cons.1 hx with rfl | hx
    · exact den_one h1 ho.1
    · exact denL_one h2 ho.2 x hx

/-! ### registers -/
def VRel (ρ : Env) (v : AV) (x : Value) : Prop := v.den ρ = some x

theorem Pth.ofF_fuel : ∀ (f n : Nat), n ≤ f → Pth.ofF f n = Pth.ofF n n := by
  intro f
  induction f using Nat.strongRecOn with
  | _ f ih =>
    intro n hn
    by_cases h0 : n = 0
    · subst h0; cases f <;> simp [Pth.ofF]
    · obtain ⟨f, rfl⟩ : ∃ g, f = g + 1 := ⟨f - 1, by omega⟩
      obtain ⟨n, rfl⟩ : ∃ m, n = m + 1 := ⟨n - 1, by omega⟩
      simp only [Pth.ofF, Nat.add_one_ne_zero, if_false, Nat.add_sub_cancel]
      have e1 := ih f (by omega) (n / 2) (by omega)
      by_cases hnf : n = f
      · subst hnf; rfl
      · have e2 := ih n (by omega) (n / 2) (by omega)
        rw [e1, e2]

theorem Pth.of_zero : Pth.of 0 = .h := rfl
theorem Pth.of_succ (n : Nat) : Pth.of (n + 1) = if n % 2 = 0 then .l (Pth.of (n / 2)) else .r (Pth.of (n / 2)) := by
  unfold Pth.of
  simp only [Pth.ofF, Nat.add_one_ne_zero, if_false, Nat.add_sub_cancel]
  rw [Pth.ofF_fuel n (n / 2) (by omega)]

theorem Pth.of_inj : ∀ (i j : Nat), Pth.of i = Pth.of j → i = j := by
  intro i
  induction i using Nat.strongRecOn with
  | _ i ih =>
    intro j h
    cases i with
    | zero =>
      cases j with
      | zero => rfl
      | succ j => rw [Pth.of_zero, Pth.of_succ] at h; split at h <;> cases h
    | succ i =>
      cases j with
      | zero => rw [Pth.of_zero, Pth.of_succ] at h; split at h <;> cases h
      | succ j =>
        rw [Pth.of_succ, Pth.of_succ] at h
        split at h <;> split at h <;> first
          | cases h; done
          | (injection h with h
             have := ih _ (by omega) _ h
             omega)

theorem RT.get_nil (p : Pth) : RT.get p .nil = undef := by cases p <;> rfl
theorem RT.get_set_same : ∀ (p : Pth) (g : RT) (v : AV), RT.get p (RT.set p g v) = v
  | .h, .nil, _ => rfl
  | .h, .node _ _ _, _ => rfl
  | .l p, .nil, v => by simp only [RT.set, RT.get]; exact RT.get_set_same p _ v
  | .l p, .node _ _ _, v => by simp only [RT.set, RT.get]; exact RT.get_set_same p _ v
  | .r p, .nil, v => by simp only [RT.set, RT.get]; exact RT.get_set_same p _ v
  | .r p, .node _ _ _, v => by simp only [RT.set, RT.get]; exact RT.get_set_same p _ v
theorem RT.get_set_other : ∀ (p q : Pth) (g : RT) (v : AV), p ≠ q → RT.get p (RT.set q g v) = RT.get p g := by
  intro p
  induction p with
  | h => intro q g v h; cases q with
    | h => exact absurd rfl h
    | l q => cases g <;> rfl
    | r q => cases g <;> rfl
  | l p ih => intro q g v h; cases q with
    | h => cases g with
      | nil => simp only [RT.set, RT.get, RT.get_nil]
      | node => rfl
    | l q => cases g with
      | nil => simp only [RT.set, RT.get]; rw [ih q _ _ (fun e => h (by rw [e])), RT.get_nil]
      | node => simp only [RT.set, RT.get]; exact ih q _ _ (fun e => h (by rw [e]))
    | r q => cases g with
      | nil => simp only [RT.set, RT.get, RT.get_nil]
      | node => rfl
  | r p ih => intro q g v h; cases q with
    | h => cases g with
      | nil => simp only [RT.set, RT.get, RT.get_nil]
      | node => rfl
    | r q => cases g with
      | nil => simp only [RT.set, RT.get]; rw [ih q _ _ (fun e => h (by rw [e])), RT.get_nil]
      | node => simp only [RT.set, RT.get]; exact ih q _ _ (fun e => h (by rw [e]))
    | l q => cases g with
      | nil => simp only [RT.set, RT.get, RT.get_nil]
      | node => rfl
theorem RT.geti_seti_same (g : RT) (i : Nat) (v : AV) : (g.seti i v).geti i = v := RT.get_set_same _ _ _
theorem RT.geti_seti_other (g : RT) {i j : Nat} (v : AV) (h : i ≠ j) : (g.seti j v).geti i = g.geti i :=
  RT.get_set_other _ _ _ _ fun e => h (Pth.of_inj _ _ e)
theorem RT.geti_nil (i : Nat) : RT.geti .nil i = undef := RT.get_nil _

/-- The registers stand for an activation's temporaries, n of them at least. -/
structure RRel (n : Nat) (ρ : Env) (g : RT) (a : Act) : Prop where
  reg : ∀ i, (g.geti i).den ρ = some (a.tmps.getD i Go.undef)
  size : a.tmps.size = n

theorem RRel.mono {n : Nat} {ρ ρ' : Env} {g : RT} {a : Act} (h : RRel n ρ g a) (le : ρ.le ρ') : RRel n ρ' g a :=
  ⟨fun i => den_mono le _ _ (h.reg i), h.size⟩
theorem RRel.put {n : Nat} {ρ : Env} {g : RT} {a : Act} (h : RRel n ρ g a) {v : AV} {x : Value} (hx : v.den ρ = some x) (d : Option Tmp) :
    RRel n ρ (setDst g (compDst n d) v) (a.put d x) := by
  cases d with
  | none => exact h
  | some d =>
    by_cases hd : d < n
    · simp only [compDst, hd, if_true, setDst, Act.put]
      have hlt : d < a.tmps.size := h.size ▸ hd
      refine ⟨fun i => ?_, by simpa using h.size⟩
      by_cases e : i = d
      · subst e
        rw [RT.geti_seti_same, hx]
        simp [Array.getD, hlt]
      · rw [RT.geti_seti_other _ _ e, h.reg i]
        congr 1
        simp [Array.getD_eq_getD_getElem?, Array.getElem?_setIfInBounds_ne (Ne.symm e)]
    · simp only [compDst, hd, if_false, setDst, Act.put]
      have hle : a.tmps.size ≤ d := h.size ▸ Nat.le_of_not_lt hd
      have e : a.tmps.setIfInBounds d x = a.tmps := Array.setIfInBounds_eq_of_size_le hle
      rw [e]
      exact h
end Go.Am

/- The abstract heap and the model's: what it is to stand for it, and how a step of one is a step of the other. -/
namespace Go.Am

theorem HT.get_nil (n : Nat) : HT.get .nil n = none := by cases n <;> rfl
theorem HT.get_setF_same : ∀ (f : Nat) (t : HT) (n : Nat) (x : Option AO), n ≤ f → (HT.setF f t n x).get n = x := by
  intro f
  induction f with
  | zero =>
    intro t n x h
    obtain rfl : n = 0 := by omega
    cases t <;> rfl
  | succ f ih =>
    intro t n x h
    cases n with
    | zero => cases t <;> rfl
    | succ n =>
      have h2 : n / 2 ≤ f := by omega
      cases t with
      | nil =>
        simp only [HT.setF]
        split
        · rename_i e; simp only [HT.get, e, if_true]; exact ih _ _ _ h2
        · rename_i e; simp only [HT.get, e, if_false]; exact ih _ _ _ h2
      | node o l r =>
        simp only [HT.setF]
        split
        · rename_i e; simp only [HT.get, e, if_true]; exact ih _ _ _ h2
        · rename_i e; simp only [HT.get, e, if_false]; exact ih _ _ _ h2
theorem HT.get_setF_other : ∀ (f : Nat) (t : HT) (n i : Nat) (x : Option AO), i ≠ n → (HT.setF f t n x).get i = t.get i := by
  intro f
  induction f with
  | zero =>
    intro t n i x h
    cases n with
    | zero =>
      obtain ⟨j, rfl⟩ : ∃ j, i = j + 1 := ⟨i - 1, by omega⟩
      cases t with
      | nil => simp only [HT.setF, HT.get]; split <;> rfl
      | node => rfl
    | succ n => cases t <;> rfl
  | succ f ih =>
    intro t n i x h
    cases n with
    | zero =>
      obtain ⟨j, rfl⟩ : ∃ j, i = j + 1 := ⟨i - 1, by omega⟩
      cases t with
      | nil => simp only [HT.setF, HT.get]; split <;> rfl
      | node => rfl
    | succ n =>
      cases t with
      | nil =>
        simp only [HT.setF]
        split
        · rename_i e
          cases i with
          | zero => rfl
          | succ j =>
            simp only [HT.get]
            split
            · rw [ih _ _ _ _ (by omega), HT.get_nil]
            · rfl
        · rename_i e
          cases i with
          | zero => rfl
          | succ j =>
            simp only [HT.get]
            split
            · rfl
            · rw [ih _ _ _ _ (by omega), HT.get_nil]
      | node o l r =>
        simp only [HT.setF]
        split
        · rename_i e
          cases i with
          | zero => rfl
          | succ j =>
            simp only [HT.get]
            split
            · rw [ih _ _ _ _ (by omega)]
            · rfl
        · rename_i e
          cases i with
          | zero => rfl
          | succ j =>
            simp only [HT.get]
            split
            · rfl
            · rw [ih _ _ _ _ (by omega)]
theorem HT.get_set_same (t : HT) (n : Nat) (x : Option AO) : (t.set n x).get n = x := HT.get_setF_same _ _ _ _ (by omega)
theorem HT.get_set_other (t : HT) {n i : Nat} (x : Option AO) (h : i ≠ n) : (t.set n x).get i = t.get i := HT.get_setF_other _ _ _ _ _ h
theorem HT.get_set (t : HT) (n i : Nat) (x : Option AO) : (t.set n x).get i = if i = n then x else t.get i := by
  by_cases h : i = n
  · subst h; simp [HT.get_set_same]
  · simp [h, HT.get_set_other]

/-! ### what objects stand for -/
def AX.code : AX → Code
  | .normal => .skip
  | .exit id => .exit id
  | .ret => .ret
def LS.den : LS → LoopState
  | .ready => .ready
  | .busy => .busy
  | .done => .done
  | .exhausted => .exhausted

def entryDen (ρ : Env) : List (AV × AV × Nat) → Option (List MapEntry)
  | [] => some []
  | (k, v, b) :: l => match k.den ρ, v.den ρ, entryDen ρ l with
    | some k, some v, some l => some ({ key := k, val := v, born := b } :: l)
    | _, _, _ => none

/-- no cell of a row is frozen: what is marked lies behind the end -/
def clear (size : Nat) (fz : Nat × Nat) : Prop := fz.1 = fz.2 ∨ size ≤ fz.1

structure RowRel (ρ : Env) (e : Nat) (cs : List AV) (k : RK) (r : Row) (w : World) : Prop where
  ex : ∃ c ty fz vs tail, w.heap[r.block]? = some (.cells c ty fz) ∧ (k ≠ .ro → clear c.size fz) ∧ denL ρ cs = some vs ∧ c.toList.drop r.off = vs ++ tail ∧
    r.off + cs.length ≤ c.size ∧ (k = .open_ → 0 < e ∧ r.cap * e = vs.length + tail.length)

def ObjRel (ρ : Env) (o : AO) (r : Row) (w : World) : Prop :=
  match o with
  | .row e cs k => RowRel ρ e cs k r w
  | .map es clock => ∃ l, w.heap[r.block]? = some (.map l.toArray clock) ∧ entryDen ρ es = some l
  | .loop st p => w.heap[r.block]? = some (.loop { r.loop with state := st.den, pending := p.map AX.code })
  | .dfr t => w.heap[r.block]? = some (.deferred (if t then none else some []))

def AO.isRo : AO → Bool
  | .row _ _ .ro => true
  | _ => false
/-- may it be written? -/
def AH.wr (h : AH) (id : Nat) (o : AO) : Prop := h.floor ≤ id ∧ o.isRo = false

structure HRel (ρ : Env) (h : AH) (w : World) : Prop where
  obj : ∀ id o, h.get id = some o → ∃ r, ρ id = some r ∧ ObjRel ρ o r w
  inj : ∀ i j oi oj ri rj, h.get i = some oi → h.get j = some oj → i ≠ j → ρ i = some ri → ρ j = some rj → h.wr i oi → ri.block ≠ rj.block
  bound : ∀ id o, h.get id = some o → id < h.next

/-- a block that the heap h may write -/
def AH.owns (h : AH) (ρ : Env) (b : Nat) : Prop := ∃ id o r, h.get id = some o ∧ h.wr id o ∧ ρ id = some r ∧ r.block = b

/-- the world apart from its heap and its tape's place -/
structure Alike (w w' : World) : Prop where
  os : w'.os = w.os
  output : w'.output = w.output
  tape : w'.tape = w.tape

theorem Alike.refl (w : World) : Alike w w := ⟨rfl, rfl, rfl⟩
theorem Alike.trans {a b c : World} (h : Alike a b) (k : Alike b c) : Alike a c := ⟨k.os.trans h.os, k.output.trans h.output, k.tape.trans h.tape⟩

structure Trans (ρ : Env) (h : AH) (w : World) (ρ' : Env) (h' : AH) (w' : World) : Prop where
  le : ρ.le ρ'
  new : ∀ id, ¬ (h.next ≤ id ∧ id < h'.next) → ρ' id = ρ id
  next : h.next ≤ h'.next
  floor : h'.floor = h.floor
  rel : HRel ρ' h' w'
  size : w.heap.size ≤ w'.heap.size
  keep : ∀ b, b < w.heap.size → ¬ h.owns ρ b → w'.heap[b]? = w.heap[b]?
  own' : ∀ id o r, h'.get id = some o → h'.wr id o ∨ h.next ≤ id → ρ' id = some r → w.heap.size ≤ r.block ∨ h.owns ρ r.block
  dom : ∀ id, id < h.next → h.get id = none → h'.get id = none
  alike : Alike w w'

theorem Trans.own {ρ ρ' : Env} {h h' : AH} {w w' : World} (t : Trans ρ h w ρ' h' w') (b : Nat) (hb : h'.owns ρ' b) : w.heap.size ≤ b ∨ h.owns ρ b := by
  obtain ⟨id, o, r, h1, h2, h3, rfl⟩ := hb
  exact t.own' id o r h1 (.inl h2) h3

theorem Trans.refl {ρ : Env} {h : AH} {w : World} (hr : HRel ρ h w) : Trans ρ h w ρ h w := by
  refine ⟨Env.le_refl _, fun _ _ => rfl, Nat.le_refl _, rfl, hr, Nat.le_refl _, fun _ _ _ => rfl, fun id o r h1 h2 h3 => .inr ?_, fun _ _ e => e, .refl _⟩
  rcases h2 with h2 | h2
  · exact ⟨id, o, r, h1, h2, h3, rfl⟩
  · exact absurd (hr.bound id o h1) (Nat.not_lt.2 h2)

theorem Trans.trans {ρ ρ₁ ρ₂ : Env} {h h₁ h₂ : AH} {w w₁ w₂ : World} (a : Trans ρ h w ρ₁ h₁ w₁) (b : Trans ρ₁ h₁ w₁ ρ₂ h₂ w₂) : Trans ρ h w ρ₂ h₂ w₂ := by
  refine ⟨Env.le_trans a.le b.le, fun id hid => ?_, Nat.le_trans a.next b.next, b.floor.trans a.floor, b.rel, Nat.le_trans a.size b.size, fun x hx ho => ?_, fun id o r h1' h2' h3' => ?_, fun id hid e => ?_, a.alike.trans b.alike⟩
  · have h1 := a.next
    have h2 := b.next
    rw [b.new id (by omega), a.new id (by omega)]
  · rw [b.keep x (Nat.lt_of_lt_of_le hx a.size) (fun o => by rcases a.own x o with h | h; · omega
                                                             · exact ho h), a.keep x hx ho]
  · have step : w₁.heap.size ≤ r.block ∨ h₁.owns ρ₁ r.block → w.heap.size ≤ r.block ∨ h.owns ρ r.block := fun q => by
      rcases q with q | q
      · exact .inl (Nat.le_trans a.size q)
      · exact a.own _ q
    rcases h2' with h2' | h2'
    · exact step (b.own' id o r h1' (.inl h2') h3')
    · by_cases hn : h₁.next ≤ id
      · exact step (b.own' id o r h1' (.inr hn) h3')
      · have hlt := Nat.lt_of_not_le hn
        cases ho : h₁.get id with
        | none => rw [b.dom id hlt ho] at h1'; cases h1'
        | some o1 =>
          rw [b.new id (by omega)] at h3'
          exact a.own' id o1 r ho (.inr h2') h3'
  · exact b.dom id (Nat.lt_of_lt_of_le hid a.next) (a.dom id hid e)
end Go.Am

/- Steps of the abstract heap and of the model's beside one another: reading, writing, making, dropping. -/
namespace Go.Am

theorem ObjRel.congr {ρ : Env} {o : AO} {r : Row} {w w' : World} (h : ObjRel ρ o r w) (e : w'.heap[r.block]? = w.heap[r.block]?) : ObjRel ρ o r w' := by
  cases o with
  | row n cs k =>
    obtain ⟨c, ty, fz, vs, tail, h1, h2⟩ := h
    exact ⟨c, ty, fz, vs, tail, by rw [e]; exact h1, h2⟩
  | map es clock =>
    obtain ⟨l, h1, h2⟩ := h
    exact ⟨l, by rw [e]; exact h1, h2⟩
  | loop st p => exact e.trans h
  | dfr t => exact e.trans h

theorem entryDen_mono {ρ ρ' : Env} (h : ρ.le ρ') : ∀ (es : List (AV × AV × Nat)) (l : List MapEntry), entryDen ρ es = some l → entryDen ρ' es = some l
  | [], _, e => e
  | (k, v, b) :: es, l, e => by
    simp only [entryDen] at e ⊢
    split at e
    · rename_i h1 h2 h3
      rw [den_mono h k _ h1, den_mono h v _ h2, entryDen_mono h es _ h3]
      exact e
    · cases e

theorem ObjRel.mono {ρ ρ' : Env} {o : AO} {r : Row} {w : World} (h : ObjRel ρ o r w) (le : ρ.le ρ') : ObjRel ρ' o r w := by
  cases o with
  | row n cs k =>
    obtain ⟨c, ty, fz, vs, tail, h1, h2, h3, h4⟩ := h
    exact ⟨c, ty, fz, vs, tail, h1, h2, denL_mono le _ _ h3, h4⟩
  | map es clock =>
    obtain ⟨l, h1, h2⟩ := h
    exact ⟨l, h1, entryDen_mono le _ _ h2⟩
  | loop st p => exact h
  | dfr t => exact h

theorem ObjRel.lt {ρ : Env} {o : AO} {r : Row} {w : World} (h : ObjRel ρ o r w) : r.block < w.heap.size := by
  cases o with
  | row n cs k => obtain ⟨c, ty, fz, vs, tail, h1, _⟩ := h; exact (Array.getElem?_eq_some_iff.1 h1).1
  | map es clock => obtain ⟨l, h1, _⟩ := h; exact (Array.getElem?_eq_some_iff.1 h1).1
  | loop st p => exact (Array.getElem?_eq_some_iff.1 h).1
  | dfr t => exact (Array.getElem?_eq_some_iff.1 h).1

/-- the heap as it was, the count of draws apart -/
theorem Trans.same {ρ : Env} {h : AH} {w w' : World} (hr : HRel ρ h w) (e : w'.heap = w.heap) (al : Alike w w') : Trans ρ h w ρ h w' := by
  refine ⟨Env.le_refl _, fun _ _ => rfl, Nat.le_refl _, rfl, ⟨fun id o ho => ?_, hr.inj, hr.bound⟩, by rw [e]; exact Nat.le_refl _, fun _ _ _ => by rw [e], fun id o r h1 h2 h3 => .inr ?_, fun _ _ e => e, al⟩
  · obtain ⟨r, h1, h2⟩ := hr.obj id o ho
    exact ⟨r, h1, h2.congr (by rw [e])⟩
  · rcases h2 with h2 | h2
    · exact ⟨id, o, r, h1, h2, h3, rfl⟩
    · exact absurd (hr.bound id o h1) (Nat.not_lt.2 h2)

theorem Trans.drew {ρ : Env} {h : AH} {w : World} (hr : HRel ρ h w) (n : Nat) : Trans ρ h w ρ h { w with drawn := n } := Trans.same hr rfl ⟨rfl, rfl, rfl⟩

/-- an object is another one, or none, in its own block -/
theorem Trans.put {ρ : Env} {h : AH} {w w' : World} {id : Nat} {o : AO} {r : Row} {x : Option AO} (hr : HRel ρ h w) (ho : h.get id = some o) (hρ : ρ id = some r)
    (hw : h.wr id o) (hs : w'.heap.size = w.heap.size) (hk : ∀ b, b ≠ r.block → w'.heap[b]? = w.heap[b]?) (al : Alike w w')
    (hx : ∀ o', x = some o' → ObjRel ρ o' r w' ∧ o'.isRo = false) : Trans ρ h w ρ { h with tr := h.tr.set id x } w' := by
  have hget : ∀ i, ({ h with tr := h.tr.set id x } : AH).get i = if i = id then x else h.get i := fun i => HT.get_set _ _ _ _
  have hwr : ∀ i o, ({ h with tr := h.tr.set id x } : AH).wr i o = h.wr i o := fun _ _ => rfl
  refine ⟨Env.le_refl _, fun _ _ => rfl, Nat.le_refl _, rfl, ⟨fun i o' hi => ?_, fun i j oi oj ri rj hi hj hne hri hrj hwi => ?_, fun i o' hi => ?_⟩, Nat.le_of_eq hs.symm, fun b _ hb => ?_, fun i o' r' h1 h2 h3 => .inr ?_, fun i hi e => ?_, al⟩
  · rw [hget] at hi
    by_cases e : i = id
    · rw [if_pos e] at hi
      subst e
      exact ⟨r, hρ, (hx o' hi).1⟩
    · rw [if_neg e] at hi
      obtain ⟨r', h1, h2⟩ := hr.obj i o' hi
      exact ⟨r', h1, h2.congr (hk _ fun eb => hr.inj id i o o' r r' ho hi (Ne.symm e) hρ h1 hw eb.symm)⟩
  · rw [hget] at hi hj
    rw [hwr] at hwi
    by_cases ei : i = id
    · rw [if_neg (fun ej => hne (ei.trans ej.symm))] at hj
      subst ei
      exact hr.inj i j o oj ri rj ho hj hne hri hrj hw
    · rw [if_neg ei] at hi
      by_cases ej : j = id
      · subst ej
        exact hr.inj i j oi o ri rj hi ho hne hri hrj hwi
      · rw [if_neg ej] at hj
        exact hr.inj i j oi oj ri rj hi hj hne hri hrj hwi
  · rw [hget] at hi
    by_cases e : i = id
    · subst e; exact hr.bound i o ho
    · rw [if_neg e] at hi; exact hr.bound i o' hi
  · exact hk b fun e => hb ⟨id, o, r, ho, hw, hρ, e.symm⟩
  · rw [hget] at h1
    by_cases e : i = id
    · subst e
      exact ⟨i, o, r', ho, hw, h3, rfl⟩
    · rw [if_neg e] at h1
      rcases h2 with h2 | h2
      · exact ⟨i, o', r', h1, h2, h3, rfl⟩
      · exact absurd (hr.bound i o' h1) (Nat.not_lt.2 h2)
  · rw [hget]
    by_cases e' : i = id
    · subst e'
      rw [ho] at e
      cases e
    · rw [if_neg e']; exact e

def Env.set (ρ : Env) (id : Nat) (r : Row) : Env := fun i => if i = id then some r else ρ i
theorem Env.set_le {ρ : Env} {id : Nat} {r : Row} (h : ρ id = none) : ρ.le (ρ.set id r) := fun i r' e => by
  unfold Env.set
  by_cases hi : i = id
  · subst hi; rw [h] at e; cases e
  · rw [if_neg hi]; exact e
theorem Env.set_same (ρ : Env) (id : Nat) (r : Row) : ρ.set id r id = some r := if_pos rfl

/-- a new object in a new block -/
theorem Trans.alloc {ρ : Env} {h : AH} {w w' : World} {o : AO} {r : Row} (hr : HRel ρ h w) (hf : ρ h.next = none) (hb : r.block = w.heap.size)
    (hs : w'.heap.size = w.heap.size + 1) (hk : ∀ b, b < w.heap.size → w'.heap[b]? = w.heap[b]?) (al : Alike w w') (hx : ObjRel (ρ.set h.next r) o r w') :
    Trans ρ h w (ρ.set h.next r) (h.new o).2 w' := by
  have hle : ρ.le (ρ.set h.next r) := Env.set_le hf
  have hget : ∀ i, (h.new o).2.get i = if i = h.next then some o else h.get i := fun i => HT.get_set _ _ _ _
  have hold : ∀ i o', h.get i = some o' → i ≠ h.next := fun i o' hi e => by
    obtain ⟨r', h1, _⟩ := hr.obj i o' hi
    rw [e, hf] at h1
    cases h1
  have hset : ∀ i r', i ≠ h.next → ρ.set h.next r i = some r' → ρ i = some r' := fun i r' hi e => by rwa [Env.set, if_neg hi] at e
  refine ⟨hle, fun i hi => ?_, Nat.le_succ _, rfl, ⟨fun i o' hi => ?_, fun i j oi oj ri rj hi hj hne hri hrj hwi => ?_, fun i o' hi => ?_⟩, by omega, fun b hb' _ => hk b hb', fun i o' r' h1 h2 h3 => ?_, fun i hi e => ?_, al⟩
  · unfold Env.set
    rw [if_neg]
    rintro rfl
    exact hi ⟨Nat.le_refl _, Nat.lt_succ_self _⟩
  · rw [hget] at hi
    by_cases e : i = h.next
    · rw [if_pos e] at hi
      subst e
      injection hi with hi
      subst hi
      exact ⟨r, Env.set_same _ _ _, hx⟩
    · rw [if_neg e] at hi
      obtain ⟨r', h1, h2⟩ := hr.obj i o' hi
      exact ⟨r', hle _ _ h1, (h2.mono hle).congr (hk _ h2.lt)⟩
  · rw [hget] at hi hj
    by_cases ei : i = h.next
    · rw [if_neg (fun ej => hne (ei.trans ej.symm))] at hj
      subst ei
      rw [Env.set_same] at hri
      injection hri with hri
      subst hri
      obtain ⟨r', h1, h2⟩ := hr.obj j oj hj
      have := hset j rj (hold j oj hj) hrj
      rw [h1] at this
      injection this with this
      subst this
      have := h2.lt
      omega
    · rw [if_neg ei] at hi
      obtain ⟨r', h1, h2⟩ := hr.obj i oi hi
      have e1 := hset i ri ei hri
      by_cases ej : j = h.next
      · subst ej
        rw [Env.set_same] at hrj
        injection hrj with hrj
        subst hrj
        rw [h1] at e1
        injection e1 with e1
        subst e1
        have := h2.lt
        omega
      · rw [if_neg ej] at hj
        exact hr.inj i j oi oj ri rj hi hj hne e1 (hset j rj ej hrj) hwi
  · rw [hget] at hi
    by_cases e : i = h.next
    · subst e; exact Nat.lt_succ_self _
    · rw [if_neg e] at hi; exact Nat.lt_succ_of_lt (hr.bound i o' hi)
  · rw [hget] at h1
    by_cases e : i = h.next
    · subst e
      rw [Env.set_same] at h3
      injection h3 with h3
      subst h3
      left
      omega
    · rw [if_neg e] at h1
      rcases h2 with h2 | h2
      · exact .inr ⟨i, o', r', h1, h2, hset i r' e h3, rfl⟩
      · exact absurd (hr.bound i o' h1) (Nat.not_lt.2 h2)
  · rw [hget, if_neg (by omega)]
    exact e

/-- a name for a place that nobody is to look at -/
theorem Trans.phantom {ρ : Env} {h : AH} {w : World} (r : Row) (hr : HRel ρ h w) (hf : ρ h.next = none) : Trans ρ h w (ρ.set h.next r) h.phantom.2 w := by
  have hle : ρ.le (ρ.set h.next r) := Env.set_le hf
  have hold : ∀ i o', h.get i = some o' → i ≠ h.next := fun i o' hi e => by
    obtain ⟨r', h1, _⟩ := hr.obj i o' hi
    rw [e, hf] at h1
    cases h1
  have hset : ∀ i r', i ≠ h.next → ρ.set h.next r i = some r' → ρ i = some r' := fun i r' hi e => by rwa [Env.set, if_neg hi] at e
  refine ⟨hle, fun i hi => ?_, Nat.le_succ _, rfl, ⟨fun i o' hi => ?_, fun i j oi oj ri rj hi hj hne hri hrj hwi => ?_, fun i o' hi => Nat.lt_succ_of_lt (hr.bound i o' hi)⟩, Nat.le_refl _, fun _ _ _ => rfl, fun i o' r' h1 h2 h3 => .inr ?_, fun i hi e => e, .refl _⟩
  · unfold Env.set
    rw [if_neg]
    rintro rfl
    exact hi ⟨Nat.le_refl _, Nat.lt_succ_self _⟩
  · obtain ⟨r', h1, h2⟩ := hr.obj i o' hi
    exact ⟨r', hle _ _ h1, h2.mono hle⟩
  · exact hr.inj i j oi oj ri rj hi hj hne (hset i ri (hold i oi hi) hri) (hset j rj (hold j oj hj) hrj) hwi
  · rcases h2 with h2 | h2
    · exact ⟨i, o', r', h1, h2, hset i r' (hold i o' h1) h3, rfl⟩
    · exact absurd (hr.bound i o' h1) (Nat.not_lt.2 h2)

/-- an object dropped, and another one in its block -/
theorem Trans.swap {ρ : Env} {h : AH} {w w' : World} {id : Nat} {o o' : AO} {r r' : Row} (hr : HRel ρ h w) (ho : h.get id = some o) (hρ : ρ id = some r) (hw : h.wr id o)
    (hf : ρ h.next = none) (hb : r'.block = r.block) (hs : w'.heap.size = w.heap.size) (hk : ∀ b, b ≠ r.block → w'.heap[b]? = w.heap[b]?) (al : Alike w w')
    (hx : ObjRel (ρ.set h.next r') o' r' w') : Trans ρ h w (ρ.set h.next r') (({ h with tr := h.tr.set id none } : AH).new o').2 w' := by
  have hle : ρ.le (ρ.set h.next r') := Env.set_le hf
  have hold : ∀ i o', h.get i = some o' → i ≠ h.next := fun i o' hi e => by
    obtain ⟨r', h1, _⟩ := hr.obj i o' hi
    rw [e, hf] at h1
    cases h1
  have hget : ∀ i, (({ h with tr := h.tr.set id none } : AH).new o').2.get i = if i = h.next then some o' else if i = id then none else h.get i := fun i => by
    unfold AH.new AH.get
    simp only [HT.get_set]
  have hset : ∀ i r'', i ≠ h.next → ρ.set h.next r' i = some r'' → ρ i = some r'' := fun i r'' hi e => by rwa [Env.set, if_neg hi] at e
  have hoth : ∀ i o₂, i ≠ h.next → (({ h with tr := h.tr.set id none } : AH).new o').2.get i = some o₂ → i ≠ id ∧ h.get i = some o₂ := fun i o₂ hi e => by
    rw [hget, if_neg hi] at e
    by_cases e2 : i = id
    · rw [if_pos e2] at e; cases e
    · rw [if_neg e2] at e; exact ⟨e2, e⟩
  refine ⟨hle, fun i hi => ?_, Nat.le_succ _, rfl, ⟨fun i o₂ hi => ?_, fun i j oi oj ri rj hi hj hne hri hrj hwi => ?_, fun i o₂ hi => ?_⟩, Nat.le_of_eq hs.symm, fun b _ hb' => ?_, fun i o₂ r₂ h1 h2 h3 => .inr ?_, fun i hi e => ?_, al⟩
  · unfold Env.set
    rw [if_neg]
    rintro rfl
    exact hi ⟨Nat.le_refl _, Nat.lt_succ_self _⟩
  · by_cases e : i = h.next
    · subst e
      rw [hget, if_pos rfl] at hi
      injection hi with hi
      subst hi
      exact ⟨r', Env.set_same _ _ _, hx⟩
    · obtain ⟨h1, h2⟩ := hoth i o₂ e hi
      obtain ⟨r₂, h3, h4⟩ := hr.obj i o₂ h2
      exact ⟨r₂, hle _ _ h3, (h4.mono hle).congr (hk _ fun eb => hr.inj id i o o₂ r r₂ ho h2 (Ne.symm h1) hρ h3 hw eb.symm)⟩
  · by_cases ei : i = h.next
    · have ej : j ≠ h.next := fun ej => hne (ei.trans ej.symm)
      subst ei
      rw [Env.set_same] at hri
      injection hri with hri
      subst hri
      obtain ⟨h1, h2⟩ := hoth j oj ej hj
      rw [hb]
      exact hr.inj id j o oj r rj ho h2 (Ne.symm h1) hρ (hset j rj ej hrj) hw
    · obtain ⟨h1, h2⟩ := hoth i oi ei hi
      by_cases ej : j = h.next
      · subst ej
        rw [Env.set_same] at hrj
        injection hrj with hrj
        subst hrj
        rw [hb]
        exact fun e => hr.inj id i o oi r ri ho h2 (Ne.symm h1) hρ (hset i ri ei hri) hw e.symm
      · obtain ⟨h3, h4⟩ := hoth j oj ej hj
        exact hr.inj i j oi oj ri rj h2 h4 hne (hset i ri ei hri) (hset j rj ej hrj) hwi
  · by_cases e : i = h.next
    · subst e; exact Nat.lt_succ_self _
    · exact Nat.lt_succ_of_lt (hr.bound i o₂ (hoth i o₂ e hi).2)
  · exact hk b fun e => hb' ⟨id, o, r, ho, hw, hρ, e.symm⟩
  · by_cases e : i = h.next
    · subst e
      rw [Env.set_same] at h3
      injection h3 with h3
      subst h3
      exact ⟨id, o, r, ho, hw, hρ, hb.symm⟩
    · rcases h2 with h2 | h2
      · exact ⟨i, o₂, r₂, (hoth i o₂ e h1).2, h2, hset i r₂ e h3, rfl⟩
      · exact absurd (hr.bound i o₂ (hoth i o₂ e h1).2) (Nat.not_lt.2 h2)
  · rw [hget, if_neg (by omega)]
    split
    · rfl
    · exact e

/-! ### reading -/
section
variable {ρ : Env} {h : AH} {w : World} {id e : Nat} {cs : List AV} {k : RK} {r : Row}

theorem HRel.row (hr : HRel ρ h w) (ho : h.get id = some (.row e cs k)) (hρ : ρ id = some r) : RowRel ρ e cs k r w := by
  obtain ⟨r', h1, h2⟩ := hr.obj id _ ho
  rw [hρ] at h1
  injection h1 with h1
  subst h1
  exact h2

theorem RowRel.cell (hr : RowRel ρ e cs k r w) {off : Nat} {v : AV} (hv : cs[off]? = some v) : ∃ x, v.den ρ = some x ∧ w.cell? ⟨r.block, r.off + off, none⟩ = some x := by
  obtain ⟨c, ty, fz, vs, tail, h1, _, h3, h4, h5, _⟩ := hr
  obtain ⟨x, hx, hxs⟩ := denL_get h3 hv
  refine ⟨x, hx, ?_⟩
  have hlt : off < vs.length := by
    rcases Nat.lt_or_ge off vs.length with h | h
    · exact h
    · rw [List.getElem?_eq_none h] at hxs; cases hxs
  have e1 : (c.toList.drop r.off)[off]? = some x := by rw [h4, List.getElem?_append_left hlt]; exact hxs
  rw [List.getElem?_drop] at e1
  simp only [World.cell?, h1, Option.isSome_none, Bool.false_eq_true, if_false]
  simpa using e1

theorem RowRel.cells (hr : RowRel ρ e cs k r w) {off n : Nat} (hn : off + n ≤ cs.length) :
    ∃ xs, denL ρ ((cs.drop off).take n) = some xs ∧ xs.length = n ∧ ∀ j x, xs[j]? = some x → w.cell? ((⟨r.block, r.off + off, none⟩ : Addr).add j) = some x := by
  have hr0 := hr
  obtain ⟨c, ty, fz, vs, tail, h1, _, h3, h4, h5, _⟩ := hr
  have hd := denL_take n (denL_drop off h3)
  refine ⟨_, hd, by rw [denL_length hd]; simp; omega, fun j x hx => ?_⟩
  rw [List.getElem?_take] at hx
  split at hx
  · rename_i hj
    rw [List.getElem?_drop] at hx
    have hlt : off + j < cs.length := by omega
    obtain ⟨y, hy, hc⟩ := hr0.cell (off := off + j) (v := cs[off + j]) (List.getElem?_eq_getElem hlt)
    obtain ⟨z, hz, hz2⟩ := denL_get h3 (List.getElem?_eq_getElem hlt)
    rw [hy] at hz
    injection hz with hz
    subst hz
    rw [hx] at hz2
    injection hz2 with hz2
    subst hz2
    have ea : (⟨r.block, r.off + off, none⟩ : Addr).add j = ⟨r.block, r.off + (off + j), none⟩ := by
      unfold Addr.add
      split
      · subst_vars; rfl
      · simp [Nat.add_assoc]
    rw [ea]
    exact hc
  · cases hx

theorem cellsAt_run (P : Program) (hr : HRel ρ h w) {off n : Nat} {vs : List AV} (hc : h.cellsAt id off n = some vs) (hρ : ρ id = some r) :
    ∃ xs, denL ρ vs = some xs ∧ xs.length = n ∧ (loadCells ⟨r.block, r.off + off, none⟩ n).run P w = .ok xs.toArray w := by
  unfold AH.cellsAt at hc
  by_cases hn : n = 0
  · subst hn
    simp only [if_true, Option.some.injEq] at hc
    subst hc
    refine ⟨[], rfl, rfl, ?_⟩
    simp [loadCells, loadCellsFrom]
  · rw [if_neg hn] at hc
    split at hc
    · rename_i e' cs' k' ho
      split at hc
      · rename_i hle
        injection hc with hc
        subst hc
        obtain ⟨xs, h1, h2, h3⟩ := (hr.row ho hρ).cells hle
        refine ⟨xs, h1, h2, ?_⟩
        rw [← h2]
        exact run_loadCells_list w _ xs h3
      · cases hc
    · cases hc

theorem cell_run (P : Program) (hr : HRel ρ h w) {off : Nat} {v : AV} (hc : h.cell id off = some v) (hρ : ρ id = some r) :
    ∃ x, v.den ρ = some x ∧ (load ⟨r.block, r.off + off, none⟩).run P w = .ok x w := by
  unfold AH.cell at hc
  split at hc
  · rename_i e' cs' k' ho
    obtain ⟨x, hx, hcell⟩ := (hr.row ho hρ).cell hc
    refine ⟨x, hx, ?_⟩
    simp [hcell]
  · cases hc
end

/-! ### writing -/
theorem clear_not {size : Nat} {fz : Nat × Nat} (h : clear size fz) {i : Nat} (hi : i < size) : (decide (fz.1 ≤ i) && decide (i < fz.2)) = false := by
  rcases h with h | h
  · simp; omega
  · simp; omega

theorem setCell_heap (w : World) {b off : Nat} {c : Array Value} {ty : TypeId} {fz : Nat × Nat} (v : Value) (h : w.heap[b]? = some (.cells c ty fz)) :
    w.setCell ⟨b, off, none⟩ v = { w with heap := w.heap.setIfInBounds b (.cells (c.setIfInBounds off v) ty fz) } := by
  unfold World.setCell
  congr 1
  obtain ⟨hlt, he⟩ := Array.getElem?_eq_some_iff.1 h
  apply Array.ext_getElem?
  intro i
  simp only [Array.getElem?_modify, Array.getElem?_setIfInBounds, Option.isSome_none, Bool.false_eq_true, if_false]
  by_cases hi : b = i
  · subst hi
    rw [if_pos rfl, if_pos rfl, if_pos hlt, h]
    rfl
  · simp [hi]

theorem take_set_succ {α : Type} (l : List α) (n : Nat) (v : α) (h : n < l.length) : (l.set n v).take (n + 1) = l.take n ++ [v] := by
  apply List.ext_getElem?
  intro i
  rw [List.getElem?_take, List.getElem?_append, List.length_take, Nat.min_eq_left (Nat.le_of_lt h), List.getElem?_set, List.getElem?_take]
  by_cases h1 : i < n
  · simp [h1, show i < n + 1 by omega, show ¬ n = i by omega]
  · by_cases h2 : i = n
    · subst h2
      simp [h]
    · rw [if_neg (by omega), if_neg h1]
      rw [List.getElem?_eq_none (by simp; omega)]
theorem drop_set_succ {α : Type} (l : List α) (n k : Nat) (v : α) (h : n < k) : (l.set n v).drop k = l.drop k := by
  apply List.ext_getElem?
  intro i
  rw [List.getElem?_drop, List.getElem?_drop, List.getElem?_set, if_neg (by omega)]

theorem run_storeCells_clear (P : Program) (b o : Nat) (ty : TypeId) (fz : Nat × Nat) : ∀ (vs : List Value) (i : Nat) (cur : Array Value) (w : World),
    w.heap[b]? = some (.cells cur ty fz) → clear cur.size fz → o + i + vs.length ≤ cur.size → (∀ v ∈ vs, v.oneCell' = true) →
    ∃ c', (storeCells ⟨b, o, none⟩ vs i).run P w = .ok () { w with heap := w.heap.setIfInBounds b (.cells c' ty fz) } ∧ c'.size = cur.size ∧
      c'.toList = cur.toList.take (o + i) ++ vs ++ cur.toList.drop (o + i + vs.length) := by
  intro vs
  induction vs with
  | nil =>
    intro i cur w h _ _ _
    refine ⟨cur, ?_, rfl, by simp⟩
    have : w.heap.setIfInBounds b (.cells cur ty fz) = w.heap := by
      apply Array.ext_getElem?
      intro i
      rw [Array.getElem?_setIfInBounds]
      by_cases hi : b = i
      · subst hi
        rw [if_pos rfl, if_pos (Array.getElem?_eq_some_iff.1 h).1, h]
      · rw [if_neg hi]
    simp [storeCells, this]
  | cons v vs ih =>
    intro i cur w h hcl hle hone
    simp only [List.length_cons] at hle
    have ea : (⟨b, o, none⟩ : Addr).add i = ⟨b, o + i, none⟩ := by
      unfold Addr.add
      split
      · subst_vars; rfl
      · rfl
    have hcell : ∃ x, w.cell? ⟨b, o + i, none⟩ = some x := by
      refine ⟨cur[o + i]'(by omega), ?_⟩
      simp [World.cell?, h]
    obtain ⟨x, hx⟩ := hcell
    have hfz : w.frozen? ⟨b, o + i, none⟩ = false := by
      unfold World.frozen?
      rw [h]
      exact clear_not hcl (i := o + i) (by omega)
    have hst : (store ⟨b, o + i, none⟩ v).run P w = .ok () { w with heap := w.heap.setIfInBounds b (.cells (cur.setIfInBounds (o + i) v) ty fz) } := by
      rw [run_store P w _ v .plain (hone v (List.mem_cons_self ..)), hx]
      simp only [hfz]
      rw [setCell_heap w v h]
      rfl
    obtain ⟨hlt, he⟩ := Array.getElem?_eq_some_iff.1 h
    obtain ⟨c', h1, h2, h3⟩ := ih (i + 1) (cur.setIfInBounds (o + i) v) { w with heap := w.heap.setIfInBounds b (.cells (cur.setIfInBounds (o + i) v) ty fz) }
      (by simp [hlt]) (by simpa using hcl) (by simp; omega) (fun u hu => hone u (List.mem_cons_of_mem _ hu))
    refine ⟨c', ?_, by simpa using h2, ?_⟩
    · simp only [storeCells, ea, Sem.run_bind, hst, Result.andThen_ok, h1]
      simp
    · have hlen : o + i < cur.toList.length := by simp; omega
      rw [h3, Array.toList_setIfInBounds, show o + (i + 1) = o + i + 1 from rfl, take_set_succ _ _ _ hlen, drop_set_succ _ _ _ _ (by omega), List.length_cons,
        show o + i + 1 + vs.length = o + i + (vs.length + 1) by omega]
      simp

theorem drop_splice {α : Type} (l xs : List α) (a b n : Nat) (h : a + b ≤ l.length) :
    (l.take (a + b) ++ xs ++ l.drop (a + b + n)).drop a = (l.drop a).take b ++ xs ++ (l.drop a).drop (b + n) := by
  rw [List.append_assoc, List.drop_append_of_le_length (by simp; omega), List.drop_take, List.drop_drop, Nat.add_sub_cancel_left, Nat.add_assoc]
  simp

theorem denL_splice {ρ : Env} {cs vs : List AV} {cv xs : List Value} (off : Nat) (hc : denL ρ cs = some cv) (hv : denL ρ vs = some xs) :
    denL ρ (splice cs off vs) = some (cv.take off ++ xs ++ cv.drop (off + vs.length)) := by
  unfold splice
  rw [denL_append]
  exact ⟨_, _, denL_append.2 ⟨_, _, denL_take off hc, hv, rfl⟩, denL_drop _ hc, rfl⟩

theorem splice_length (cs vs : List AV) (off : Nat) (h : off + vs.length ≤ cs.length) : (splice cs off vs).length = cs.length := by
  unfold splice; simp; omega

theorem put_some {h h' : AH} {id : Nat} {o : Option AO} (e : h.put id o = some h') : h.floor ≤ id ∧ h' = { h with tr := h.tr.set id o } := by
  unfold AH.put at e
  split at e
  · rename_i hf; exact ⟨hf, (Option.some.inj e).symm⟩
  · cases e

theorem setBlock_other (w : World) {b i : Nat} (o : Obj) (h : i ≠ b) : (w.heap.setIfInBounds b o)[i]? = w.heap[i]? := Array.getElem?_setIfInBounds_ne (Ne.symm h)
theorem setBlock_same (w : World) {b : Nat} (o : Obj) (h : b < w.heap.size) : (w.heap.setIfInBounds b o)[b]? = some o := by simp [h]

theorem write_run (P : Program) {ρ : Env} {h h' : AH} {w : World} {id off : Nat} {vs : List AV} {xs : List Value} {r : Row} (hr : HRel ρ h w) (he : h.write id off vs = some h') (hρ : ρ id = some r)
    (hv : denL ρ vs = some xs) : ∃ w', (storeCells ⟨r.block, r.off + off, none⟩ xs).run P w = .ok () w' ∧ Trans ρ h w ρ h' w' := by
  unfold AH.write at he
  split at he
  · rename_i hemp
    injection he with he
    subst he
    have : vs = [] := by simpa using hemp
    subst this
    rw [denL_nil.1 hv]
    exact ⟨w, rfl, .refl hr⟩
  · split at he
    · rename_i e cs k ho
      split at he
      · cases he
      · rename_i hk
        split at he
        · rename_i hc
          obtain ⟨hle, hone⟩ := hc
          obtain ⟨hfl, rfl⟩ := put_some he
          obtain ⟨c, ty, fz, cv, tail, h1, h2, h3, h4, h5, h6⟩ := hr.row ho hρ
          have hlv := denL_length hv
          have hlc := denL_length h3
          obtain ⟨c', g1, g2, g3⟩ := run_storeCells_clear P r.block (r.off + off) ty fz xs 0 c w h1 (h2 hk) (by rw [hlv]; omega) (denL_one hv hone)
          refine ⟨_, g1, Trans.put hr ho hρ ⟨hfl, ?_⟩ (by simp) (fun b hb => setBlock_other w _ hb) ⟨rfl, rfl, rfl⟩ ?_⟩
          · cases k <;> first | rfl | exact absurd rfl hk
          · rintro o' ⟨rfl⟩
            refine ⟨⟨c', ty, fz, _, tail, setBlock_same w _ (Array.getElem?_eq_some_iff.1 h1).1, fun _ => by rw [g2]; exact h2 hk, denL_splice off h3 hv, ?_, by rw [splice_length _ _ _ hle, g2]; exact h5, fun ek => ?_⟩, ?_⟩
            · rw [g3, Nat.add_zero, drop_splice _ _ _ _ _ (by simp; omega), h4, List.take_append_of_le_length (by omega), List.drop_append_of_le_length (by omega), hlv]
              simp
            · obtain ⟨p1, p2⟩ := h6 ek
              refine ⟨p1, ?_⟩
              rw [p2]
              simp
              omega
            · cases k <;> first | rfl | exact absurd rfl hk
        · cases he
    · cases he
end Go.Am

/- The operations on values: what the abstract machine reckons is what the model reckons. -/
namespace Go.Am

/-- The places of the package-level variables are known by their own numbers. -/
def GlobOk (ρ : Env) : Prop := ∀ g, g < 32 → ∃ r, ρ g = some r ∧ r.block = g ∧ r.off = 0
theorem GlobOk.mono {ρ ρ' : Env} (h : GlobOk ρ) (le : ρ.le ρ') : GlobOk ρ' := fun g hg => let ⟨r, a, b⟩ := h g hg; ⟨r, le _ _ a, b⟩

mutual
theorem compVal_den (ρ : Env) : ∀ (x : Value) (v : AV), compVal x = some v → v.den ρ = some x
  | .bool _, v, h | .int _ _, v, h | .nilFunc, v, h => by simp only [compVal, Option.some.injEq] at h; subst h; rfl
  | .string s, v, h => by
    simp only [compVal, Option.some.injEq] at h
    subst h
    simp [AV.den]
  | .pointer none, v, h | .map none, v, h => by simp only [compVal, Option.some.injEq] at h; subst h; rfl
  | .slice none n c, v, h => by
    unfold compVal at h
    split at h <;> simp_all
    all_goals (subst_vars; try rfl)
  | .agg ⟨l⟩, v, h => by
    simp only [compVal, opt_some, Option.some.injEq] at h
    obtain ⟨l', h1, rfl⟩ := h
    exact den_agg.2 ⟨l, compVals_den ρ l l' h1, rfl⟩
  | .tuple ⟨l⟩, v, h => by
    simp only [compVal, opt_some, Option.some.injEq] at h
    obtain ⟨l', h1, rfl⟩ := h
    exact den_tuple.2 ⟨l, compVals_den ρ l l' h1, rfl⟩
  | .pointer (some _), v, h | .map (some _), v, h | .chan _, v, h | .func _ _ _, v, h | .iface _ _, v, h | .nilIface, v, h | .float _ _, v, h | .complex _ _ _, v, h | .slice (some _) _ _, v, h => by
    simp [compVal] at h
theorem compVals_den (ρ : Env) : ∀ (l : List Value) (vs : List AV), compVals l = some vs → denL ρ vs = some l
  | [], vs, h => by simp only [compVals, Option.some.injEq] at h; subst h; rfl
  | x :: l, vs, h => by
    simp only [compVals, opt_some, Option.some.injEq] at h
    obtain ⟨v, h1, l', h2, rfl⟩ := h
    exact denL_cons.2 ⟨x, l, compVal_den ρ x v h1, compVals_den ρ l l' h2, rfl⟩
end

/-- what the machine has of an activation -/
structure FRel (n : Nat) (ρ : Env) (g : RT) (a : Act) : Prop extends RRel n ρ g a where
  glob : GlobOk ρ

theorem FRel.mono {n : Nat} {ρ ρ' : Env} {g : RT} {a : Act} (h : FRel n ρ g a) (le : ρ.le ρ') : FRel n ρ' g a := ⟨h.toRRel.mono le, h.glob.mono le⟩
theorem FRel.put {n : Nat} {ρ : Env} {g : RT} {a : Act} (h : FRel n ρ g a) {v : AV} {x : Value} (hx : v.den ρ = some x) (d : Option Tmp) :
    FRel n ρ (setDst g (compDst n d) v) (a.put d x) := ⟨h.toRRel.put hx d, h.glob⟩

section
variable {n : Nat} {ρ : Env} {g : RT} {a : Act}

theorem opd_den (h : FRel n ρ g a) {x : Operand} {y : Opd} (hc : compOpd x = some y) : (y.ev g).den ρ = some (a.eval x) := by
  cases x with
  | tmp t => simp only [compOpd, Option.some.injEq] at hc; subst hc; exact h.reg t
  | const v =>
    simp only [compOpd, opt_some, Option.some.injEq] at hc
    obtain ⟨u, h1, rfl⟩ := hc
    exact compVal_den ρ v u h1
  | global i =>
    simp only [compOpd] at hc
    split at hc
    · rename_i hi
      injection hc with hc
      subst hc
      obtain ⟨r, h1, h2, h3⟩ := h.glob i hi
      exact den_ptr.2 ⟨r, h1, by simp [Act.eval, h2, h3]⟩
    · cases hc
  | func f => simp only [compOpd, Option.some.injEq] at hc; subst hc; rfl

theorem opds_den (h : FRel n ρ g a) : ∀ {l : List Operand} {ys : List Opd}, compOpds l = some ys → denL ρ (ys.map (·.ev g)) = some (l.map a.eval)
  | [], ys, hc => by simp only [compOpds, Option.some.injEq] at hc; subst hc; rfl
  | x :: l, ys, hc => by
    simp only [compOpds, opt_some, Option.some.injEq] at hc
    obtain ⟨y, h1, l', h2, rfl⟩ := hc
    exact denL_cons.2 ⟨_, _, opd_den h h1, opds_den h h2, rfl⟩

theorem opdo_den (h : FRel n ρ g a) {x : Option Operand} {y : Option Opd} (hc : compOpt x = some y) :
    (y = none ∧ x = none) ∨ ∃ u v z, y = some u ∧ x = some v ∧ z = u.ev g ∧ z.den ρ = some (a.eval v) := by
  cases x with
  | none => simp only [compOpt, Option.some.injEq] at hc; exact .inl ⟨hc.symm, rfl⟩
  | some v =>
    simp only [compOpt, opt_some, Option.some.injEq] at hc
    obtain ⟨u, h1, rfl⟩ := hc
    exact .inr ⟨u, v, _, rfl, rfl, rfl, opd_den h h1⟩
end

/-! ### types -/
section
variable {P : Program} {t : TypeId}
theorem sizeOfT_run {n : Nat} (h : sizeOfT P t = some n) (w : World) : (sizeOf t).run P w = .ok n w := by
  simp only [sizeOfT, opt_some, Option.some.injEq] at h
  obtain ⟨i, h1, rfl⟩ := h
  simp [sizeOf, typeInfo, h1]
theorem bytesOfT_run {n : Nat} (h : bytesOfT P t = some n) : ∃ i, P.info? t = some i ∧ i.bytes = n := by
  simp only [bytesOfT, opt_some, Option.some.injEq] at h
  exact h
theorem zeroOfT_run {z : AV} (h : zeroOfT P t = some z) (ρ : Env) (w : World) : ∃ x, (zeroValue t).run P w = .ok x w ∧ z.den ρ = some x := by
  simp only [zeroOfT, opt_some] at h
  obtain ⟨i, h1, x, h2, h3⟩ := h
  exact ⟨x, by simp [zeroValue, typeInfo, h1, h2], compVal_den ρ x z h3⟩
theorem aggT_run {b : Bool} (h : aggT P t = some b) (w : World) : (isAgg t).run P w = .ok b w := by
  simp only [aggT, opt_some] at h
  obtain ⟨d, h1, h2⟩ := h
  simp only [isAgg, Sem.run_bind, run_underlying h1, Result.andThen_ok]
  cases d <;> simp_all
end

/-! ### numbers -/
theorem intBin_run (P : Program) (op : BinOp) (k : IntKind) (x y : Int) (v : AV) (ρ : Env) (w : World) (h : intBin op k x y = some v) (hs : op ≠ .shl ∧ op ≠ .shr) (t : TypeId) :
    ∃ z, (binOp op t (.int k x) (.int k y)).run P w = .ok z w ∧ v.den ρ = some z := by
  cases op <;> simp only [intBin] at h <;> first
    | (exact absurd rfl hs.1)
    | (exact absurd rfl hs.2)
    | (injection h with h; subst h; refine ⟨_, ?_, rfl⟩; simp [binOp, Op.intArith, Op.intBits, Op.intCmp]; done)
    | (split at h
       · cases h
       · rename_i hy
         injection h with h; subst h
         refine ⟨_, ?_, rfl⟩
         simp [binOp, Op.intDiv, hy])

theorem str_den {ρ : Env} {s : List UInt8} {x : Value} : (AV.str s).den ρ = some x ↔ x = .string ⟨s.toArray⟩ := by simp [AV.den, eq_comm]
theorem int_den {ρ : Env} {k : IntKind} {i : Int} {x : Value} : (AV.int k i).den ρ = some x ↔ x = .int k i := by simp [AV.den, eq_comm]
theorem bool_den {ρ : Env} {b : Bool} {x : Value} : (AV.bool b).den ρ = some x ↔ x = .bool b := by simp [AV.den, eq_comm]

theorem strBin_run (P : Program) (op : BinOp) (x y : List UInt8) (v : AV) (ρ : Env) (w : World) (h : strBin op x y = some v) (t : TypeId) :
    ∃ z, (binOp op t (.string ⟨x.toArray⟩) (.string ⟨y.toArray⟩)).run P w = .ok z w ∧ v.den ρ = some z := by
  have e1 : (⟨x.toArray⟩ : ByteArray).toList = x := by rw [ByteArray.toList_eq]
  have e2 : (⟨y.toArray⟩ : ByteArray).toList = y := by rw [ByteArray.toList_eq]
  cases op <;> simp only [strBin] at h <;> first
    | (cases h; done)
    | (injection h with h; subst h; refine ⟨_, ?_, rfl⟩; simp [binOp, Op.stringOp, e1, e2]; done)
    | (split at h
       · rename_i hl
         injection h with h; subst h
         refine ⟨_, ?_, rfl⟩
         have hn : ¬ ((((⟨x.toArray⟩ : ByteArray).size + (⟨y.toArray⟩ : ByteArray).size : Nat) : Int) > IntKind.i64.max) := by
           simp only [ByteArray.size, List.size_toArray, IntKind.max, IntKind.signed, IntKind.bits]
           simp
           omega
         simp only [binOp, Op.stringOp, hn, if_false, Sem.run_pure]
         congr 2
       · cases h)

theorem binV_run (P : Program) (op : BinOp) (x y v : AV) (x' y' : Value) (ρ : Env) (w : World) (h : binV op x y = some v) (hx : x.den ρ = some x') (hy : y.den ρ = some y') (t : TypeId) (ox oy : Operand) :
    ∃ z, (do eqGuard op t ox oy x' y'; binOp op t x' y' : Sem Value).run P w = .ok z w ∧ v.den ρ = some z := by
  have hg : ∀ (k k' : IntKind) (a b : Int), (eqGuard op t ox oy (.int k a) (.int k' b)).run P w = .ok () w := fun k k' a b => by
    unfold eqGuard; cases op <;> simp
  have hg2 : ∀ (a b : ByteArray), (eqGuard op t ox oy (.string a) (.string b)).run P w = .ok () w := fun a b => by
    unfold eqGuard; cases op <;> simp
  unfold binV at h
  split at h
  · rename_i k a k' b
    rw [int_den] at hx hy
    subst hx hy
    simp only [Sem.run_bind, hg, Result.andThen_ok]
    unfold intShift at h
    split at h
    · cases h
    · rename_i hb
      injection h with h; subst h
      refine ⟨_, ?_, rfl⟩
      simp [binOp, Op.shift, hb]
  · rename_i k a k' b
    rw [int_den] at hx hy
    subst hx hy
    simp only [Sem.run_bind, hg, Result.andThen_ok]
    unfold intShift at h
    split at h
    · cases h
    · rename_i hb
      injection h with h; subst h
      refine ⟨_, ?_, rfl⟩
      simp [binOp, Op.shift, hb]
  · rename_i k a k' b _ _
    rw [int_den] at hx hy
    subst hx hy
    simp only [Sem.run_bind, hg, Result.andThen_ok]
    split at h
    · rename_i hk
      subst hk
      exact intBin_run P _ k a b v ρ w h ⟨by rintro rfl; simp_all, by rintro rfl; simp_all⟩ t
    · cases h
  · rw [str_den] at hx hy
    subst hx hy
    simp only [Sem.run_bind, hg2, Result.andThen_ok]
    exact strBin_run P _ _ _ v ρ w h t
  · cases h

theorem unV_run (P : Program) (op : UnOp) (x v : AV) (x' : Value) (ρ : Env) (w : World) (h : unV op x = some v) (hx : x.den ρ = some x') :
    ∃ z, (Op.unary op x').run P w = .ok z w ∧ v.den ρ = some z := by
  unfold unV at h
  split at h
  · rw [int_den] at hx
    subst hx
    obtain ⟨rfl⟩ := h
    refine ⟨_, ?_, rfl⟩
    simp [Op.unary, Op.intArith]
  · rw [int_den] at hx
    subst hx
    obtain ⟨rfl⟩ := h
    refine ⟨_, ?_, rfl⟩
    simp [Op.unary, Op.intBits]
  · rw [bool_den] at hx
    subst hx
    obtain ⟨rfl⟩ := h
    refine ⟨_, ?_, rfl⟩
    simp [Op.unary]
  · cases h
end Go.Am
