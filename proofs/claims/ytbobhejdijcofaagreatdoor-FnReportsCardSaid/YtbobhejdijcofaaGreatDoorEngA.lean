/- The abstract machine: values without memory, a small code, and its interpreter, which is total: what cannot be run turns the flag ok off. Definitions only; no condition. -/
import Derived.Calls
import Derived.KernelRfl
import Derived.Attr
namespace Go.Proofs.YtbobhejdijcofaaGreatDoor
open Go
set_option linter.unusedVariables false

/-- What a slot holds, without memory. -/
inductive AV where
  | int (k : IntKind) (n : Int)
  | bool (b : Bool)
  | str (l : List UInt8)
  | cv (v : Value)
  | agg (cs : List AV)
  | tup (cs : List AV)
  | sl (sz : Nat) (els : List AV)
  | nilsl
  | ptr (sz : Nat) (els : List AV) (i off : Nat)
  | fn (f : Fn) (first caps : List AV)
  | own (k : Nat)
  | ref (k i off : Nat)
  | fresh (sz : Nat) (els : List AV)
  | mem (sz : Nat) (els : List AV) (ix : Nat)
  | opt (b : Bool) (a : AV)
  | any
  deriving Inhabited

/-- What the variables of the library hold that the code reads, by their numbers. -/
def tabs : List (Nat × (Array Value → Prop)) :=
 (1, fun cs => cs = ((List.range 20).map fun i => Value.int .u64 ((10 ^ i : Nat) : Int)).toArray) ::
  []

/-- A block of the frame's own: elements of sz cells each. -/
structure Hm where
  sz : Nat
  els : List AV
  deriving Inhabited

abbrev Obs := List (Nat × Hm)

/-- A frame: its variables, the temporaries of the statement that is run, the blocks of its own; ok: nothing has failed. -/
structure St where
  vs : List AV
  st : List AV
  ob : Obs
  ok : Bool
  deriving Inhabited

/-- An operand: a variable, a temporary counted from the newest one on, or a constant. -/
inductive Src where
  | v (n : Nat)
  | s (n : Nat)
  | c (a : AV)
  deriving Inhabited

inductive Md where
  | bor | io | mov
  deriving DecidableEq, Inhabited

/-- What a call gives: its result, and what then stands in the blocks that were handed over to be written. -/
structure Rs where
  ok : Bool
  r : AV
  outs : List AV
  deriving Inhabited

def Rs.bad : Rs := ⟨false, .any, []⟩

/-- What is known of a function: how each argument is handed, whether its result can share memory with the arguments, and what it computes. -/
structure Ctr where
  modes : List Md
  flat : Bool
  F : List AV → Rs

abbrev Tbl := Nat → Option Ctr

inductive AOp where
  | mov (x : Src)
  | newnil (sz : Nat)
  | pick (c a b : Src)
  | alloc (z : AV)
  | box (x : Src)
  | build (z : List AV) (parts : List (Nat × Nat × Src))
  | mkSl (sz : Nat) (z : AV) (n : Nat) (parts : List (Nat × Src))
  | load (agg : Bool) (sz : Nat) (p : Src)
  | store (sz : Nat) (p x : Src)
  | nilck (x : Src)
  | bin (bl : Bool) (op : BinOp) (x y : Src)
  | eqA (neg : Bool) (ks : List Nat) (x y : Src)
  | un (op : UnOp) (x : Src)
  | conv (k : IntKind) (x : Src)
  | s2b (x : Src)
  | b2s (x : Src)
  | mkFn (f : Fn) (first caps : List Src)
  | make (sz bytes : Nat) (z : AV) (len cap : Src)
  | slice (sz : Nat) (x : Src) (lo hi : Option Src)
  | fldAddr (off : Nat) (p : Src)
  | fld (agg : Bool) (off sz : Nat) (x : Src)
  | ixAddr (sz : Nat) (x i : Src)
  | ixStr (x i : Src)
  | ext (x : Src) (i : Nat)
  | call (f : Nat) (args : List Src)
  | callp (f : Nat) (args : List Src)
  | callv (f : Src) (args : List Src)
  | len (str : Bool) (x : Src)
  | app (sz bytes : Nat) (z : AV) (s x : Src)
  | minmax (mx : Bool) (xs : List Src)
  | pur (a : AOp)
  | callw (f : Nat) (args : List Src)
  | flat (a : AOp)
  | trunc (sz : Nat) (x hi : Src)
  | movz (x : Src)
  | safe (ds : List Nat) (a : AOp)
  deriving Inhabited

/-- Where a value goes: nowhere, to a new temporary, to a variable. -/
inductive Dst where
  | no | push | var (n : Nat) | slot (n : Nat)
  deriving DecidableEq, Inhabited

structure Ins where
  dst : Dst
  key : Nat
  guard : Option (Src × Bool)
  op : AOp
  deriving Inhabited

inductive IR where
  | skip
  | region (draw : Bool) (is : List Ins)
  | test (draw : Bool) (is : List Ins) (c : Src) (a b : IR)
  | anyo (k : Nat) (is : List Ins) (alts : List (List Nat)) (a : IR)
  | seq (a b : IR)
  | cond (c : Src) (a b : IR)
  | block (id : Nat) (a : IR)
  | loop (keep out rt : List Bool) (a : IR)
  | mask (m : List Bool) (a : IR)
  | exit (id : Nat)
  | ret
  deriving Inhabited

inductive Ex where
  | norm | exit (id : Nat) | ret
  deriving DecidableEq, Inhabited

inductive RSrc where
  | t (n : Nat)
  | cell (agg : Bool) (sz : Nat) (p : Nat)
  deriving Inhabited

/-- A function: how many parameters (they are the first variables), how many variables, the body, the results. -/
structure AFn where
  np : Nat
  nv : Nat
  body : IR
  res : List RSrc
  deriving Inhabited

/-! ### Small pieces -/

def AV.cells : AV → List AV
  | .agg cs => cs
  | .int k n => [.int k n]
  | .bool b => [.bool b]
  | .str l => [.str l]
  | .cv v => [.cv v]
  | .tup cs => [.tup cs]
  | .sl sz els => [.sl sz els]
  | .nilsl => [.nilsl]
  | .ptr sz els i off => [.ptr sz els i off]
  | .fn f a b => [.fn f a b]
  | .own k => [.own k]
  | .ref k i off => [.ref k i off]
  | .fresh sz els => [.fresh sz els]
  | .mem sz els i => [.mem sz els i]
  | .opt b a => [.opt b a]
  | .any => [.any]

def AV.isAgg : AV → Bool
  | .agg _ => true
  | _ => false

def rd (s : St) : Src → AV
  | .v n => s.vs.getD n .any
  | .s n => s.st.getD n .any
  | .c a => a

def obGet (k : Nat) : Obs → Option Hm
  | [] => none
  | p :: r => bif p.1 == k then some p.2 else obGet k r

def obSet (k : Nat) (h : Hm) : Obs → Obs
  | [] => [(k, h)]
  | p :: r => bif p.1 == k then (k, h) :: r else bif decide (k < p.1) then (k, h) :: p :: r else p :: obSet k h r

def obDel (k : Nat) : Obs → Obs
  | [] => []
  | p :: r => bif p.1 == k then obDel k r else p :: obDel k r

/-- Which block a value names by itself. -/
def AV.key1 : AV → List Nat
  | .own k => [k]
  | .ref k _ _ => [k]
  | .int _ _ => []
  | .bool _ => []
  | .str _ => []
  | .cv _ => []
  | .agg _ => []
  | .tup _ => []
  | .sl _ _ => []
  | .nilsl => []
  | .ptr _ _ _ _ => []
  | .fn _ _ _ => []
  | .fresh _ _ => []
  | .mem _ _ _ => []
  | .opt _ _ => []
  | .any => []

def AV.keys : AV → List Nat
  | .own k => [k]
  | .ref k _ _ => [k]
  | .fn _ fi ca => (fi ++ ca).flatMap AV.key1
  | .tup cs => cs.flatMap AV.key1
  | .opt _ a => a.key1
  | .int _ _ => []
  | .bool _ => []
  | .str _ => []
  | .cv _ => []
  | .agg _ => []
  | .sl _ _ => []
  | .nilsl => []
  | .ptr _ _ _ _ => []
  | .fresh _ _ => []
  | .mem _ _ _ => []
  | .any => []

def AV.names (k : Nat) (a : AV) : Bool := a.keys.any (· == k)

/-- The value is forgotten where it names block k. -/
def AV.kill (k : Nat) (a : AV) : AV := bif a.names k then .any else a

/-- Where a value names block k: what stands there now, never to be changed again. -/
def AV.fz1 (k : Nat) (h : Hm) : AV → AV
  | .own j => bif j == k then .sl h.sz h.els else .own j
  | .ref j i off => bif j == k then .ptr h.sz h.els i off else .ref j i off
  | .int k n => .int k n
  | .bool b => .bool b
  | .str l => .str l
  | .cv v => .cv v
  | .agg cs => .agg cs
  | .tup cs => .tup cs
  | .sl sz els => .sl sz els
  | .nilsl => .nilsl
  | .ptr sz els i off => .ptr sz els i off
  | .fn f a b => .fn f a b
  | .fresh sz els => .fresh sz els
  | .mem sz els i => .mem sz els i
  | .opt b a => .opt b a
  | .any => .any

def AV.fz (k : Nat) (h : Hm) : AV → AV
  | .own j => bif j == k then .sl h.sz h.els else .own j
  | .ref j i off => bif j == k then .ptr h.sz h.els i off else .ref j i off
  | .fn f fi ca => .fn f (fi.map (AV.fz1 k h)) (ca.map (AV.fz1 k h))
  | .tup cs => .tup (cs.map (AV.fz1 k h))
  | .opt b a => .opt b (a.fz1 k h)
  | .int k n => .int k n
  | .bool b => .bool b
  | .str l => .str l
  | .cv v => .cv v
  | .agg cs => .agg cs
  | .sl sz els => .sl sz els
  | .nilsl => .nilsl
  | .ptr sz els i off => .ptr sz els i off
  | .fresh sz els => .fresh sz els
  | .mem sz els i => .mem sz els i
  | .any => .any

def freezeH (s : St) (k : Nat) : Option Hm → St
  | some h => { s with vs := s.vs.map (AV.fz k h), st := s.st.map (AV.fz k h), ob := obDel k s.ob }
  | none => s

def freezeAll (s : St) : List Nat → St
  | [] => s
  | k :: r => freezeAll (freezeH s k (obGet k s.ob)) r

/-- The value as it reads now. -/
def slOf : Option Hm → AV
  | some h => .sl h.sz h.els
  | none => .any

def ptrOf (i off : Nat) : Option Hm → AV
  | some h => .ptr h.sz [h.els.getD i .any] 0 off
  | none => .any

def AV.dv1 (ob : Obs) : AV → AV
  | .own k => slOf (obGet k ob)
  | .ref k i off => ptrOf i off (obGet k ob)
  | .int k n => .int k n
  | .bool b => .bool b
  | .str l => .str l
  | .cv v => .cv v
  | .agg cs => .agg cs
  | .tup cs => .tup cs
  | .sl sz els => .sl sz els
  | .nilsl => .nilsl
  | .ptr sz els i off => .ptr sz [els.getD i .any] 0 off
  | .fn f a b => .fn f a b
  | .fresh _ _ => .any
  | .mem _ _ _ => .any
  | .opt _ _ => .any
  | .any => .any

def AV.dv (ob : Obs) : AV → AV
  | .own k => slOf (obGet k ob)
  | .ref k i off => ptrOf i off (obGet k ob)
  | .fn f fi ca => .fn f (fi.map (AV.dv1 ob)) (ca.map (AV.dv1 ob))
  | .int k n => .int k n
  | .bool b => .bool b
  | .str l => .str l
  | .cv v => .cv v
  | .agg cs => .agg cs
  | .tup _ => .any
  | .sl sz els => .sl sz els
  | .nilsl => .nilsl
  | .ptr sz els i off => .ptr sz [els.getD i .any] 0 off
  | .fresh _ _ => .any
  | .mem _ _ _ => .any
  | .opt _ _ => .any
  | .any => .any

/-- A value that may lie in a cell: one cell wide, and it names no block of the frame's own. -/
def AV.atom : AV → Bool
  | .int _ _ => true
  | .bool _ => true
  | .str _ => true
  | .nilsl => true
  | .sl _ _ => true
  | .ptr _ _ _ _ => true
  | .fn _ fi ca => (fi ++ ca).all (fun a => a.key1.isEmpty)
  | .cv _ => false
  | .agg _ => false
  | .tup _ => false
  | .own _ => false
  | .ref _ _ _ => false
  | .fresh _ _ => false
  | .mem _ _ _ => false
  | .opt _ _ => false
  | .any => false

/-- A value that a closure may hold. -/
def AV.simple : AV → Bool
  | .int _ _ => true
  | .bool _ => true
  | .str _ => true
  | .nilsl => true
  | .sl _ _ => true
  | .ptr _ _ _ _ => true
  | .agg _ => true
  | .own _ => true
  | .ref _ _ _ => true
  | .fn _ _ _ => false
  | .cv _ => false
  | .tup _ => false
  | .fresh _ _ => false
  | .mem _ _ _ => false
  | .opt _ _ => false
  | .any => false

def AV.atoms (a : AV) : Bool := a.cells.all AV.atom

/-! ### What an operation gives -/

structure Mk where
  ok : Bool
  v : AV
  hs : Obs
  deriving Inhabited

def bad : Mk := ⟨false, .any, []⟩
def just (a : AV) : Mk := ⟨true, a, []⟩
def when (c : Bool) (a : AV) : Mk := ⟨c, a, []⟩

/-- A part of an element. -/
def part (agg : Bool) (sz off : Nat) (el : AV) : Mk :=
  match agg with
  | true => ⟨el.isAgg && decide (off + sz ≤ el.cells.length), bif off == 0 && sz == el.cells.length then el else .agg ((el.cells.drop off).take sz), []⟩
  | false => ⟨decide (off < el.cells.length), el.cells.getD off .any, []⟩

/-- An element with a part of it changed. -/
def putCells : List AV → Nat → List AV → List AV
  | cs, _, [] => cs
  | cs, off, x :: r => putCells (cs.set off x) (off + 1) r

def AV.like : AV → List AV → AV
  | .agg _, cs => .agg cs
  | _, [x] => x
  | _, _ => .any

/-- What a value is without the mark of a condition. -/
def unopt : AV → AV
  | .opt _ a => a
  | .int k n => .int k n
  | .bool b => .bool b
  | .str l => .str l
  | .cv v => .cv v
  | .agg cs => .agg cs
  | .tup cs => .tup cs
  | .sl sz els => .sl sz els
  | .nilsl => .nilsl
  | .ptr sz els i off => .ptr sz els i off
  | .fn f a b => .fn f a b
  | .own k => .own k
  | .ref k i off => .ref k i off
  | .fresh sz els => .fresh sz els
  | .mem sz els i => .mem sz els i
  | .any => .any

/-- Is the value there, where w holds? -/
def optOk (w : Bool) : AV → Bool
  | .opt b _ => !w || b
  | .int _ _ => true
  | .bool _ => true
  | .str _ => true
  | .cv _ => true
  | .agg _ => true
  | .tup _ => true
  | .sl _ _ => true
  | .nilsl => true
  | .ptr _ _ _ _ => true
  | .fn _ _ _ => true
  | .own _ => true
  | .ref _ _ _ => true
  | .fresh _ _ => true
  | .mem _ _ _ => true
  | .any => true

/-- One of two values. -/
def mixA (c : Bool) : AV → AV → AV
  | .bool p, .bool q => .bool (bif c then p else q)
  | .int k p, .int j q => bif k == j then .int k (bif c then p else q) else .any
  | .str p, .str q => .str (bif c then p else q)
  | x, y => bif c then x else y

def pickM (w : Bool) (a b : AV) : AV → Mk
  | .bool c => when (optOk (w && c) a && optOk (w && !c) b) (mixA c (unopt a) (unopt b))
  | _ => bad

def nz (y : Int) : Bool := !(y == 0)
def shOk (y : Int) : Bool := decide (0 ≤ y)
def catOk (m n : Nat) : Bool := decide (m + n ≤ 9223372036854775807)
/-- n elements of b bytes have room in one block. -/
def appOk (n b : Nat) : Bool := decide (n * b ≤ 140737488355328)
def mkOk (n : Int) (b : Nat) : Bool := decide (0 ≤ n) && (decide (1 ≤ b) && decide (n * b ≤ 281474976710656))

def intB (op : BinOp) (k : IntKind) (x y : Int) : Mk :=
  match op with
  | .add => just (.int k (k.wrap (x + y)))
  | .sub => just (.int k (k.wrap (x - y)))
  | .mul => just (.int k (k.wrap (x * y)))
  | .quo => when (nz y) (.int k (k.wrap (x.tdiv y)))
  | .rem => when (nz y) (.int k (x.tmod y))
  | .and => just (.int k (k.wrap (BitVec.ofInt k.bits x &&& BitVec.ofInt k.bits y).toNat))
  | .or => just (.int k (k.wrap (BitVec.ofInt k.bits x ||| BitVec.ofInt k.bits y).toNat))
  | .xor => just (.int k (k.wrap (BitVec.ofInt k.bits x ^^^ BitVec.ofInt k.bits y).toNat))
  | .andNot => just (.int k (k.wrap (BitVec.ofInt k.bits x &&& ~~~BitVec.ofInt k.bits y).toNat))
  | .eql => just (.bool (x == y))
  | .neq => just (.bool (!(x == y)))
  | .lss => just (.bool (decide (x < y)))
  | .leq => just (.bool (decide (x ≤ y)))
  | .gtr => just (.bool (decide (y < x)))
  | .geq => just (.bool (decide (y ≤ x)))
  | .shl => bad
  | .shr => bad

def strB (op : BinOp) (x y : List UInt8) : Mk :=
  match op with
  | .add => when (catOk x.length y.length) (.str (x ++ y))
  | .eql => just (.bool (x == y))
  | .neq => just (.bool (!(x == y)))
  | .lss => just (.bool (Op.bytesLess x y))
  | .leq => just (.bool (Op.bytesLess x y || x == y))
  | .gtr => just (.bool (!(Op.bytesLess x y || x == y)))
  | .geq => just (.bool (!Op.bytesLess x y))
  | _ => bad

def boolB (op : BinOp) (x y : Bool) : Mk :=
  match op with
  | .eql => just (.bool (x == y))
  | .neq => just (.bool (!(x == y)))
  | _ => bad

def shB (op : BinOp) (k : IntKind) (x y : Int) : Mk :=
  match op with
  | .shl => when (shOk y) (.int k (k.wrap (x * 2 ^ (min y.toNat k.bits))))
  | .shr => when (shOk y) (.int k (x.fdiv (2 ^ (min y.toNat k.bits))))
  | _ => bad

def isSh : BinOp → Bool
  | .shl => true
  | .shr => true
  | _ => false

def also (c : Bool) (m : Mk) : Mk := ⟨c && m.ok, m.v, m.hs⟩

def binA (bl : Bool) (op : BinOp) : AV → AV → Mk
  | .int k x, .int j y => bif isSh op then shB op k x y else also (k == j) (intB op k x y)
  | .str x, .str y => strB op x y
  | .bool x, .bool y => also bl (boolB op x y)
  | _, _ => bad

/-- Two scalars are compared. -/
def eq1 : AV → AV → Bool
  | .int _ x, .int _ y => x == y
  | .bool x, .bool y => x == y
  | .str x, .str y => x == y
  | _, _ => false

def eq1Ok (n : Nat) : AV → AV → Bool
  | .int k _, .int j _ => (n == 1) && (k == j)
  | .bool _, .bool _ => n == 0
  | .str _, .str _ => n == 2
  | _, _ => false

def eqCells : List AV → List AV → Bool
  | a :: r, b :: q => eq1 a b && eqCells r q
  | _, _ => true

def eqCellsOk : List Nat → List AV → List AV → Bool
  | n :: ns, a :: r, b :: q => eq1Ok n a b && eqCellsOk ns r q
  | [], [], [] => true
  | _, _, _ => false

def cmpAgg (neg : Bool) (ks : List Nat) : AV → AV → Mk
  | .agg a, .agg b => when (eqCellsOk ks a b) (.bool (bif neg then !eqCells a b else eqCells a b))
  | _, _ => bad

def unA (op : UnOp) : AV → Mk
  | .int k n => match op with
    | .neg => just (.int k (k.wrap (0 - n)))
    | _ => bad
  | .bool b => match op with
    | .not => just (.bool (!b))
    | _ => bad
  | _ => bad

def byteAV (c : UInt8) : AV := .int .u8 (c.toNat : Int)

def byteOf : AV → UInt8
  | .int _ n => UInt8.ofNat n.toNat
  | _ => 0

def isByte : AV → Bool
  | .int .u8 _ => true
  | _ => false

def idx : AV → Int
  | .int _ n => n
  | _ => -1

/-- An index is good. -/
def ixOk (i : Int) (n : Nat) : Bool := decide (0 ≤ i) && decide (i < (n : Int))

def loadH (agg : Bool) (sz i off : Nat) : Option Hm → Mk
  | some h => part agg sz off (h.els.getD i .any)
  | none => bad

def loadA (ob : Obs) (agg : Bool) (sz : Nat) : AV → Mk
  | .ref k i off => loadH agg sz i off (obGet k ob)
  | .ptr _ els i off => part agg sz off (els.getD i .any)
  | _ => bad

def nilckA : AV → Mk
  | .ref k i off => just (.ref k i off)
  | .ptr sz els i off => just (.ptr sz els i off)
  | .fn (.func f) a b => just (.fn (.func f) a b)
  | _ => bad

def convA (k : IntKind) : AV → Mk
  | .int _ n => just (.int k (k.wrap n))
  | _ => bad

def keyOf (d : Nat) : Nat := 32 * d

def s2bA (k : Nat) : AV → Mk
  | .str l => ⟨true, .own k, [(k, ⟨1, l.map byteAV⟩)]⟩
  | _ => bad

def strOf (els : List AV) : Mk := when (els.all isByte) (.str (els.map byteOf))

def strHm : Option Hm → Mk
  | some h => strOf h.els
  | none => bad

def b2sA (ob : Obs) : AV → Mk
  | .sl _ els => strOf els
  | .nilsl => just (.str [])
  | .own k => strHm (obGet k ob)
  | _ => bad

def lenHm : Option Hm → Mk
  | some h => just (.int .i64 (h.els.length : Int))
  | none => bad

def lenA (ob : Obs) (st : Bool) : AV → Mk
  | .str l => when st (.int .i64 (l.length : Int))
  | .sl _ els => when (!st) (.int .i64 (els.length : Int))
  | .nilsl => when (!st) (.int .i64 0)
  | .own k => also (!st) (lenHm (obGet k ob))
  | _ => bad

def idxOr (d : Int) : Option AV → Int
  | some a => idx a
  | none => d

def cutOk (a b : Int) (n : Nat) : Bool := decide (0 ≤ a) && (decide (a ≤ b) && decide (b ≤ (n : Int)))

def cut {α : Type} (l : List α) (a b : Int) : List α := (l.take b.toNat).drop a.toNat

def sliceA (sz0 : Nat) (lo hi : Option AV) : AV → Mk
  | .str l => when ((sz0 == 0) && cutOk (idxOr 0 lo) (idxOr l.length hi) l.length) (.str (cut l (idxOr 0 lo) (idxOr l.length hi)))
  | .sl sz els => when ((sz == sz0) && cutOk (idxOr 0 lo) (idxOr els.length hi) els.length) (.sl sz (cut els (idxOr 0 lo) (idxOr els.length hi)))
  | .nilsl => when (!(sz0 == 0) && cutOk (idxOr 0 lo) (idxOr 0 hi) 0) .nilsl
  | _ => bad

def fldAddrA (off : Nat) : AV → Mk
  | .ref k i o => just (.ref k i (o + off))
  | .ptr sz els i o => just (.ptr sz els i (o + off))
  | _ => bad

def ixOwn (sz0 k : Nat) (i : Int) : Option Hm → Mk
  | some h => when ((h.sz == sz0) && ixOk i h.els.length) (.ref k i.toNat 0)
  | none => bad

def ixAddrA (ob : Obs) (sz0 : Nat) (i : Int) : AV → Mk
  | .own k => ixOwn sz0 k i (obGet k ob)
  | .sl sz els => when ((sz == sz0) && ixOk i els.length) (.ptr sz [els.getD i.toNat .any] 0 0)
  | _ => bad

def ixStrA (i : Int) : AV → Mk
  | .str l => when (ixOk i l.length) (byteAV (l.getD i.toNat 0))
  | _ => bad

def extA (i : Nat) : AV → Mk
  | .tup cs => when (decide (i < cs.length)) (cs.getD i .any)
  | _ => bad

def boxA (k : Nat) (a : AV) : Mk := ⟨decide (1 ≤ a.cells.length) && a.atoms, .ref k 0 0, [(k, ⟨a.cells.length, [a]⟩)]⟩

/-- The parts of a struct are laid into its zero value. -/
def fillP : List AV → List (Nat × Nat × AV) → List AV
  | cs, [] => cs
  | cs, p :: r => fillP (putCells cs p.1 p.2.2.cells) r

def fillOk (n : Nat) : List (Nat × Nat × AV) → Bool
  | [] => true
  | p :: r => (p.2.2.cells.length == p.2.1) && (decide (p.1 + p.2.1 ≤ n) && (p.2.2.atoms && fillOk n r))

def setEls : List AV → List (Nat × AV) → List AV
  | els, [] => els
  | els, p :: r => setEls (els.set p.1 p.2) r

def setOk (sz n : Nat) : List (Nat × AV) → Bool
  | [] => true
  | p :: r => decide (p.1 < n) && ((p.2.cells.length == sz) && (p.2.atoms && setOk sz n r))

def mm2 (mx : Bool) : AV → AV → AV
  | .int k x, .int _ y => .int k (bif mx then (if x < y then y else x) else (if y < x then y else x))
  | _, _ => .any

def foldMM (mx : Bool) : AV → List AV → AV
  | a, [] => a
  | a, b :: r => foldMM mx (mm2 mx a b) r

def kindIs (k : IntKind) : AV → Bool
  | .int j _ => k == j
  | _ => false

def mmA (mx : Bool) : List AV → Mk
  | .int k n :: r => when (r.all (kindIs k)) (foldMM mx (.int k n) r)
  | _ => bad

def makeA (k sz bytes : Nat) (z : AV) : AV → AV → Mk
  | .int _ n, .int _ m => ⟨(n == m) && mkOk n bytes, .own k, [(k, ⟨sz, List.replicate n.toNat z⟩)]⟩
  | _, _ => bad

/-- An operation that writes nothing that was there: its value, and the block that it makes. -/
def stillOp (r : Src → AV) (ob : Obs) (d : Nat) : AOp → Mk
  | .mov x => just (r x)
  | .newnil sz => ⟨true, .own (keyOf d), [(keyOf d, ⟨sz, []⟩)]⟩
  | .alloc z => boxA (keyOf d) z
  | .box x => boxA (keyOf d) (r x)
  | .build z ps => when (fillOk z.length (ps.map fun p => (p.1, p.2.1, r p.2.2))) (.agg (fillP z (ps.map fun p => (p.1, p.2.1, r p.2.2))))
  | .mkSl sz z n ps => ⟨setOk sz n (ps.map fun p => (p.1, r p.2)), .own (keyOf d), [(keyOf d, ⟨sz, setEls (List.replicate n z) (ps.map fun p => (p.1, r p.2))⟩)]⟩
  | .load agg sz p => loadA ob agg sz (r p)
  | .nilck x => nilckA (r x)
  | .bin bl op x y => binA bl op (r x) (r y)
  | .eqA neg ks x y => cmpAgg neg ks (r x) (r y)
  | .un op x => unA op (r x)
  | .conv k x => convA k (r x)
  | .b2s x => b2sA ob (r x)
  | .s2b x => s2bA (keyOf d) (r x)
  | .mkFn f fi ca => when ((fi.map r ++ ca.map r).all AV.simple) (.fn f (fi.map r) (ca.map r))
  | .make sz bytes z l c => makeA (keyOf d) sz bytes z (r l) (r c)
  | .slice sz x lo hi => sliceA sz (lo.map r) (hi.map r) (r x)
  | .fldAddr off p => fldAddrA off (r p)
  | .fld agg off sz x => also (r x).isAgg (part agg sz off (r x))
  | .ixAddr sz x i => ixAddrA ob sz (idx (r i)) (r x)
  | .ixStr x i => ixStrA (idx (r i)) (r x)
  | .ext x i => extA i (r x)
  | .len st x => lenA ob st (r x)
  | .minmax mx xs => mmA mx (xs.map r)
  | .pick _ _ _ => bad
  | .store _ _ _ => bad
  | .call _ _ => bad
  | .callp _ _ => bad
  | .callv _ _ => bad
  | .app _ _ _ _ _ => bad
  | .pur _ => bad
  | .callw _ _ => bad
  | .flat _ => bad
  | .trunc _ _ _ => bad
  | .movz _ => bad
  | .safe _ _ => bad

/-- A block that an operation makes is never to be changed. -/
def frzV (h : Hm) : AV → AV
  | .own _ => .sl h.sz h.els
  | .ref _ i off => .ptr h.sz h.els i off
  | _ => .any

def frzH (v : AV) : Obs → AV
  | [] => v
  | p :: _ => frzV p.2 v

def frzM (m : Mk) : Mk := ⟨m.ok, frzH m.v m.hs, []⟩

/-- The result of a call is taken up: what is fresh becomes a block of the frame's own. -/
def adoptL (d : Nat) : Nat → List AV → List AV
  | _, [] => []
  | j, .fresh _ _ :: r => .own (keyOf d + j) :: adoptL d (j + 1) r
  | j, .mem _ _ _ :: r => .ref (keyOf d + j) 0 0 :: adoptL d (j + 1) r
  | j, x :: r => x :: adoptL d (j + 1) r

def adoptB (d : Nat) : Nat → List AV → Obs
  | _, [] => []
  | j, .fresh sz els :: r => (keyOf d + j, ⟨sz, els⟩) :: adoptB d (j + 1) r
  | j, .mem sz els _ :: r => (keyOf d + j, ⟨sz, els⟩) :: adoptB d (j + 1) r
  | j, _ :: r => adoptB d (j + 1) r

def adopt (d : Nat) : AV → Mk
  | .fresh sz els => ⟨true, .own (keyOf d), [(keyOf d, ⟨sz, els⟩)]⟩
  | .tup cs => ⟨decide (cs.length < 31), .tup (adoptL d 1 cs), adoptB d 1 cs⟩
  | .int k n => just (.int k n)
  | .bool b => just (.bool b)
  | .str l => just (.str l)
  | .cv v => just (.cv v)
  | .agg cs => just (.agg cs)
  | .sl sz els => just (.sl sz els)
  | .nilsl => just .nilsl
  | .ptr sz els i off => just (.ptr sz els i off)
  | .fn f a b => when ((a ++ b).all (fun x => x.key1.isEmpty)) (.fn f a b)
  | .own _ => bad
  | .ref _ _ _ => bad
  | .mem sz els _ => ⟨true, .ref (keyOf d) 0 0, [(keyOf d, ⟨sz, els⟩)]⟩
  | .opt _ _ => bad
  | .any => just .any

/-- The result of a call is taken up, never to be changed. -/
def adoptF : AV → Mk
  | .fresh sz els => just (.sl sz els)
  | .mem sz els _ => just (.ptr sz els 0 0)
  | r => adopt 0 r

def addAll (ob : Obs) : Obs → Obs
  | [] => ob
  | p :: r => addAll (obSet p.1 p.2 ob) r

/-- A value is put where it goes. -/
def putD (s : St) (c : Bool) (a : AV) : Dst → St
  | .no => { s with ok := s.ok && c }
  | .push => { s with st := a :: s.st, ok := s.ok && c }
  | .var n => { s with vs := s.vs.set n a, ok := s.ok && c }
  | .slot n => { s with st := s.st.set n a, ok := s.ok && c }

def clr (d : Nat) (a : AV) : AV := bif a.keys.any (fun k => k / 32 == d) then .any else a

def clrOb (d : Nat) : Obs → Obs
  | [] => []
  | p :: r => bif p.1 / 32 == d then clrOb d r else p :: clrOb d r

def hasKey (d : Nat) : Obs → Bool
  | [] => false
  | p :: r => (p.1 / 32 == d) || hasKey d r

/-- The old blocks under the keys of an operation are forgotten. -/
def clear (s : St) (d : Nat) : St :=
  bif hasKey d s.ob then { s with vs := s.vs.map (clr d), st := s.st.map (clr d), ob := clrOb d s.ob } else s

def withOb (s : St) (hs : Obs) : St := { s with ob := addAll s.ob hs }

def putH (s : St) (key : Nat) (dst : Dst) (c : Bool) (a : AV) : Obs → St
  | [] => putD s c a dst
  | h :: hs => putD (withOb (clear s key) (h :: hs)) c a dst

def putM (s : St) (key : Nat) (dst : Dst) (m : Mk) : St := putH s key dst m.ok m.v m.hs

/-! ### Calls -/

def fail (s : St) : St := { s with ok := false }

structure Cal where
  ok : Bool
  f : Nat
  args : List AV

def calleeV (args : List AV) : AV → Cal
  | .fn (.func g) fi ca => ⟨true, g, fi ++ args ++ ca⟩
  | _ => ⟨false, 0, []⟩

/-- The arguments as the callee gets them. -/
def memO (i : Nat) : Option Hm → AV
  | some h => .mem h.sz h.els i
  | none => .any

def freshO : Option Hm → AV
  | some h => .fresh h.sz h.els
  | none => .any

def ioArg (ob : Obs) : AV → AV
  | .own k => freshO (obGet k ob)
  | .ref k i 0 => memO i (obGet k ob)
  | .nilsl => .nilsl
  | _ => .any

def isFM : AV → Bool
  | .fresh _ _ => true
  | .mem _ _ _ => true
  | .int _ _ => false
  | .bool _ => false
  | .str _ => false
  | .cv _ => false
  | .agg _ => false
  | .tup _ => false
  | .sl _ _ => false
  | .nilsl => false
  | .ptr _ _ _ _ => false
  | .fn _ _ _ => false
  | .own _ => false
  | .ref _ _ _ => false
  | .opt _ _ => false
  | .any => false

def isNil : AV → Bool
  | .nilsl => true
  | _ => false

/-- The arguments have the shape that their modes ask for. -/
def shapes : List Md → List AV → Bool
  | .bor :: ms, a :: as => !isFM a && shapes ms as
  | .io :: ms, a :: as => isFM a && shapes ms as
  | .mov :: ms, a :: as => (isFM a || isNil a) && shapes ms as
  | [], [] => true
  | _, _ => false

def handArg (ob : Obs) : Md → AV → AV
  | .bor, a => a.dv ob
  | .io, a => ioArg ob a
  | .mov, a => ioArg ob a

def handArgs (ob : Obs) : List Md → List AV → List AV
  | m :: ms, a :: as => handArg ob m a :: handArgs ob ms as
  | _, _ => []

/-- The keys of the blocks that are handed over to be written. -/
def ioKeys : List Md → List AV → List Nat
  | .bor :: ms, _ :: as => ioKeys ms as
  | .io :: ms, a :: as => a.key1 ++ ioKeys ms as
  | .mov :: ms, a :: as => a.key1 ++ ioKeys ms as
  | _, _ => []

def borKeys : List Md → List AV → List Nat
  | .bor :: ms, a :: as => a.keys ++ borKeys ms as
  | .io :: ms, _ :: as => borKeys ms as
  | .mov :: ms, _ :: as => borKeys ms as
  | _, _ => []

def distinct : List Nat → Bool
  | [] => true
  | k :: r => !r.any (· == k) && distinct r

def apart (ks bs : List Nat) : Bool := ks.all fun k => !bs.any (· == k)

def killAll (s : St) (k : Nat) : St := { s with vs := s.vs.map (AV.kill k), st := s.st.map (AV.kill k), ob := obDel k s.ob }

/-- What stands in the blocks that were handed over, behind the call. -/
def takeBack (s : St) : List Md → List AV → List AV → St
  | .bor :: ms, _ :: as, _ :: os => takeBack s ms as os
  | .io :: ms, .own k :: as, .fresh sz els :: os => takeBack { s with ob := obSet k ⟨sz, els⟩ s.ob } ms as os
  | .io :: ms, .ref k _ 0 :: as, .mem sz els _ :: os => takeBack { s with ob := obSet k ⟨sz, els⟩ s.ob } ms as os
  | .mov :: ms, .own k :: as, _ :: os => takeBack (killAll s k) ms as os
  | .mov :: ms, .nilsl :: as, _ :: os => takeBack s ms as os
  | [], [], [] => s
  | _, _, _ => fail s

def unfl (C : Ctr) (s : St) (args : List AV) : St := bif C.flat then s else freezeAll s (borKeys C.modes args)

def callBack (s : St) (key : Nat) (dst : Dst) (modes : List Md) (args : List AV) (c : Bool) (q : Rs) : St :=
  putM (takeBack s modes args q.outs) key dst (also (c && q.ok) (adopt key q.r))

def callC (s : St) (key : Nat) (dst : Dst) (args : List AV) : Option Ctr → St
  | some C => callBack (unfl C s args) key dst C.modes args
      (shapes C.modes (handArgs s.ob C.modes args) && ((C.modes.length == args.length) && (distinct (ioKeys C.modes args) && apart (ioKeys C.modes args) (borKeys C.modes args)))) (C.F (handArgs s.ob C.modes args))
  | none => fail s

def doCall (T : Tbl) (s : St) (key : Nat) (dst : Dst) (c : Cal) : St :=
  callC { s with ok := s.ok && c.ok } key dst c.args (T c.f)

/-- A call that only gives a value, where w holds. -/
def callG (ob : Obs) (args : List AV) : Option Ctr → Mk
  | some C => also ((C.modes.length == args.length) && (shapes C.modes (handArgs ob C.modes args) && C.modes.all (· == .bor) && ((C.flat || args.all (fun a => a.keys.isEmpty)) && (C.F (handArgs ob C.modes args)).ok)))
      (adoptF (C.F (handArgs ob C.modes args)).r)
  | none => bad

def doCallG (T : Tbl) (ob : Obs) (c : Cal) : Mk := also c.ok (callG ob c.args (T c.f))

/-! ### Operations that write -/

def storeEl (s : St) (k i sz off : Nat) (x el : AV) (h : Hm) : St :=
  { s with ob := obSet k ⟨h.sz, h.els.set i (el.like (putCells el.cells off x.cells))⟩ s.ob, ok := s.ok && (decide (i < h.els.length) && ((x.cells.length == sz) && (decide (off + sz ≤ el.cells.length) && x.atoms))) }

def storeH (s : St) (k i sz off : Nat) (x : AV) : Option Hm → St
  | some h => storeEl s k i sz off x (h.els.getD i .any) h
  | none => fail s

def storeA (s : St) (sz : Nat) (x : AV) : AV → St
  | .ref k i off => storeH s k i sz off x (obGet k s.ob)
  | _ => fail s

structure Ap where
  ok : Bool
  sz : Nat
  els : List AV

def srcHm : Option Hm → Ap
  | some h => ⟨true, h.sz, h.els⟩
  | none => ⟨false, 0, []⟩

def appSrc (sz : Nat) (ob : Obs) : AV → Ap
  | .str l => ⟨sz == 1, sz, l.map byteAV⟩
  | .sl sz2 els => ⟨sz2 == sz, sz, els⟩
  | .nilsl => ⟨true, sz, []⟩
  | .own k => srcHm (obGet k ob)
  | _ => ⟨false, 0, []⟩

def appOwn (s : St) (key : Nat) (dst : Dst) (sz bytes : Nat) (y : Ap) (k : Nat) : Option Hm → St
  | some h => putD { s with vs := s.vs.map (AV.kill k), st := s.st.map (AV.kill k), ob := obSet k ⟨sz, h.els ++ y.els⟩ s.ob }
      ((h.sz == sz) && ((y.sz == sz) && (y.ok && appOk (h.els.length + y.els.length) bytes))) (.own k) dst
  | none => fail s

def appA (s : St) (key : Nat) (dst : Dst) (sz bytes : Nat) (y : Ap) : AV → St
  | .own k => appOwn s key dst sz bytes y k (obGet k s.ob)
  | .nilsl => putM s key dst ⟨(y.sz == sz) && (y.ok && appOk y.els.length bytes), .own (keyOf key), [(keyOf key, ⟨sz, y.els⟩)]⟩
  | _ => fail s

/-- Which blocks must not change any more ahead of an operation. -/
def freezeKeys (s : St) : AOp → List Nat
  | .box x => (rd s x).keys
  | .build _ ps => ps.flatMap fun p => (rd s p.2.2).keys
  | .mkSl _ _ _ ps => ps.flatMap fun p => (rd s p.2).keys
  | .store _ _ x => (rd s x).keys
  | .slice _ x _ _ => (rd s x).keys
  | _ => []

/-- A value that can stand behind a guard. -/
def AV.lone : AV → Bool
  | .int _ _ => true
  | .bool _ => true
  | .str _ => true
  | .nilsl => true
  | .sl _ _ => true
  | .ptr _ _ _ _ => true
  | .agg _ => true
  | .own _ => true
  | .ref _ _ _ => true
  | .cv _ => true
  | .any => true
  | .fn _ fi ca => (fi ++ ca).all (fun a => a.key1.isEmpty)
  | .tup _ => false
  | .fresh _ _ => false
  | .mem _ _ _ => false
  | .opt _ _ => false

/-- A call that gives a value and makes no block. -/
def pureM (m : Mk) : Mk := ⟨m.ok && (m.hs.isEmpty && m.v.lone), m.v, []⟩

/-- The operands of an operation that may stand behind a guard. -/
def opsOf : AOp → List Src
  | .box x => [x]
  | .build _ ps => ps.map fun p => p.2.2
  | .mkSl _ _ _ ps => ps.map fun p => p.2
  | .s2b x => [x]
  | .make _ _ _ l c => [l, c]
  | .mov x => [x]
  | .load _ _ p => [p]
  | .nilck x => [x]
  | .bin _ _ x y => [x, y]
  | .eqA _ _ x y => [x, y]
  | .un _ x => [x]
  | .conv _ x => [x]
  | .b2s x => [x]
  | .slice _ x lo hi => x :: (lo.toList ++ hi.toList)
  | .fldAddr _ p => [p]
  | .fld _ _ _ x => [x]
  | .ixAddr _ x i => [x, i]
  | .ixStr x i => [x, i]
  | .ext x _ => [x]
  | .len _ x => [x]
  | .minmax _ xs => xs
  | .call _ args => args
  | .callv f args => f :: args
  | .trunc _ x hi => [x, hi]
  | .movz x => [x]
  | _ => []

def canGuard : AOp → Bool
  | .alloc _ => true
  | .box _ => true
  | .build _ _ => true
  | .mkSl _ _ _ _ => true
  | .s2b _ => true
  | .make _ _ _ _ _ => true
  | .mov _ => true
  | .load _ _ _ => true
  | .nilck _ => true
  | .bin _ _ _ _ => true
  | .eqA _ _ _ _ => true
  | .un _ _ => true
  | .conv _ _ => true
  | .b2s _ => true
  | .slice _ _ _ _ => true
  | .fldAddr _ _ => true
  | .fld _ _ _ _ => true
  | .ixAddr _ _ _ => true
  | .ixStr _ _ => true
  | .ext _ _ => true
  | .len _ _ => true
  | .minmax _ _ => true
  | .call _ _ => true
  | .callv _ _ => true
  | _ => false

/-- An operation that gives a value and makes no block that is ever changed. -/
def purOp (T : Tbl) (s : St) (key : Nat) : AOp → Mk
  | .call f args => pureM (doCallG T s.ob ⟨true, f, args.map (rd s)⟩)
  | .callv f args => pureM (doCallG T s.ob (calleeV (args.map (rd s)) (rd s f)))
  | op => bif canGuard op then pureM (frzM (stillOp (rd s) s.ob key op)) else bad

def scalA : AV → Bool
  | .int _ _ => true
  | .bool _ => true
  | .str _ => true
  | .cv _ => false
  | .agg _ => false
  | .tup _ => false
  | .sl _ _ => false
  | .nilsl => false
  | .ptr _ _ _ _ => false
  | .fn _ _ _ => false
  | .own _ => false
  | .ref _ _ _ => false
  | .fresh _ _ => false
  | .mem _ _ _ => false
  | .opt _ _ => false
  | .any => false

/-- An operation that reads scalars alone. -/
def flat0 (T : Tbl) (r : Src → AV) (key : Nat) : AOp → Mk
  | .callp f args => pureM (doCallG T [] ⟨true, f, args.map r⟩)
  | .pur (.slice sz x lo hi) => pureM (frzM (stillOp r [] key (.slice sz x lo hi)))
  | .mov x => stillOp r [] key (.mov x)
  | .bin bl op x y => stillOp r [] key (.bin bl op x y)
  | .un op x => stillOp r [] key (.un op x)
  | .conv k x => stillOp r [] key (.conv k x)
  | .ixStr x i => stillOp r [] key (.ixStr x i)
  | .len st x => stillOp r [] key (.len st x)
  | _ => bad

def flatSrc : AOp → List Src
  | .callp _ args => args
  | .pur a => opsOf a
  | a => opsOf a

def flatG (b : Bool) (m : Mk) : Mk := bif b && (m.hs.isEmpty && scalA m.v) then ⟨m.ok, m.v, []⟩ else bad

/-- A slice of the first elements of a block of the frame's own. -/
def truncH (s : St) (dst : Dst) (sz : Nat) (n : Int) (k : Nat) : Option Hm → St
  | some h => putD { s with vs := s.vs.map (AV.kill k), st := s.st.map (AV.kill k), ob := obSet k ⟨h.sz, h.els.take n.toNat⟩ s.ob }
      ((h.sz == sz) && ((!(k % 32 == 31)) && cutOk 0 n h.els.length)) (.own k) dst
  | none => fail s

def truncA (s : St) (dst : Dst) (sz : Nat) (n : Int) : AV → St
  | .own k => truncH s dst sz n k (obGet k s.ob)
  | _ => fail s

/-- Operations that only read. -/
def isRead0 : AOp → Bool
  | .mov _ => true
  | .load _ _ _ => true
  | .nilck _ => true
  | .bin _ _ _ _ => true
  | .eqA _ _ _ _ => true
  | .un _ _ => true
  | .conv _ _ => true
  | .b2s _ => true
  | .mkFn _ _ _ => true
  | .fldAddr _ _ => true
  | .fld _ _ _ _ => true
  | .ixAddr _ _ _ => true
  | .ixStr _ _ => true
  | .ext _ _ => true
  | .len _ _ => true
  | .minmax _ _ => true
  | _ => false

/-- What an operation that only reads gives. -/
def purR (T : Tbl) (r : Src → AV) (ob : Obs) (key : Nat) : AOp → Mk
  | .call f args => pureM (doCallG T ob ⟨true, f, args.map r⟩)
  | .callv f args => pureM (doCallG T ob (calleeV (args.map r) (r f)))
  | op => bif canGuard op then pureM (frzM (stillOp r ob key op)) else bad

def safe0 (T : Tbl) (r : Src → AV) (ob : Obs) (key : Nat) : AOp → Mk
  | .pur (.callv _ _) => bad
  | .pur a => purR T r ob key a
  | .pick c a b => pickM true (r a) (r b) (r c)
  | .callp f args => pureM (doCallG T ob ⟨true, f, args.map r⟩)
  | op => bif isRead0 op then stillOp r ob key op else bad

def safeSrc : AOp → List Src
  | .mkFn _ fi ca => fi ++ ca
  | .pick c a b => [c, a, b]
  | .callp _ args => args
  | .pur a => opsOf a
  | a => opsOf a

def isAny : AV → Bool
  | .any => true
  | .int _ _ => false
  | .bool _ => false
  | .str _ => false
  | .cv _ => false
  | .agg _ => false
  | .tup _ => false
  | .sl _ _ => false
  | .nilsl => false
  | .ptr _ _ _ _ => false
  | .fn _ _ _ => false
  | .own _ => false
  | .ref _ _ _ => false
  | .fresh _ _ => false
  | .mem _ _ _ => false
  | .opt _ _ => false

/-- The value is known, and names no block that one of the operations ds makes. -/
def offA (ds : List Nat) (a : AV) : Bool := !isAny a && !a.keys.any (fun k => ds.any (· == k / 32))

def clrObs : List Nat → Obs → Obs
  | [], ob => ob
  | d :: r, ob => clrObs r (clrOb d ob)

def safeG (b : Bool) (ds : List Nat) (m : Mk) : Mk := bif b && (m.hs.isEmpty && offA ds m.v) then ⟨m.ok, m.v, []⟩ else bad

def safeM (T : Tbl) (r : Src → AV) (ob : Obs) (key : Nat) (ds : List Nat) (a : AOp) : Mk := safeG ((safeSrc a).all fun x => offA ds (r x)) ds (safe0 T r (clrObs ds ob) key a)

/-- One operation without a guard; the blocks that must not change any more are frozen. -/
def doOp (T : Tbl) (s : St) (key : Nat) (dst : Dst) : AOp → St
  | .store sz p x => storeA (freezeAll s (rd s x).keys) sz (rd (freezeAll s (rd s x).keys) x) (rd (freezeAll s (rd s x).keys) p)
  | .app sz bytes _ a x => appA s key dst sz bytes (appSrc sz s.ob (rd s x)) (rd s a)
  | .call f args => doCall T s key dst ⟨true, f, args.map (rd s)⟩
  | .callv f args => doCall T s key dst (calleeV (args.map (rd s)) (rd s f))
  | .callp f args => putM s key dst (pureM (doCallG T s.ob ⟨true, f, args.map (rd s)⟩))
  | .pur a => putM s key dst (purOp T s key a)
  | .callw _ _ => fail s
  | .flat a => putM s key dst (flatG ((flatSrc a).all fun x => scalA (rd s x)) (flat0 T (rd s) key a))
  | .trunc sz x hi => truncA s dst sz (idx (rd s hi)) (rd s x)
  | .movz x => putM (freezeAll s (rd s x).keys) key dst (stillOp (rd (freezeAll s (rd s x).keys)) (freezeAll s (rd s x).keys).ob key (.mov x))
  | .safe ds a => putM s key dst (safeM T (rd s) s.ob key ds a)
  | .pick c a b => putM s key dst (pickM true (rd s a) (rd s b) (rd s c))
  | .box x => putM (freezeAll s (rd s x).keys) key dst (boxA (keyOf key) (rd (freezeAll s (rd s x).keys) x))
  | .build z ps => putM (freezeAll s (freezeKeys s (.build z ps))) key dst (stillOp (rd (freezeAll s (freezeKeys s (.build z ps)))) (freezeAll s (freezeKeys s (.build z ps))).ob key (.build z ps))
  | .mkSl sz z n ps => putM (freezeAll s (freezeKeys s (.mkSl sz z n ps))) key dst (stillOp (rd (freezeAll s (freezeKeys s (.mkSl sz z n ps)))) (freezeAll s (freezeKeys s (.mkSl sz z n ps))).ob key (.mkSl sz z n ps))
  | .slice sz x lo hi => putM (freezeAll s (rd s x).keys) key dst (stillOp (rd (freezeAll s (rd s x).keys)) (freezeAll s (rd s x).keys).ob key (.slice sz x lo hi))
  | .mov x => putM s key dst (stillOp (rd s) s.ob key (.mov x))
  | .alloc z => putM s key dst (stillOp (rd s) s.ob key (.alloc z))
  | .newnil sz => putM s key dst (stillOp (rd s) s.ob key (.newnil sz))
  | .load agg sz p => putM s key dst (stillOp (rd s) s.ob key (.load agg sz p))
  | .nilck x => putM s key dst (stillOp (rd s) s.ob key (.nilck x))
  | .bin bl op x y => putM s key dst (stillOp (rd s) s.ob key (.bin bl op x y))
  | .eqA neg ks x y => putM s key dst (stillOp (rd s) s.ob key (.eqA neg ks x y))
  | .un op x => putM s key dst (stillOp (rd s) s.ob key (.un op x))
  | .conv k x => putM s key dst (stillOp (rd s) s.ob key (.conv k x))
  | .s2b x => putM s key dst (stillOp (rd s) s.ob key (.s2b x))
  | .b2s x => putM s key dst (stillOp (rd s) s.ob key (.b2s x))
  | .mkFn f fi ca => putM s key dst (stillOp (rd s) s.ob key (.mkFn f fi ca))
  | .make sz bytes z l c => putM s key dst (stillOp (rd s) s.ob key (.make sz bytes z l c))
  | .fldAddr off p => putM s key dst (stillOp (rd s) s.ob key (.fldAddr off p))
  | .fld agg off sz x => putM s key dst (stillOp (rd s) s.ob key (.fld agg off sz x))
  | .ixAddr sz x i => putM s key dst (stillOp (rd s) s.ob key (.ixAddr sz x i))
  | .ixStr x i => putM s key dst (stillOp (rd s) s.ob key (.ixStr x i))
  | .ext x i => putM s key dst (stillOp (rd s) s.ob key (.ext x i))
  | .len st x => putM s key dst (stillOp (rd s) s.ob key (.len st x))
  | .minmax mx xs => putM s key dst (stillOp (rd s) s.ob key (.minmax mx xs))

/-! ### Guards -/

def boolV : AV → Bool
  | .bool b => b
  | _ => false

def isBoolA : AV → Bool
  | .bool _ => true
  | _ => false

def gdV (want : Bool) : AV → Bool
  | .bool b => b == want
  | .opt c a => c && (boolV a == want)
  | _ => false

def gdOk : AV → Bool
  | .bool _ => true
  | .opt c a => !c || isBoolA a
  | _ => false

def rdu (s : St) : Src → AV
  | .v n => unopt (s.vs.getD n .any)
  | .s n => unopt (s.st.getD n .any)
  | .c a => a

def guarded (T : Tbl) (s : St) (w : Bool) (key : Nat) : AOp → Mk
  | .pick c a b => also (optOk w (rd s c)) (pickM w (rd s a) (rd s b) (rdu s c))
  | .call f args => also ((opsOf (.call f args)).all fun x => optOk w (rd s x)) (doCallG T s.ob ⟨true, f, args.map (rdu s)⟩)
  | .callv f args => also ((opsOf (.callv f args)).all fun x => optOk w (rd s x)) (doCallG T s.ob (calleeV (args.map (rdu s)) (rdu s f)))
  | op => also (canGuard op && (opsOf op).all fun x => optOk w (rd s x)) (frzM (stillOp (rdu s) s.ob key op))

def putG (s : St) (w : Bool) (dst : Dst) (m : Mk) : St := putD s (!w || (m.ok && (m.hs.isEmpty && m.v.lone))) (.opt w m.v) dst

/-- A call behind a guard that may write. -/
def insW (T : Tbl) (s : St) (key : Nat) (dst : Dst) (f : Nat) (args : List Src) (w : Bool) : St :=
  if w = true then doCall T s key dst ⟨args.all fun x => optOk true (rd s x), f, args.map (rdu s)⟩ else putG s false dst (just .any)

def insGG (T : Tbl) (s : St) (key : Nat) (dst : Dst) (w : Bool) : AOp → St
  | .callw f args => insW T s key dst f args w
  | op => putG s w dst (guarded T s w key op)

def insG (T : Tbl) (s : St) (key : Nat) (dst : Dst) (op : AOp) : Option (Src × Bool) → St
  | none => doOp T s key dst op
  | some g => insGG T { s with ok := s.ok && gdOk (rd s g.1) } key dst (gdV g.2 (rd s g.1)) op

def doIns (T : Tbl) (s : St) (i : Ins) : St := insG T s i.key i.dst i.op i.guard

/-- A statement: its operations one behind the other. -/
def doList (T : Tbl) : List Ins → St → St
  | [], s => s
  | i :: r, s => doList T r (doIns T s i)

def drop (s : St) : St := { s with st := [] }

/-- Only these variables go on, and the blocks that they name. -/
def keepTm : List Bool → List AV → List AV
  | true :: m, a :: r => a :: keepTm m r
  | false :: m, _ :: r => .any :: keepTm m r
  | _, _ => []

def keepOb (tm : List AV) : Obs → Obs
  | [] => []
  | p :: r => bif tm.any (fun a => a.names p.1) then p :: keepOb tm r else keepOb tm r

def keepB (m : List Bool) (s : St) : St := { vs := keepTm m s.vs, st := [], ob := keepOb (keepTm m s.vs) s.ob, ok := s.ok }

/-- The blocks get new keys, in the order in which the variables name them; those of parameters stay. -/
def ddp : List Nat → List Nat → List Nat
  | _, [] => []
  | seen, k :: r => bif seen.any (· == k) then ddp seen r else k :: ddp (k :: seen) r

def canKey (j x : Nat) : Nat := bif x % 32 == 31 then x else 32 * (100000 + j)

def rho : List Nat → Nat → Nat → Nat
  | [], _, k => k
  | x :: r, j, k => bif k == x then canKey j x else rho r (j + 1) k

def AV.re1 (π : Nat → Nat) : AV → AV
  | .own k => .own (π k)
  | .ref k i off => .ref (π k) i off
  | .int k n => .int k n
  | .bool b => .bool b
  | .str l => .str l
  | .cv v => .cv v
  | .agg cs => .agg cs
  | .tup cs => .tup cs
  | .sl sz els => .sl sz els
  | .nilsl => .nilsl
  | .ptr sz els i off => .ptr sz els i off
  | .fn f a b => .fn f a b
  | .fresh sz els => .fresh sz els
  | .mem sz els i => .mem sz els i
  | .opt b a => .opt b a
  | .any => .any

def AV.re (π : Nat → Nat) : AV → AV
  | .own k => .own (π k)
  | .ref k i off => .ref (π k) i off
  | .fn f fi ca => .fn f (fi.map (AV.re1 π)) (ca.map (AV.re1 π))
  | .tup cs => .tup (cs.map (AV.re1 π))
  | .opt b a => .opt b (a.re1 π)
  | .int k n => .int k n
  | .bool b => .bool b
  | .str l => .str l
  | .cv v => .cv v
  | .agg cs => .agg cs
  | .sl sz els => .sl sz els
  | .nilsl => .nilsl
  | .ptr sz els i off => .ptr sz els i off
  | .fresh sz els => .fresh sz els
  | .mem sz els i => .mem sz els i
  | .any => .any

def reOne (k : Nat) (r : Obs) : Option Hm → Obs
  | some h => obSet k h r
  | none => r

def reOb (π : Nat → Nat) (ob : Obs) : List Nat → Obs
  | [] => []
  | k :: r => reOne (π k) (reOb π ob r) (obGet k ob)

def canonK (s : St) (ks : List Nat) : St := { vs := s.vs.map (AV.re (rho ks 0)), st := [], ob := reOb (rho ks 0) s.ob ks, ok := s.ok }

def canonO (s : St) : Obs → St
  | [] => s
  | _ :: _ => canonK s (ddp [] (s.vs.flatMap AV.keys))

def canon (s : St) : St := canonO s s.ob

def keepS (m : List Bool) (s : St) : St := canon (keepB m s)

abbrev Res := Ex × St

def thenR (k : St → Res) : Res → Res
  | (.norm, s) => k s
  | (.exit id, s) => (.exit id, s)
  | (.ret, s) => (.ret, s)

def inBlk (id : Nat) : Res → Res
  | (.exit j, s) => bif j == id then (.norm, s) else (.exit j, s)
  | (.norm, s) => (.norm, s)
  | (.ret, s) => (.ret, s)

def condR (a b : St → Res) (s : St) : AV → Res
  | .bool c => if c = true then a s else b s
  | _ => (.norm, fail s)

def maskX (kp ot rt : List Bool) : Res → Res
  | (.norm, s) => (.norm, keepS kp s)
  | (.exit id, s) => (.exit id, keepS ot s)
  | (.ret, s) => (.ret, keepS rt s)

def maskN (m : List Bool) : Res → Res
  | (.norm, s) => (.norm, keepS m s)
  | (.exit id, s) => (.exit id, s)
  | (.ret, s) => (.ret, s)

def iter (f : St → Res) (kp ot rt : List Bool) : Nat → St → Res
  | 0, s => (.norm, fail s)
  | n + 1, s => thenR (iter f kp ot rt n) (maskX kp ot rt (f s))

def pickIs (is : List Ins) (l : List Nat) : List Ins := l.map fun i => is.getD i ⟨.no, 0, none, .mov (.c .any)⟩

/-- Each other order ends as the text's. -/
noncomputable def altsOk (T : Tbl) (is : List Ins) (s r : St) : List (List Nat) → Bool
  | [] => true
  | l :: rest => (@decide (doList T (pickIs is l) s = r) (Classical.propDecidable _)) && altsOk T is s r rest

def slots (k : Nat) (s : St) : St := { s with st := List.replicate k .any }

def andOk (s : St) (b : Bool) : St := { s with ok := s.ok && b }

/-- The operations in any order. -/
noncomputable def anyS (T : Tbl) (k : Nat) (is : List Ins) (alts : List (List Nat)) (s : St) : St :=
  andOk (doList T is (slots k s)) (altsOk T is (slots k s) (doList T is (slots k s)) alts)

def testR (c : Src) (a b : St → Res) (s : St) : Res := condR a b (drop s) (rd s c)

noncomputable def exec (T : Tbl) (L : Nat) : IR → St → Res
  | .skip, s => (.norm, s)
  | .region _ is, s => (.norm, drop (doList T is s))
  | .test _ is c a b, s => testR c (exec T L a) (exec T L b) (doList T is s)
  | .anyo k is alts .skip, s => (.norm, drop (anyS T k is alts s))
  | .anyo k is alts (.cond c a b), s => testR c (exec T L a) (exec T L b) (anyS T k is alts s)
  | .anyo _ _ _ _, s => (.norm, fail s)
  | .seq a b, s => thenR (exec T L b) (exec T L a s)
  | .cond c a b, s => condR (exec T L a) (exec T L b) s (rd s c)
  | .block id a, s => inBlk id (exec T L a s)
  | .loop keep out rt a, s => iter (exec T L a) keep out rt L (keepS keep s)
  | .mask m a, s => maskN m (exec T L a s)
  | .exit id, s => (.exit id, s)
  | .ret, s => (.ret, s)

/-! ### A whole call -/

def paramKey (j : Nat) : Nat := 32 * j + 31

def initTm : Nat → List AV → List AV
  | _, [] => []
  | j, .fresh _ _ :: r => .own (paramKey j) :: initTm (j + 1) r
  | j, .mem _ _ i :: r => .ref (paramKey j) i 0 :: initTm (j + 1) r
  | j, x :: r => x :: initTm (j + 1) r

def initOb : Nat → List AV → Obs
  | _, [] => []
  | j, .fresh sz els :: r => (paramKey j, ⟨sz, els⟩) :: initOb (j + 1) r
  | j, .mem sz els _ :: r => (paramKey j, ⟨sz, els⟩) :: initOb (j + 1) r
  | j, _ :: r => initOb (j + 1) r

def initSt (nv : Nat) (args : List AV) : St := { vs := initTm 0 args ++ List.replicate (nv - args.length) .any, st := [], ob := initOb 0 args, ok := true }

def resCell (ob : Obs) (agg : Bool) (sz : Nat) : AV → Mk
  | .ref k i off => loadH agg sz i off (obGet k ob)
  | _ => bad

def resOf (s : St) : RSrc → Mk
  | .t n => just (s.vs.getD n .any)
  | .cell agg sz p => resCell s.ob agg sz (s.vs.getD p .any)

/-- A result as it is handed back: a block of the frame's own goes over whole. -/
def giveHm : Option Hm → Mk
  | some h => just (.fresh h.sz h.els)
  | none => bad

def giveRf (i off : Nat) : Option Hm → Mk
  | some h => when ((i == 0) && ((off == 0) && (h.els.length == 1))) (.mem h.sz h.els 0)
  | none => bad

def giveOne (ob : Obs) : AV → Mk
  | .own k => giveHm (obGet k ob)
  | .ref k i off => giveRf i off (obGet k ob)
  | .tup _ => bad
  | .any => bad
  | .fresh _ _ => bad
  | .mem _ _ _ => bad
  | .opt _ _ => bad
  | .fn f a b => when ((a ++ b).all (fun x => x.key1.isEmpty)) (.fn f a b)
  | .int k n => just (.int k n)
  | .bool b => just (.bool b)
  | .str l => just (.str l)
  | .cv v => just (.cv v)
  | .agg cs => just (.agg cs)
  | .sl sz els => just (.sl sz els)
  | .nilsl => just .nilsl
  | .ptr sz els i off => just (.ptr sz els i off)

def frzR : AV → AV
  | .fresh sz els => .sl sz els
  | .mem sz els _ => .ptr sz els 0 0
  | a => a
def frzRs : AV → AV
  | .tup cs => .tup (cs.map frzR)
  | a => frzR a
/-- The results, never to be changed. -/
def frzQ (q : Rs) : Rs := ⟨q.ok, frzRs q.r, q.outs⟩

def isMem : AV → Bool
  | .mem _ _ _ => true
  | _ => false

def backHm (m : Bool) (n : Nat) : Option Hm → Mk
  | some h => when (h.els.length == n) (bif m then .mem h.sz h.els 0 else .fresh h.sz h.els)
  | none => bad

def elsLen : AV → Nat
  | .fresh _ els => els.length
  | .mem _ els _ => els.length
  | _ => 0

def backOne (ob : Obs) (j : Nat) (a : AV) : Md → Mk
  | .io => backHm (isMem a) (elsLen a) (obGet (paramKey j) ob)
  | .bor => just .any
  | .mov => just .any

def backL (ob : Obs) : List Md → Nat → List AV → List Mk
  | m :: ms, j, a :: r => backOne ob j a m :: backL ob ms (j + 1) r
  | _, _, _ => []

def ioParams : List Md → Nat → List Nat
  | .io :: ms, j => paramKey j :: ioParams ms (j + 1)
  | .bor :: ms, j => ioParams ms (j + 1)
  | .mov :: ms, j => ioParams ms (j + 1)
  | [], _ => []

def packR : List AV → AV
  | [a] => a
  | [] => .cv undef
  | a :: b :: r => .tup (a :: b :: r)

/-- The blocks that go over, each once, and none that is handed back to the caller. -/
def givenOk (modes : List Md) (rs : List AV) : Bool :=
  distinct (rs.flatMap AV.key1) && apart (rs.flatMap AV.key1) (ioParams modes 0)

def fin1 (s : St) (modes : List Md) (args : List AV) (ms : List Mk) : Rs :=
  ⟨s.ok && (ms.all (·.ok) && (givenOk modes (ms.map (·.v)) && (((ms.map (·.v)).map (giveOne s.ob)).all (·.ok) && (backL s.ob modes 0 args).all (·.ok)))),
    packR (((ms.map (·.v)).map (giveOne s.ob)).map (·.v)), (backL s.ob modes 0 args).map (·.v)⟩

def finish (fn : AFn) (modes : List Md) (args : List AV) : Res → Rs
  | (.exit _, _) => Rs.bad
  | (.norm, s) => fin1 s modes args (fn.res.map (resOf s))
  | (.ret, s) => fin1 s modes args (fn.res.map (resOf s))

def fits (fn : AFn) (modes : List Md) (args : List AV) : Bool := shapes modes args && ((args.length == fn.np) && (modes.length == fn.np))

def chkR (c : Bool) (r : Rs) : Rs := ⟨c && r.ok, r.r, r.outs⟩

/-- The function's text, run without memory. -/
noncomputable def runF (T : Tbl) (L : Nat) (fn : AFn) (modes : List Md) (args : List AV) : Rs :=
  chkR (fits fn modes args) (finish fn modes args (exec T L fn.body (initSt fn.nv args)))

end Go.Proofs.YtbobhejdijcofaaGreatDoor
