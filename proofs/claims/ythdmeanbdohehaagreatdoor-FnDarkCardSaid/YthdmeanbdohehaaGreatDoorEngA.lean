/- The abstract machine: values without memory, a small code, and its interpreter, which is total: what cannot be run turns the flag ok off. Definitions only; no condition. -/
import Derived.Calls
import Derived.KernelRfl
import Derived.Attr
namespace Go.Proofs.YthdmeanbdohehaaGreatDoor
open Go
set_option linter.unusedVariables false
inductive AV where
 | int (k : IntKind) (n : Int)
 | bool (b : Bool)
 | str (l : List UInt8)
 | cv (v : Value)
 | agg (cs : List AV)
 | tup (cs : List AV)
 | sl (sz : Nat) (els : List AV)
 | nilsl
 | ptr (sz : Nat) (els : List AV) (i off : Nat)
 | fn (f : Fn) (first caps : List AV)
 | own (k : Nat)
 | ref (k i off : Nat)
 | fresh (sz : Nat) (els : List AV)
 | mem (sz : Nat) (els : List AV) (ix : Nat)
 | opt (b : Bool) (a : AV)
 | any
 deriving Inhabited
def Xr : List (Nat × (Array Value → Prop)) :=
 (1, fun cs => cs = ((List.range 20).map fun i => Value.int .u64 ((10 ^ i : Nat) : Int)).toArray) ::
 (2, fun cs => ∃ tp p, cs = #[.iface tp p]) ::
 (3, fun cs => ∃ tp p, cs = #[.iface tp p]) ::
 (0, fun cs => ∃ m, cs = #[.int .i64 m]) ::
 []
structure Hm where
 sz : Nat
 els : List AV
 deriving Inhabited
abbrev CC := List (Nat × Hm)
structure St where
 vs : List AV
 st : List AV
 ob : CC
 ok : Bool
 deriving Inhabited
inductive CA where
 | v (n : Nat)
 | s (n : Nat)
 | c (a : AV)
 deriving Inhabited
inductive Md where
 | bor | io | mov
 deriving DecidableEq, Inhabited
structure Rs where
 ok : Bool
 r : AV
 outs : List AV
 deriving Inhabited
def Rs.bad : Rs := ⟨false, .any, []⟩
structure Bf where
 modes : List Md
 flat : Bool
 F : List AV → Rs
abbrev GW := Nat → Option Bf
inductive GO where
 | mov (x : CA)
 | newnil (sz : Nat)
 | pick (c a b : CA)
 | alloc (z : AV)
 | box (x : CA)
 | build (z : List AV) (parts : List (Nat × Nat × CA))
 | mkSl (sz : Nat) (z : AV) (n : Nat) (parts : List (Nat × CA))
 | load (agg : Bool) (sz : Nat) (p : CA)
 | store (sz : Nat) (p x : CA)
 | nilck (x : CA)
 | bin (bl : Bool) (op : BinOp) (x y : CA)
 | eqA (neg : Bool) (ks : List Nat) (x y : CA)
 | un (op : UnOp) (x : CA)
 | conv (k : IntKind) (x : CA)
 | s2b (x : CA)
 | b2s (x : CA)
 | mkFn (f : Fn) (first caps : List CA)
 | make (sz bytes : Nat) (z : AV) (len cap : CA)
 | slice (sz : Nat) (x : CA) (lo hi : Option CA)
 | fldAddr (off : Nat) (p : CA)
 | fld (agg : Bool) (off sz : Nat) (x : CA)
 | ixAddr (sz : Nat) (x i : CA)
 | ixStr (x i : CA)
 | ext (x : CA) (i : Nat)
 | call (f : Nat) (args : List CA)
 | callp (f : Nat) (args : List CA)
 | callv (f : CA) (args : List CA)
 | len (str : Bool) (x : CA)
 | app (sz bytes : Nat) (z : AV) (s x : CA)
 | minmax (mx : Bool) (xs : List CA)
 | pur (a : GO)
 | callw (f : Nat) (args : List CA)
 | flat (a : GO)
 | trunc (sz : Nat) (x hi : CA)
 | movz (x : CA)
 | safe (ds : List Nat) (a : GO)
 deriving Inhabited
inductive Fh where
 | no | push | var (n : Nat) | slot (n : Nat)
 deriving DecidableEq, Inhabited
structure Hx where
 dst : Fh
 key : Nat
 guard : Option (CA × Bool)
 op : GO
 deriving Inhabited
inductive IR where
 | skip
 | region (draw : Bool) (is : List Hx)
 | test (draw : Bool) (is : List Hx) (c : CA) (a b : IR)
 | anyo (k : Nat) (is : List Hx) (alts : List (List Nat)) (a : IR)
 | seq (a b : IR)
 | cond (c : CA) (a b : IR)
 | block (id : Nat) (a : IR)
 | loop (keep out rt : List Bool) (a : IR)
 | mask (m : List Bool) (a : IR)
 | exit (id : Nat)
 | ret
 deriving Inhabited
inductive Ex where
 | norm | exit (id : Nat) | ret
 deriving DecidableEq, Inhabited
inductive fC where
 | t (n : Nat)
 | cell (agg : Bool) (sz : Nat) (p : Nat)
 deriving Inhabited
structure EL where
 np : Nat
 nv : Nat
 body : IR
 res : List fC
 deriving Inhabited
def AV.cells : AV → List AV
 | .agg cs => cs
 | .int k n => [.int k n]
 | .bool b => [.bool b]
 | .str l => [.str l]
 | .cv v => [.cv v]
 | .tup cs => [.tup cs]
 | .sl sz els => [.sl sz els]
 | .nilsl => [.nilsl]
 | .ptr sz els i off => [.ptr sz els i off]
 | .fn f a b => [.fn f a b]
 | .own k => [.own k]
 | .ref k i off => [.ref k i off]
 | .fresh sz els => [.fresh sz els]
 | .mem sz els i => [.mem sz els i]
 | .opt b a => [.opt b a]
 | .any => [.any]
def AV.isAgg : AV → Bool
 | .agg _ => true
 | _ => false
def rd (s : St) : CA → AV
 | .v n => s.vs.getD n .any
 | .s n => s.st.getD n .any
 | .c a => a
def AL (k : Nat) : CC → Option Hm
 | [] => none
 | p :: r => bif p.1 == k then some p.2 else AL k r
def CD (k : Nat) (h : Hm) : CC → CC
 | [] => [(k, h)]
 | p :: r => bif p.1 == k then (k, h) :: r else bif decide (k < p.1) then (k, h) :: p :: r else p :: CD k h r
def Gq (k : Nat) : CC → CC
 | [] => []
 | p :: r => bif p.1 == k then Gq k r else p :: Gq k r
def AV.key1 : AV → List Nat
 | .own k => [k]
 | .ref k _ _ => [k]
 | .int _ _ => []
 | .bool _ => []
 | .str _ => []
 | .cv _ => []
 | .agg _ => []
 | .tup _ => []
 | .sl _ _ => []
 | .nilsl => []
 | .ptr _ _ _ _ => []
 | .fn _ _ _ => []
 | .fresh _ _ => []
 | .mem _ _ _ => []
 | .opt _ _ => []
 | .any => []
def AV.keys : AV → List Nat
 | .own k => [k]
 | .ref k _ _ => [k]
 | .fn _ fi ca => (fi ++ ca).flatMap AV.key1
 | .tup cs => cs.flatMap AV.key1
 | .opt _ a => a.key1
 | .int _ _ => []
 | .bool _ => []
 | .str _ => []
 | .cv _ => []
 | .agg _ => []
 | .sl _ _ => []
 | .nilsl => []
 | .ptr _ _ _ _ => []
 | .fresh _ _ => []
 | .mem _ _ _ => []
 | .any => []
def AV.names (k : Nat) (a : AV) : Bool := a.keys.any (· == k)
def AV.kill (k : Nat) (a : AV) : AV := bif a.names k then .any else a
def AV.fz1 (k : Nat) (h : Hm) : AV → AV
 | .own j => bif j == k then .sl h.sz h.els else .own j
 | .ref j i off => bif j == k then .ptr h.sz h.els i off else .ref j i off
 | .int k n => .int k n
 | .bool b => .bool b
 | .str l => .str l
 | .cv v => .cv v
 | .agg cs => .agg cs
 | .tup cs => .tup cs
 | .sl sz els => .sl sz els
 | .nilsl => .nilsl
 | .ptr sz els i off => .ptr sz els i off
 | .fn f a b => .fn f a b
 | .fresh sz els => .fresh sz els
 | .mem sz els i => .mem sz els i
 | .opt b a => .opt b a
 | .any => .any
def AV.fz (k : Nat) (h : Hm) : AV → AV
 | .own j => bif j == k then .sl h.sz h.els else .own j
 | .ref j i off => bif j == k then .ptr h.sz h.els i off else .ref j i off
 | .fn f fi ca => .fn f (fi.map (AV.fz1 k h)) (ca.map (AV.fz1 k h))
 | .tup cs => .tup (cs.map (AV.fz1 k h))
 | .opt b a => .opt b (a.fz1 k h)
 | .int k n => .int k n
 | .bool b => .bool b
 | .str l => .str l
 | .cv v => .cv v
 | .agg cs => .agg cs
 | .sl sz els => .sl sz els
 | .nilsl => .nilsl
 | .ptr sz els i off => .ptr sz els i off
 | .fresh sz els => .fresh sz els
 | .mem sz els i => .mem sz els i
 | .any => .any
def freezeH (s : St) (k : Nat) : Option Hm → St
 | some h => { s with vs := s.vs.map (AV.fz k h), st := s.st.map (AV.fz k h), ob := Gq k s.ob }
 | none => s
def freezeAll (s : St) : List Nat → St
 | [] => s
 | k :: r => freezeAll (freezeH s k (AL k s.ob)) r
def fk : Option Hm → AV
 | some h => .sl h.sz h.els
 | none => .any
def YL (i off : Nat) : Option Hm → AV
 | some h => .ptr h.sz [h.els.getD i .any] 0 off
 | none => .any
def AV.dv1 (ob : CC) : AV → AV
 | .own k => fk (AL k ob)
 | .ref k i off => YL i off (AL k ob)
 | .int k n => .int k n
 | .bool b => .bool b
 | .str l => .str l
 | .cv v => .cv v
 | .agg cs => .agg cs
 | .tup cs => .tup cs
 | .sl sz els => .sl sz els
 | .nilsl => .nilsl
 | .ptr sz els i off => .ptr sz [els.getD i .any] 0 off
 | .fn f a b => .fn f a b
 | .fresh _ _ => .any
 | .mem _ _ _ => .any
 | .opt _ _ => .any
 | .any => .any
def AV.dv (ob : CC) : AV → AV
 | .own k => fk (AL k ob)
 | .ref k i off => YL i off (AL k ob)
 | .fn f fi ca => .fn f (fi.map (AV.dv1 ob)) (ca.map (AV.dv1 ob))
 | .int k n => .int k n
 | .bool b => .bool b
 | .str l => .str l
 | .cv v => .cv v
 | .agg cs => .agg cs
 | .tup _ => .any
 | .sl sz els => .sl sz els
 | .nilsl => .nilsl
 | .ptr sz els i off => .ptr sz [els.getD i .any] 0 off
 | .fresh _ _ => .any
 | .mem _ _ _ => .any
 | .opt _ _ => .any
 | .any => .any
def AV.atom : AV → Bool
 | .int _ _ => true
 | .bool _ => true
 | .str _ => true
 | .nilsl => true
 | .sl _ _ => true
 | .ptr _ _ _ _ => true
 | .fn _ fi ca => (fi ++ ca).all (fun a => a.key1.isEmpty)
 | .cv _ => false
 | .agg _ => false
 | .tup _ => false
 | .own _ => false
 | .ref _ _ _ => false
 | .fresh _ _ => false
 | .mem _ _ _ => false
 | .opt _ _ => false
 | .any => false
def AV.simple : AV → Bool
 | .int _ _ => true
 | .bool _ => true
 | .str _ => true
 | .nilsl => true
 | .sl _ _ => true
 | .ptr _ _ _ _ => true
 | .agg _ => true
 | .own _ => true
 | .ref _ _ _ => true
 | .fn _ _ _ => false
 | .cv _ => false
 | .tup _ => false
 | .fresh _ _ => false
 | .mem _ _ _ => false
 | .opt _ _ => false
 | .any => false
def AV.atoms (a : AV) : Bool := a.cells.all AV.atom
structure Mk where
 ok : Bool
 v : AV
 hs : CC
 deriving Inhabited
def bad : Mk := ⟨false, .any, []⟩
def Ca (a : AV) : Mk := ⟨true, a, []⟩
def Dy (c : Bool) (a : AV) : Mk := ⟨c, a, []⟩
def part (agg : Bool) (sz off : Nat) (el : AV) : Mk :=
 match agg with
 | true => ⟨el.isAgg && decide (off + sz ≤ el.cells.length), bif off == 0 && sz == el.cells.length then el else .agg ((el.cells.drop off).take sz), []⟩
 | false => ⟨decide (off < el.cells.length), el.cells.getD off .any, []⟩
def Cn : List AV → Nat → List AV → List AV
 | cs, _, [] => cs
 | cs, off, x :: r => Cn (cs.set off x) (off + 1) r
def AV.like : AV → List AV → AV
 | .agg _, cs => .agg cs
 | _, [x] => x
 | _, _ => .any
def FY : AV → AV
 | .opt _ a => a
 | .int k n => .int k n
 | .bool b => .bool b
 | .str l => .str l
 | .cv v => .cv v
 | .agg cs => .agg cs
 | .tup cs => .tup cs
 | .sl sz els => .sl sz els
 | .nilsl => .nilsl
 | .ptr sz els i off => .ptr sz els i off
 | .fn f a b => .fn f a b
 | .own k => .own k
 | .ref k i off => .ref k i off
 | .fresh sz els => .fresh sz els
 | .mem sz els i => .mem sz els i
 | .any => .any
def CQ (w : Bool) : AV → Bool
 | .opt b _ => !w || b
 | .int _ _ => true
 | .bool _ => true
 | .str _ => true
 | .cv _ => true
 | .agg _ => true
 | .tup _ => true
 | .sl _ _ => true
 | .nilsl => true
 | .ptr _ _ _ _ => true
 | .fn _ _ _ => true
 | .own _ => true
 | .ref _ _ _ => true
 | .fresh _ _ => true
 | .mem _ _ _ => true
 | .any => true
def Ta (c : Bool) : AV → AV → AV
 | .bool p, .bool q => .bool (bif c then p else q)
 | .int k p, .int j q => bif k == j then .int k (bif c then p else q) else .any
 | .str p, .str q => .str (bif c then p else q)
 | x, y => bif c then x else y
def IQ (w : Bool) (a b : AV) : AV → Mk
 | .bool c => Dy (CQ (w && c) a && CQ (w && !c) b) (Ta c (FY a) (FY b))
 | _ => bad
def nz (y : Int) : Bool := !(y == 0)
def Kg (y : Int) : Bool := decide (0 ≤ y)
def Es (m n : Nat) : Bool := decide (m + n ≤ 9223372036854775807)
def Cr (n b : Nat) : Bool := decide (n * b ≤ 140737488355328)
def mR (n : Int) (b : Nat) : Bool := decide (0 ≤ n) && (decide (1 ≤ b) && decide (n * b ≤ 281474976710656))
def If (op : BinOp) (k : IntKind) (x y : Int) : Mk :=
 match op with
 | .add => Ca (.int k (k.wrap (x + y)))
 | .sub => Ca (.int k (k.wrap (x - y)))
 | .mul => Ca (.int k (k.wrap (x * y)))
 | .quo => Dy (nz y) (.int k (k.wrap (x.tdiv y)))
 | .rem => Dy (nz y) (.int k (x.tmod y))
 | .and => Ca (.int k (k.wrap (BitVec.ofInt k.bits x &&& BitVec.ofInt k.bits y).toNat))
 | .or => Ca (.int k (k.wrap (BitVec.ofInt k.bits x ||| BitVec.ofInt k.bits y).toNat))
 | .xor => Ca (.int k (k.wrap (BitVec.ofInt k.bits x ^^^ BitVec.ofInt k.bits y).toNat))
 | .andNot => Ca (.int k (k.wrap (BitVec.ofInt k.bits x &&& ~~~BitVec.ofInt k.bits y).toNat))
 | .eql => Ca (.bool (x == y))
 | .neq => Ca (.bool (!(x == y)))
 | .lss => Ca (.bool (decide (x < y)))
 | .leq => Ca (.bool (decide (x ≤ y)))
 | .gtr => Ca (.bool (decide (y < x)))
 | .geq => Ca (.bool (decide (y ≤ x)))
 | .shl => bad
 | .shr => bad
def Oy (op : BinOp) (x y : List UInt8) : Mk :=
 match op with
 | .add => Dy (Es x.length y.length) (.str (x ++ y))
 | .eql => Ca (.bool (x == y))
 | .neq => Ca (.bool (!(x == y)))
 | .lss => Ca (.bool (Op.bytesLess x y))
 | .leq => Ca (.bool (Op.bytesLess x y || x == y))
 | .gtr => Ca (.bool (!(Op.bytesLess x y || x == y)))
 | .geq => Ca (.bool (!Op.bytesLess x y))
 | _ => bad
def Vy (op : BinOp) (x y : Bool) : Mk :=
 match op with
 | .eql => Ca (.bool (x == y))
 | .neq => Ca (.bool (!(x == y)))
 | _ => bad
def oC (op : BinOp) (k : IntKind) (x y : Int) : Mk :=
 match op with
 | .shl => Dy (Kg y) (.int k (k.wrap (x * 2 ^ (min y.toNat k.bits))))
 | .shr => Dy (Kg y) (.int k (x.fdiv (2 ^ (min y.toNat k.bits))))
 | _ => bad
def uM : BinOp → Bool
 | .shl => true
 | .shr => true
 | _ => false
def EU (c : Bool) (m : Mk) : Mk := ⟨c && m.ok, m.v, m.hs⟩
def UY (bl : Bool) (op : BinOp) : AV → AV → Mk
 | .int k x, .int j y => bif uM op then oC op k x y else EU (k == j) (If op k x y)
 | .str x, .str y => Oy op x y
 | .bool x, .bool y => EU bl (Vy op x y)
 | _, _ => bad
def oM : AV → AV → Bool
 | .int _ x, .int _ y => x == y
 | .bool x, .bool y => x == y
 | .str x, .str y => x == y
 | _, _ => false
def Vp (n : Nat) : AV → AV → Bool
 | .int k _, .int j _ => (n == 1) && (k == j)
 | .bool _, .bool _ => n == 0
 | .str _, .str _ => n == 2
 | _, _ => false
def HX : List AV → List AV → Bool
 | a :: r, b :: q => oM a b && HX r q
 | _, _ => true
def FQ : List Nat → List AV → List AV → Bool
 | n :: ns, a :: r, b :: q => Vp n a b && FQ ns r q
 | [], [], [] => true
 | _, _, _ => false
def LF (neg : Bool) (ks : List Nat) : AV → AV → Mk
 | .agg a, .agg b => Dy (FQ ks a b) (.bool (bif neg then !HX a b else HX a b))
 | _, _ => bad
def lV (op : UnOp) : AV → Mk
 | .int k n => match op with
  | .neg => Ca (.int k (k.wrap (0 - n)))
  | _ => bad
 | .bool b => match op with
  | .not => Ca (.bool (!b))
  | _ => bad
 | _ => bad
def Cc (c : UInt8) : AV := .int .u8 (c.toNat : Int)
def KQ : AV → UInt8
 | .int _ n => UInt8.ofNat n.toNat
 | _ => 0
def FD : AV → Bool
 | .int .u8 _ => true
 | _ => false
def Un : AV → Int
 | .int _ n => n
 | _ => -1
def BB (i : Int) (n : Nat) : Bool := decide (0 ≤ i) && decide (i < (n : Int))
def YT (agg : Bool) (sz i off : Nat) : Option Hm → Mk
 | some h => part agg sz off (h.els.getD i .any)
 | none => bad
def Il (ob : CC) (agg : Bool) (sz : Nat) : AV → Mk
 | .ref k i off => YT agg sz i off (AL k ob)
 | .ptr _ els i off => part agg sz off (els.getD i .any)
 | _ => bad
def JC : AV → Mk
 | .ref k i off => Ca (.ref k i off)
 | .ptr sz els i off => Ca (.ptr sz els i off)
 | .fn (.func f) a b => Ca (.fn (.func f) a b)
 | _ => bad
def UP (k : IntKind) : AV → Mk
 | .int _ n => Ca (.int k (k.wrap n))
 | _ => bad
def BQ (d : Nat) : Nat := 32 * d
def Zm (k : Nat) : AV → Mk
 | .str l => ⟨true, .own k, [(k, ⟨1, l.map Cc⟩)]⟩
 | _ => bad
def Xu (els : List AV) : Mk := Dy (els.all FD) (.str (els.map KQ))
def az : Option Hm → Mk
 | some h => Xu h.els
 | none => bad
def QR (ob : CC) : AV → Mk
 | .sl _ els => Xu els
 | .nilsl => Ca (.str [])
 | .own k => az (AL k ob)
 | _ => bad
def bP : Option Hm → Mk
 | some h => Ca (.int .i64 (h.els.length : Int))
 | none => bad
def QJ (ob : CC) (st : Bool) : AV → Mk
 | .str l => Dy st (.int .i64 (l.length : Int))
 | .sl _ els => Dy (!st) (.int .i64 (els.length : Int))
 | .nilsl => Dy (!st) (.int .i64 0)
 | .own k => EU (!st) (bP (AL k ob))
 | _ => bad
def GM (d : Int) : Option AV → Int
 | some a => Un a
 | none => d
def HA (a b : Int) (n : Nat) : Bool := decide (0 ≤ a) && (decide (a ≤ b) && decide (b ≤ (n : Int)))
def cut {α : Type} (l : List α) (a b : Int) : List α := (l.take b.toNat).drop a.toNat
def IK (sz0 : Nat) (lo hi : Option AV) : AV → Mk
 | .str l => Dy ((sz0 == 0) && HA (GM 0 lo) (GM l.length hi) l.length) (.str (cut l (GM 0 lo) (GM l.length hi)))
 | .sl sz els => Dy ((sz == sz0) && HA (GM 0 lo) (GM els.length hi) els.length) (.sl sz (cut els (GM 0 lo) (GM els.length hi)))
 | .nilsl => Dy (!(sz0 == 0) && HA (GM 0 lo) (GM 0 hi) 0) .nilsl
 | _ => bad
def Hg (off : Nat) : AV → Mk
 | .ref k i o => Ca (.ref k i (o + off))
 | .ptr sz els i o => Ca (.ptr sz els i (o + off))
 | _ => bad
def bT (sz0 k : Nat) (i : Int) : Option Hm → Mk
 | some h => Dy ((h.sz == sz0) && BB i h.els.length) (.ref k i.toNat 0)
 | none => bad
def Gt (ob : CC) (sz0 : Nat) (i : Int) : AV → Mk
 | .own k => bT sz0 k i (AL k ob)
 | .sl sz els => Dy ((sz == sz0) && BB i els.length) (.ptr sz [els.getD i.toNat .any] 0 0)
 | _ => bad
def Ko (i : Int) : AV → Mk
 | .str l => Dy (BB i l.length) (Cc (l.getD i.toNat 0))
 | _ => bad
def Yu (i : Nat) : AV → Mk
 | .tup cs => Dy (decide (i < cs.length)) (cs.getD i .any)
 | _ => bad
def QQ (k : Nat) (a : AV) : Mk := ⟨decide (1 ≤ a.cells.length) && a.atoms, .ref k 0 0, [(k, ⟨a.cells.length, [a]⟩)]⟩
def UJ : List AV → List (Nat × Nat × AV) → List AV
 | cs, [] => cs
 | cs, p :: r => UJ (Cn cs p.1 p.2.2.cells) r
def LC (n : Nat) : List (Nat × Nat × AV) → Bool
 | [] => true
 | p :: r => (p.2.2.cells.length == p.2.1) && (decide (p.1 + p.2.1 ≤ n) && (p.2.2.atoms && LC n r))
def Iw : List AV → List (Nat × AV) → List AV
 | els, [] => els
 | els, p :: r => Iw (els.set p.1 p.2) r
def setOk (sz n : Nat) : List (Nat × AV) → Bool
 | [] => true
 | p :: r => decide (p.1 < n) && ((p.2.cells.length == sz) && (p.2.atoms && setOk sz n r))
def mm2 (mx : Bool) : AV → AV → AV
 | .int k x, .int _ y => .int k (bif mx then (if x < y then y else x) else (if y < x then y else x))
 | _, _ => .any
def Pe (mx : Bool) : AV → List AV → AV
 | a, [] => a
 | a, b :: r => Pe mx (mm2 mx a b) r
def WT (k : IntKind) : AV → Bool
 | .int j _ => k == j
 | _ => false
def mQ (mx : Bool) : List AV → Mk
 | .int k n :: r => Dy (r.all (WT k)) (Pe mx (.int k n) r)
 | _ => bad
def Tc (k sz bytes : Nat) (z : AV) : AV → AV → Mk
 | .int _ n, .int _ m => ⟨(n == m) && mR n bytes, .own k, [(k, ⟨sz, List.replicate n.toNat z⟩)]⟩
 | _, _ => bad
def AO (r : CA → AV) (ob : CC) (d : Nat) : GO → Mk
 | .mov x => Ca (r x)
 | .newnil sz => ⟨true, .own (BQ d), [(BQ d, ⟨sz, []⟩)]⟩
 | .alloc z => QQ (BQ d) z
 | .box x => QQ (BQ d) (r x)
 | .build z ps => Dy (LC z.length (ps.map fun p => (p.1, p.2.1, r p.2.2))) (.agg (UJ z (ps.map fun p => (p.1, p.2.1, r p.2.2))))
 | .mkSl sz z n ps => ⟨setOk sz n (ps.map fun p => (p.1, r p.2)), .own (BQ d), [(BQ d, ⟨sz, Iw (List.replicate n z) (ps.map fun p => (p.1, r p.2))⟩)]⟩
 | .load agg sz p => Il ob agg sz (r p)
 | .nilck x => JC (r x)
 | .bin bl op x y => UY bl op (r x) (r y)
 | .eqA neg ks x y => LF neg ks (r x) (r y)
 | .un op x => lV op (r x)
 | .conv k x => UP k (r x)
 | .b2s x => QR ob (r x)
 | .s2b x => Zm (BQ d) (r x)
 | .mkFn f fi ca => Dy ((fi.map r ++ ca.map r).all AV.simple) (.fn f (fi.map r) (ca.map r))
 | .make sz bytes z l c => Tc (BQ d) sz bytes z (r l) (r c)
 | .slice sz x lo hi => IK sz (lo.map r) (hi.map r) (r x)
 | .fldAddr off p => Hg off (r p)
 | .fld agg off sz x => EU (r x).isAgg (part agg sz off (r x))
 | .ixAddr sz x i => Gt ob sz (Un (r i)) (r x)
 | .ixStr x i => Ko (Un (r i)) (r x)
 | .ext x i => Yu i (r x)
 | .len st x => QJ ob st (r x)
 | .minmax mx xs => mQ mx (xs.map r)
 | .pick _ _ _ => bad
 | .store _ _ _ => bad
 | .call _ _ => bad
 | .callp _ _ => bad
 | .callv _ _ => bad
 | .app _ _ _ _ _ => bad
 | .pur _ => bad
 | .callw _ _ => bad
 | .flat _ => bad
 | .trunc _ _ _ => bad
 | .movz _ => bad
 | .safe _ _ => bad
def dU (h : Hm) : AV → AV
 | .own _ => .sl h.sz h.els
 | .ref _ i off => .ptr h.sz h.els i off
 | _ => .any
def kN (v : AV) : CC → AV
 | [] => v
 | p :: _ => dU p.2 v
def Lp (m : Mk) : Mk := ⟨m.ok, kN m.v m.hs, []⟩
def Ie (d : Nat) : Nat → List AV → List AV
 | _, [] => []
 | j, .fresh _ _ :: r => .own (BQ d + j) :: Ie d (j + 1) r
 | j, .mem _ _ _ :: r => .ref (BQ d + j) 0 0 :: Ie d (j + 1) r
 | j, x :: r => x :: Ie d (j + 1) r
def HF (d : Nat) : Nat → List AV → CC
 | _, [] => []
 | j, .fresh sz els :: r => (BQ d + j, ⟨sz, els⟩) :: HF d (j + 1) r
 | j, .mem sz els _ :: r => (BQ d + j, ⟨sz, els⟩) :: HF d (j + 1) r
 | j, _ :: r => HF d (j + 1) r
def adopt (d : Nat) : AV → Mk
 | .fresh sz els => ⟨true, .own (BQ d), [(BQ d, ⟨sz, els⟩)]⟩
 | .tup cs => ⟨decide (cs.length < 31), .tup (Ie d 1 cs), HF d 1 cs⟩
 | .int k n => Ca (.int k n)
 | .bool b => Ca (.bool b)
 | .str l => Ca (.str l)
 | .cv v => Ca (.cv v)
 | .agg cs => Ca (.agg cs)
 | .sl sz els => Ca (.sl sz els)
 | .nilsl => Ca .nilsl
 | .ptr sz els i off => Ca (.ptr sz els i off)
 | .fn f a b => Dy ((a ++ b).all (fun x => x.key1.isEmpty)) (.fn f a b)
 | .own _ => bad
 | .ref _ _ _ => bad
 | .mem sz els _ => ⟨true, .ref (BQ d) 0 0, [(BQ d, ⟨sz, els⟩)]⟩
 | .opt _ _ => bad
 | .any => Ca .any
def Ug : AV → Mk
 | .fresh sz els => Ca (.sl sz els)
 | .mem sz els _ => Ca (.ptr sz els 0 0)
 | r => adopt 0 r
def Dx (ob : CC) : CC → CC
 | [] => ob
 | p :: r => Dx (CD p.1 p.2 ob) r
def Ar (s : St) (c : Bool) (a : AV) : Fh → St
 | .no => { s with ok := s.ok && c }
 | .push => { s with st := a :: s.st, ok := s.ok && c }
 | .var n => { s with vs := s.vs.set n a, ok := s.ok && c }
 | .slot n => { s with st := s.st.set n a, ok := s.ok && c }
def UT (d : Nat) (a : AV) : AV := bif a.keys.any (fun k => k / 32 == d) then .any else a
def DJ (d : Nat) : CC → CC
 | [] => []
 | p :: r => bif p.1 / 32 == d then DJ d r else p :: DJ d r
def Ky (d : Nat) : CC → Bool
 | [] => false
 | p :: r => (p.1 / 32 == d) || Ky d r
def clear (s : St) (d : Nat) : St :=
 bif Ky d s.ob then { s with vs := s.vs.map (UT d), st := s.st.map (UT d), ob := DJ d s.ob } else s
def MB (s : St) (hs : CC) : St := { s with ob := Dx s.ob hs }
def NE (s : St) (key : Nat) (dst : Fh) (c : Bool) (a : AV) : CC → St
 | [] => Ar s c a dst
 | h :: hs => Ar (MB (clear s key) (h :: hs)) c a dst
def CZ (s : St) (key : Nat) (dst : Fh) (m : Mk) : St := NE s key dst m.ok m.v m.hs
def Ct (s : St) : St := { s with ok := false }
structure oo where
 ok : Bool
 f : Nat
 args : List AV
def GV (args : List AV) : AV → oo
 | .fn (.func g) fi ca => ⟨true, g, fi ++ args ++ ca⟩
 | _ => ⟨false, 0, []⟩
def Zv (i : Nat) : Option Hm → AV
 | some h => .mem h.sz h.els i
 | none => .any
def Me : Option Hm → AV
 | some h => .fresh h.sz h.els
 | none => .any
def Gf (ob : CC) : AV → AV
 | .own k => Me (AL k ob)
 | .ref k i 0 => Zv i (AL k ob)
 | .nilsl => .nilsl
 | _ => .any
def Fg : AV → Bool
 | .fresh _ _ => true
 | .mem _ _ _ => true
 | .int _ _ => false
 | .bool _ => false
 | .str _ => false
 | .cv _ => false
 | .agg _ => false
 | .tup _ => false
 | .sl _ _ => false
 | .nilsl => false
 | .ptr _ _ _ _ => false
 | .fn _ _ _ => false
 | .own _ => false
 | .ref _ _ _ => false
 | .opt _ _ => false
 | .any => false
def Tj : AV → Bool
 | .nilsl => true
 | _ => false
def EC : List Md → List AV → Bool
 | .bor :: ms, a :: as => !Fg a && EC ms as
 | .io :: ms, a :: as => Fg a && EC ms as
 | .mov :: ms, a :: as => (Fg a || Tj a) && EC ms as
 | [], [] => true
 | _, _ => false
def DB (ob : CC) : Md → AV → AV
 | .bor, a => a.dv ob
 | .io, a => Gf ob a
 | .mov, a => Gf ob a
def BN (ob : CC) : List Md → List AV → List AV
 | m :: ms, a :: as => DB ob m a :: BN ob ms as
 | _, _ => []
def BI : List Md → List AV → List Nat
 | .bor :: ms, _ :: as => BI ms as
 | .io :: ms, a :: as => a.key1 ++ BI ms as
 | .mov :: ms, a :: as => a.key1 ++ BI ms as
 | _, _ => []
def Dc : List Md → List AV → List Nat
 | .bor :: ms, a :: as => a.keys ++ Dc ms as
 | .io :: ms, _ :: as => Dc ms as
 | .mov :: ms, _ :: as => Dc ms as
 | _, _ => []
def DE : List Nat → Bool
 | [] => true
 | k :: r => !r.any (· == k) && DE r
def apart (ks bs : List Nat) : Bool := ks.all fun k => !bs.any (· == k)
def killAll (s : St) (k : Nat) : St := { s with vs := s.vs.map (AV.kill k), st := s.st.map (AV.kill k), ob := Gq k s.ob }
def Ac (s : St) : List Md → List AV → List AV → St
 | .bor :: ms, _ :: as, _ :: os => Ac s ms as os
 | .io :: ms, .own k :: as, .fresh sz els :: os => Ac { s with ob := CD k ⟨sz, els⟩ s.ob } ms as os
 | .io :: ms, .ref k _ 0 :: as, .mem sz els _ :: os => Ac { s with ob := CD k ⟨sz, els⟩ s.ob } ms as os
 | .mov :: ms, .own k :: as, _ :: os => Ac (killAll s k) ms as os
 | .mov :: ms, .nilsl :: as, _ :: os => Ac s ms as os
 | [], [], [] => s
 | _, _, _ => Ct s
def Mp (C : Bf) (s : St) (args : List AV) : St := bif C.flat then s else freezeAll s (Dc C.modes args)
def Jj (s : St) (key : Nat) (dst : Fh) (modes : List Md) (args : List AV) (c : Bool) (q : Rs) : St :=
 CZ (Ac s modes args q.outs) key dst (EU (c && q.ok) (adopt key q.r))
def Ir (s : St) (key : Nat) (dst : Fh) (args : List AV) : Option Bf → St
 | some C => Jj (Mp C s args) key dst C.modes args
   (EC C.modes (BN s.ob C.modes args) && ((C.modes.length == args.length) && (DE (BI C.modes args) && apart (BI C.modes args) (Dc C.modes args)))) (C.F (BN s.ob C.modes args))
 | none => Ct s
def GY (T : GW) (s : St) (key : Nat) (dst : Fh) (c : oo) : St :=
 Ir { s with ok := s.ok && c.ok } key dst c.args (T c.f)
def UU (ob : CC) (args : List AV) : Option Bf → Mk
 | some C => EU ((C.modes.length == args.length) && (EC C.modes (BN ob C.modes args) && C.modes.all (· == .bor) && ((C.flat || args.all (fun a => a.keys.isEmpty)) && (C.F (BN ob C.modes args)).ok)))
   (Ug (C.F (BN ob C.modes args)).r)
 | none => bad
def CJ (T : GW) (ob : CC) (c : oo) : Mk := EU c.ok (UU ob c.args (T c.f))
def Ms (s : St) (k i sz off : Nat) (x el : AV) (h : Hm) : St :=
 { s with ob := CD k ⟨h.sz, h.els.set i (el.like (Cn el.cells off x.cells))⟩ s.ob, ok := s.ok && (decide (i < h.els.length) && ((x.cells.length == sz) && (decide (off + sz ≤ el.cells.length) && x.atoms))) }
def ME (s : St) (k i sz off : Nat) (x : AV) : Option Hm → St
 | some h => Ms s k i sz off x (h.els.getD i .any) h
 | none => Ct s
def Gl (s : St) (sz : Nat) (x : AV) : AV → St
 | .ref k i off => ME s k i sz off x (AL k s.ob)
 | _ => Ct s
structure Ap where
 ok : Bool
 sz : Nat
 els : List AV
def VC : Option Hm → Ap
 | some h => ⟨true, h.sz, h.els⟩
 | none => ⟨false, 0, []⟩
def Bz (sz : Nat) (ob : CC) : AV → Ap
 | .str l => ⟨sz == 1, sz, l.map Cc⟩
 | .sl sz2 els => ⟨sz2 == sz, sz, els⟩
 | .nilsl => ⟨true, sz, []⟩
 | .own k => VC (AL k ob)
 | _ => ⟨false, 0, []⟩
def Pl (s : St) (key : Nat) (dst : Fh) (sz bytes : Nat) (y : Ap) (k : Nat) : Option Hm → St
 | some h => Ar { s with vs := s.vs.map (AV.kill k), st := s.st.map (AV.kill k), ob := CD k ⟨sz, h.els ++ y.els⟩ s.ob }
   ((h.sz == sz) && ((y.sz == sz) && (y.ok && Cr (h.els.length + y.els.length) bytes))) (.own k) dst
 | none => Ct s
def Mi (s : St) (key : Nat) (dst : Fh) (sz bytes : Nat) (y : Ap) : AV → St
 | .own k => Pl s key dst sz bytes y k (AL k s.ob)
 | .nilsl => CZ s key dst ⟨(y.sz == sz) && (y.ok && Cr y.els.length bytes), .own (BQ key), [(BQ key, ⟨sz, y.els⟩)]⟩
 | _ => Ct s
def CO (s : St) : GO → List Nat
 | .box x => (rd s x).keys
 | .build _ ps => ps.flatMap fun p => (rd s p.2.2).keys
 | .mkSl _ _ _ ps => ps.flatMap fun p => (rd s p.2).keys
 | .store _ _ x => (rd s x).keys
 | .slice _ x _ _ => (rd s x).keys
 | _ => []
def AV.lone : AV → Bool
 | .int _ _ => true
 | .bool _ => true
 | .str _ => true
 | .nilsl => true
 | .sl _ _ => true
 | .ptr _ _ _ _ => true
 | .agg _ => true
 | .own _ => true
 | .ref _ _ _ => true
 | .cv _ => true
 | .any => true
 | .fn _ fi ca => (fi ++ ca).all (fun a => a.key1.isEmpty)
 | .tup _ => false
 | .fresh _ _ => false
 | .mem _ _ _ => false
 | .opt _ _ => false
def Gc (m : Mk) : Mk := ⟨m.ok && (m.hs.isEmpty && m.v.lone), m.v, []⟩
def BA : GO → List CA
 | .box x => [x]
 | .build _ ps => ps.map fun p => p.2.2
 | .mkSl _ _ _ ps => ps.map fun p => p.2
 | .s2b x => [x]
 | .make _ _ _ l c => [l, c]
 | .mov x => [x]
 | .load _ _ p => [p]
 | .nilck x => [x]
 | .bin _ _ x y => [x, y]
 | .eqA _ _ x y => [x, y]
 | .un _ x => [x]
 | .conv _ x => [x]
 | .b2s x => [x]
 | .slice _ x lo hi => x :: (lo.toList ++ hi.toList)
 | .fldAddr _ p => [p]
 | .fld _ _ _ x => [x]
 | .ixAddr _ x i => [x, i]
 | .ixStr x i => [x, i]
 | .ext x _ => [x]
 | .len _ x => [x]
 | .minmax _ xs => xs
 | .call _ args => args
 | .callv f args => f :: args
 | .trunc _ x hi => [x, hi]
 | .movz x => [x]
 | _ => []
def Al : GO → Bool
 | .alloc _ => true
 | .box _ => true
 | .build _ _ => true
 | .mkSl _ _ _ _ => true
 | .s2b _ => true
 | .make _ _ _ _ _ => true
 | .mov _ => true
 | .load _ _ _ => true
 | .nilck _ => true
 | .bin _ _ _ _ => true
 | .eqA _ _ _ _ => true
 | .un _ _ => true
 | .conv _ _ => true
 | .b2s _ => true
 | .slice _ _ _ _ => true
 | .fldAddr _ _ => true
 | .fld _ _ _ _ => true
 | .ixAddr _ _ _ => true
 | .ixStr _ _ => true
 | .ext _ _ => true
 | .len _ _ => true
 | .minmax _ _ => true
 | .call _ _ => true
 | .callv _ _ => true
 | _ => false
def GK (T : GW) (s : St) (key : Nat) : GO → Mk
 | .call f args => Gc (CJ T s.ob ⟨true, f, args.map (rd s)⟩)
 | .callv f args => Gc (CJ T s.ob (GV (args.map (rd s)) (rd s f)))
 | op => bif Al op then Gc (Lp (AO (rd s) s.ob key op)) else bad
def Ce : AV → Bool
 | .int _ _ => true
 | .bool _ => true
 | .str _ => true
 | .cv _ => false
 | .agg _ => false
 | .tup _ => false
 | .sl _ _ => false
 | .nilsl => false
 | .ptr _ _ _ _ => false
 | .fn _ _ _ => false
 | .own _ => false
 | .ref _ _ _ => false
 | .fresh _ _ => false
 | .mem _ _ _ => false
 | .opt _ _ => false
 | .any => false
def Fr (T : GW) (r : CA → AV) (key : Nat) : GO → Mk
 | .callp f args => Gc (CJ T [] ⟨true, f, args.map r⟩)
 | .pur (.slice sz x lo hi) => Gc (Lp (AO r [] key (.slice sz x lo hi)))
 | .mov x => AO r [] key (.mov x)
 | .bin bl op x y => AO r [] key (.bin bl op x y)
 | .un op x => AO r [] key (.un op x)
 | .conv k x => AO r [] key (.conv k x)
 | .ixStr x i => AO r [] key (.ixStr x i)
 | .len st x => AO r [] key (.len st x)
 | _ => bad
def Dt : GO → List CA
 | .callp _ args => args
 | .pur a => BA a
 | a => BA a
def In (b : Bool) (m : Mk) : Mk := bif b && (m.hs.isEmpty && Ce m.v) then ⟨m.ok, m.v, []⟩ else bad
def Ox (s : St) (dst : Fh) (sz : Nat) (n : Int) (k : Nat) : Option Hm → St
 | some h => Ar { s with vs := s.vs.map (AV.kill k), st := s.st.map (AV.kill k), ob := CD k ⟨h.sz, h.els.take n.toNat⟩ s.ob }
   ((h.sz == sz) && ((!(k % 32 == 31)) && HA 0 n h.els.length)) (.own k) dst
 | none => Ct s
def Gk (s : St) (dst : Fh) (sz : Nat) (n : Int) : AV → St
 | .own k => Ox s dst sz n k (AL k s.ob)
 | _ => Ct s
def EE : GO → Bool
 | .mov _ => true
 | .load _ _ _ => true
 | .nilck _ => true
 | .bin _ _ _ _ => true
 | .eqA _ _ _ _ => true
 | .un _ _ => true
 | .conv _ _ => true
 | .b2s _ => true
 | .mkFn _ _ _ => true
 | .fldAddr _ _ => true
 | .fld _ _ _ _ => true
 | .ixAddr _ _ _ => true
 | .ixStr _ _ => true
 | .ext _ _ => true
 | .len _ _ => true
 | .minmax _ _ => true
 | _ => false
def Km (T : GW) (r : CA → AV) (ob : CC) (key : Nat) : GO → Mk
 | .call f args => Gc (CJ T ob ⟨true, f, args.map r⟩)
 | .callv f args => Gc (CJ T ob (GV (args.map r) (r f)))
 | op => bif Al op then Gc (Lp (AO r ob key op)) else bad
def GJ (T : GW) (r : CA → AV) (ob : CC) (key : Nat) : GO → Mk
 | .pur (.callv _ _) => bad
 | .pur a => Km T r ob key a
 | .pick c a b => IQ true (r a) (r b) (r c)
 | .callp f args => Gc (CJ T ob ⟨true, f, args.map r⟩)
 | op => bif EE op then AO r ob key op else bad
def Cz : GO → List CA
 | .mkFn _ fi ca => fi ++ ca
 | .pick c a b => [c, a, b]
 | .callp _ args => args
 | .pur a => BA a
 | a => BA a
def HJ : AV → Bool
 | .any => true
 | .int _ _ => false
 | .bool _ => false
 | .str _ => false
 | .cv _ => false
 | .agg _ => false
 | .tup _ => false
 | .sl _ _ => false
 | .nilsl => false
 | .ptr _ _ _ _ => false
 | .fn _ _ _ => false
 | .own _ => false
 | .ref _ _ _ => false
 | .fresh _ _ => false
 | .mem _ _ _ => false
 | .opt _ _ => false
def Jy (ds : List Nat) (a : AV) : Bool := !HJ a && !a.keys.any (fun k => ds.any (· == k / 32))
def HQ : List Nat → CC → CC
 | [], ob => ob
 | d :: r, ob => HQ r (DJ d ob)
def TR (b : Bool) (ds : List Nat) (m : Mk) : Mk := bif b && (m.hs.isEmpty && Jy ds m.v) then ⟨m.ok, m.v, []⟩ else bad
def HI (T : GW) (r : CA → AV) (ob : CC) (key : Nat) (ds : List Nat) (a : GO) : Mk := TR ((Cz a).all fun x => Jy ds (r x)) ds (GJ T r (HQ ds ob) key a)
def By (T : GW) (s : St) (key : Nat) (dst : Fh) : GO → St
 | .store sz p x => Gl (freezeAll s (rd s x).keys) sz (rd (freezeAll s (rd s x).keys) x) (rd (freezeAll s (rd s x).keys) p)
 | .app sz bytes _ a x => Mi s key dst sz bytes (Bz sz s.ob (rd s x)) (rd s a)
 | .call f args => GY T s key dst ⟨true, f, args.map (rd s)⟩
 | .callv f args => GY T s key dst (GV (args.map (rd s)) (rd s f))
 | .callp f args => CZ s key dst (Gc (CJ T s.ob ⟨true, f, args.map (rd s)⟩))
 | .pur a => CZ s key dst (GK T s key a)
 | .callw _ _ => Ct s
 | .flat a => CZ s key dst (In ((Dt a).all fun x => Ce (rd s x)) (Fr T (rd s) key a))
 | .trunc sz x hi => Gk s dst sz (Un (rd s hi)) (rd s x)
 | .movz x => CZ (freezeAll s (rd s x).keys) key dst (AO (rd (freezeAll s (rd s x).keys)) (freezeAll s (rd s x).keys).ob key (.mov x))
 | .safe ds a => CZ s key dst (HI T (rd s) s.ob key ds a)
 | .pick c a b => CZ s key dst (IQ true (rd s a) (rd s b) (rd s c))
 | .box x => CZ (freezeAll s (rd s x).keys) key dst (QQ (BQ key) (rd (freezeAll s (rd s x).keys) x))
 | .build z ps => CZ (freezeAll s (CO s (.build z ps))) key dst (AO (rd (freezeAll s (CO s (.build z ps)))) (freezeAll s (CO s (.build z ps))).ob key (.build z ps))
 | .mkSl sz z n ps => CZ (freezeAll s (CO s (.mkSl sz z n ps))) key dst (AO (rd (freezeAll s (CO s (.mkSl sz z n ps)))) (freezeAll s (CO s (.mkSl sz z n ps))).ob key (.mkSl sz z n ps))
 | .slice sz x lo hi => CZ (freezeAll s (rd s x).keys) key dst (AO (rd (freezeAll s (rd s x).keys)) (freezeAll s (rd s x).keys).ob key (.slice sz x lo hi))
 | .mov x => CZ s key dst (AO (rd s) s.ob key (.mov x))
 | .alloc z => CZ s key dst (AO (rd s) s.ob key (.alloc z))
 | .newnil sz => CZ s key dst (AO (rd s) s.ob key (.newnil sz))
 | .load agg sz p => CZ s key dst (AO (rd s) s.ob key (.load agg sz p))
 | .nilck x => CZ s key dst (AO (rd s) s.ob key (.nilck x))
 | .bin bl op x y => CZ s key dst (AO (rd s) s.ob key (.bin bl op x y))
 | .eqA neg ks x y => CZ s key dst (AO (rd s) s.ob key (.eqA neg ks x y))
 | .un op x => CZ s key dst (AO (rd s) s.ob key (.un op x))
 | .conv k x => CZ s key dst (AO (rd s) s.ob key (.conv k x))
 | .s2b x => CZ s key dst (AO (rd s) s.ob key (.s2b x))
 | .b2s x => CZ s key dst (AO (rd s) s.ob key (.b2s x))
 | .mkFn f fi ca => CZ s key dst (AO (rd s) s.ob key (.mkFn f fi ca))
 | .make sz bytes z l c => CZ s key dst (AO (rd s) s.ob key (.make sz bytes z l c))
 | .fldAddr off p => CZ s key dst (AO (rd s) s.ob key (.fldAddr off p))
 | .fld agg off sz x => CZ s key dst (AO (rd s) s.ob key (.fld agg off sz x))
 | .ixAddr sz x i => CZ s key dst (AO (rd s) s.ob key (.ixAddr sz x i))
 | .ixStr x i => CZ s key dst (AO (rd s) s.ob key (.ixStr x i))
 | .ext x i => CZ s key dst (AO (rd s) s.ob key (.ext x i))
 | .len st x => CZ s key dst (AO (rd s) s.ob key (.len st x))
 | .minmax mx xs => CZ s key dst (AO (rd s) s.ob key (.minmax mx xs))
def lB : AV → Bool
 | .bool b => b
 | _ => false
def QY : AV → Bool
 | .bool _ => true
 | _ => false
def Yl (want : Bool) : AV → Bool
 | .bool b => b == want
 | .opt c a => c && (lB a == want)
 | _ => false
def LB : AV → Bool
 | .bool _ => true
 | .opt c a => !c || QY a
 | _ => false
def Ow (s : St) : CA → AV
 | .v n => FY (s.vs.getD n .any)
 | .s n => FY (s.st.getD n .any)
 | .c a => a
def CW (T : GW) (s : St) (w : Bool) (key : Nat) : GO → Mk
 | .pick c a b => EU (CQ w (rd s c)) (IQ w (rd s a) (rd s b) (Ow s c))
 | .call f args => EU ((BA (.call f args)).all fun x => CQ w (rd s x)) (CJ T s.ob ⟨true, f, args.map (Ow s)⟩)
 | .callv f args => EU ((BA (.callv f args)).all fun x => CQ w (rd s x)) (CJ T s.ob (GV (args.map (Ow s)) (Ow s f)))
 | op => EU (Al op && (BA op).all fun x => CQ w (rd s x)) (Lp (AO (Ow s) s.ob key op))
def Iz (s : St) (w : Bool) (dst : Fh) (m : Mk) : St := Ar s (!w || (m.ok && (m.hs.isEmpty && m.v.lone))) (.opt w m.v) dst
def aD (T : GW) (s : St) (key : Nat) (dst : Fh) (f : Nat) (args : List CA) (w : Bool) : St :=
 if w = true then GY T s key dst ⟨args.all fun x => CQ true (rd s x), f, args.map (Ow s)⟩ else Iz s false dst (Ca .any)
def Hp (T : GW) (s : St) (key : Nat) (dst : Fh) (w : Bool) : GO → St
 | .callw f args => aD T s key dst f args w
 | op => Iz s w dst (CW T s w key op)
def Pa (T : GW) (s : St) (key : Nat) (dst : Fh) (op : GO) : Option (CA × Bool) → St
 | none => By T s key dst op
 | some g => Hp T { s with ok := s.ok && LB (rd s g.1) } key dst (Yl g.2 (rd s g.1)) op
def CT (T : GW) (s : St) (i : Hx) : St := Pa T s i.key i.dst i.op i.guard
def EF (T : GW) : List Hx → St → St
 | [], s => s
 | i :: r, s => EF T r (CT T s i)
def drop (s : St) : St := { s with st := [] }
def FW : List Bool → List AV → List AV
 | true :: m, a :: r => a :: FW m r
 | false :: m, _ :: r => .any :: FW m r
 | _, _ => []
def Kn (tm : List AV) : CC → CC
 | [] => []
 | p :: r => bif tm.any (fun a => a.names p.1) then p :: Kn tm r else Kn tm r
def keepB (m : List Bool) (s : St) : St := { vs := FW m s.vs, st := [], ob := Kn (FW m s.vs) s.ob, ok := s.ok }
def oN : List Nat → List Nat → List Nat
 | _, [] => []
 | seen, k :: r => bif seen.any (· == k) then oN seen r else k :: oN (k :: seen) r
def Pi (j x : Nat) : Nat := bif x % 32 == 31 then x else 32 * (100000 + j)
def bF : List Nat → Nat → Nat → Nat
 | [], _, k => k
 | x :: r, j, k => bif k == x then Pi j x else bF r (j + 1) k
def AV.re1 (π : Nat → Nat) : AV → AV
 | .own k => .own (π k)
 | .ref k i off => .ref (π k) i off
 | .int k n => .int k n
 | .bool b => .bool b
 | .str l => .str l
 | .cv v => .cv v
 | .agg cs => .agg cs
 | .tup cs => .tup cs
 | .sl sz els => .sl sz els
 | .nilsl => .nilsl
 | .ptr sz els i off => .ptr sz els i off
 | .fn f a b => .fn f a b
 | .fresh sz els => .fresh sz els
 | .mem sz els i => .mem sz els i
 | .opt b a => .opt b a
 | .any => .any
def AV.re (π : Nat → Nat) : AV → AV
 | .own k => .own (π k)
 | .ref k i off => .ref (π k) i off
 | .fn f fi ca => .fn f (fi.map (AV.re1 π)) (ca.map (AV.re1 π))
 | .tup cs => .tup (cs.map (AV.re1 π))
 | .opt b a => .opt b (a.re1 π)
 | .int k n => .int k n
 | .bool b => .bool b
 | .str l => .str l
 | .cv v => .cv v
 | .agg cs => .agg cs
 | .sl sz els => .sl sz els
 | .nilsl => .nilsl
 | .ptr sz els i off => .ptr sz els i off
 | .fresh sz els => .fresh sz els
 | .mem sz els i => .mem sz els i
 | .any => .any
def VH (k : Nat) (r : CC) : Option Hm → CC
 | some h => CD k h r
 | none => r
def WJ (π : Nat → Nat) (ob : CC) : List Nat → CC
 | [] => []
 | k :: r => VH (π k) (WJ π ob r) (AL k ob)
def canonK (s : St) (ks : List Nat) : St := { vs := s.vs.map (AV.re (bF ks 0)), st := [], ob := WJ (bF ks 0) s.ob ks, ok := s.ok }
def aP (s : St) : CC → St
 | [] => s
 | _ :: _ => canonK s (oN [] (s.vs.flatMap AV.keys))
def ZE (s : St) : St := aP s s.ob
def keepS (m : List Bool) (s : St) : St := ZE (keepB m s)
abbrev FT := Ex × St
def GI (k : St → FT) : FT → FT
 | (.norm, s) => k s
 | (.exit id, s) => (.exit id, s)
 | (.ret, s) => (.ret, s)
def Kx (id : Nat) : FT → FT
 | (.exit j, s) => bif j == id then (.norm, s) else (.exit j, s)
 | (.norm, s) => (.norm, s)
 | (.ret, s) => (.ret, s)
def Ic (a b : St → FT) (s : St) : AV → FT
 | .bool c => if c = true then a s else b s
 | _ => (.norm, Ct s)
def GL (kp ot rt : List Bool) : FT → FT
 | (.norm, s) => (.norm, keepS kp s)
 | (.exit id, s) => (.exit id, keepS ot s)
 | (.ret, s) => (.ret, keepS rt s)
def NN (m : List Bool) : FT → FT
 | (.norm, s) => (.norm, keepS m s)
 | (.exit id, s) => (.exit id, s)
 | (.ret, s) => (.ret, s)
def Cg (f : St → FT) (kp ot rt : List Bool) : Nat → St → FT
 | 0, s => (.norm, Ct s)
 | n + 1, s => GI (Cg f kp ot rt n) (GL kp ot rt (f s))
def PG (is : List Hx) (l : List Nat) : List Hx := l.map fun i => is.getD i ⟨.no, 0, none, .mov (.c .any)⟩
noncomputable def LN (T : GW) (is : List Hx) (s r : St) : List (List Nat) → Bool
 | [] => true
 | l :: rest => (@decide (EF T (PG is l) s = r) (Classical.propDecidable _)) && LN T is s r rest
def slots (k : Nat) (s : St) : St := { s with st := List.replicate k .any }
def bt (s : St) (b : Bool) : St := { s with ok := s.ok && b }
noncomputable def Ob (T : GW) (k : Nat) (is : List Hx) (alts : List (List Nat)) (s : St) : St :=
 bt (EF T is (slots k s)) (LN T is (slots k s) (EF T is (slots k s)) alts)
def Mq (c : CA) (a b : St → FT) (s : St) : FT := Ic a b (drop s) (rd s c)
noncomputable def BD (T : GW) (L : Nat) : IR → St → FT
 | .skip, s => (.norm, s)
 | .region _ is, s => (.norm, drop (EF T is s))
 | .test _ is c a b, s => Mq c (BD T L a) (BD T L b) (EF T is s)
 | .anyo k is alts .skip, s => (.norm, drop (Ob T k is alts s))
 | .anyo k is alts (.cond c a b), s => Mq c (BD T L a) (BD T L b) (Ob T k is alts s)
 | .anyo _ _ _ _, s => (.norm, Ct s)
 | .seq a b, s => GI (BD T L b) (BD T L a s)
 | .cond c a b, s => Ic (BD T L a) (BD T L b) s (rd s c)
 | .block id a, s => Kx id (BD T L a s)
 | .loop keep out rt a, s => Cg (BD T L a) keep out rt L (keepS keep s)
 | .mask m a, s => NN m (BD T L a s)
 | .exit id, s => (.exit id, s)
 | .ret, s => (.ret, s)
def Au (j : Nat) : Nat := 32 * j + 31
def Hn : Nat → List AV → List AV
 | _, [] => []
 | j, .fresh _ _ :: r => .own (Au j) :: Hn (j + 1) r
 | j, .mem _ _ i :: r => .ref (Au j) i 0 :: Hn (j + 1) r
 | j, x :: r => x :: Hn (j + 1) r
def CV : Nat → List AV → CC
 | _, [] => []
 | j, .fresh sz els :: r => (Au j, ⟨sz, els⟩) :: CV (j + 1) r
 | j, .mem sz els _ :: r => (Au j, ⟨sz, els⟩) :: CV (j + 1) r
 | j, _ :: r => CV (j + 1) r
def Pb (nv : Nat) (args : List AV) : St := { vs := Hn 0 args ++ List.replicate (nv - args.length) .any, st := [], ob := CV 0 args, ok := true }
def QW (ob : CC) (agg : Bool) (sz : Nat) : AV → Mk
 | .ref k i off => YT agg sz i off (AL k ob)
 | _ => bad
def KW (s : St) : fC → Mk
 | .t n => Ca (s.vs.getD n .any)
 | .cell agg sz p => QW s.ob agg sz (s.vs.getD p .any)
def XH : Option Hm → Mk
 | some h => Ca (.fresh h.sz h.els)
 | none => bad
def XG (i off : Nat) : Option Hm → Mk
 | some h => Dy ((i == 0) && ((off == 0) && (h.els.length == 1))) (.mem h.sz h.els 0)
 | none => bad
def CB (ob : CC) : AV → Mk
 | .own k => XH (AL k ob)
 | .ref k i off => XG i off (AL k ob)
 | .tup _ => bad
 | .any => bad
 | .fresh _ _ => bad
 | .mem _ _ _ => bad
 | .opt _ _ => bad
 | .fn f a b => Dy ((a ++ b).all (fun x => x.key1.isEmpty)) (.fn f a b)
 | .int k n => Ca (.int k n)
 | .bool b => Ca (.bool b)
 | .str l => Ca (.str l)
 | .cv v => Ca (.cv v)
 | .agg cs => Ca (.agg cs)
 | .sl sz els => Ca (.sl sz els)
 | .nilsl => Ca .nilsl
 | .ptr sz els i off => Ca (.ptr sz els i off)
def QM : AV → AV
 | .fresh sz els => .sl sz els
 | .mem sz els _ => .ptr sz els 0 0
 | a => a
def UF : AV → AV
 | .tup cs => .tup (cs.map QM)
 | a => QM a
def uZ (q : Rs) : Rs := ⟨q.ok, UF q.r, q.outs⟩
def VW : AV → Bool
 | .mem _ _ _ => true
 | _ => false
def Ua (m : Bool) (n : Nat) : Option Hm → Mk
 | some h => Dy (h.els.length == n) (bif m then .mem h.sz h.els 0 else .fresh h.sz h.els)
 | none => bad
def XM : AV → Nat
 | .fresh _ els => els.length
 | .mem _ els _ => els.length
 | _ => 0
def KS (ob : CC) (j : Nat) (a : AV) : Md → Mk
 | .io => Ua (VW a) (XM a) (AL (Au j) ob)
 | .bor => Ca .any
 | .mov => Ca .any
def OX (ob : CC) : List Md → Nat → List AV → List Mk
 | m :: ms, j, a :: r => KS ob j a m :: OX ob ms (j + 1) r
 | _, _, _ => []
def Fm : List Md → Nat → List Nat
 | .io :: ms, j => Au j :: Fm ms (j + 1)
 | .bor :: ms, j => Fm ms (j + 1)
 | .mov :: ms, j => Fm ms (j + 1)
 | [], _ => []
def NJ : List AV → AV
 | [a] => a
 | [] => .cv undef
 | a :: b :: r => .tup (a :: b :: r)
def XF (modes : List Md) (rs : List AV) : Bool :=
 DE (rs.flatMap AV.key1) && apart (rs.flatMap AV.key1) (Fm modes 0)
def UI (s : St) (modes : List Md) (args : List AV) (ms : List Mk) : Rs :=
 ⟨s.ok && (ms.all (·.ok) && (XF modes (ms.map (·.v)) && (((ms.map (·.v)).map (CB s.ob)).all (·.ok) && (OX s.ob modes 0 args).all (·.ok)))),
  NJ (((ms.map (·.v)).map (CB s.ob)).map (·.v)), (OX s.ob modes 0 args).map (·.v)⟩
def Gz (fn : EL) (modes : List Md) (args : List AV) : FT → Rs
 | (.exit _, _) => Rs.bad
 | (.norm, s) => UI s modes args (fn.res.map (KW s))
 | (.ret, s) => UI s modes args (fn.res.map (KW s))
def fits (fn : EL) (modes : List Md) (args : List AV) : Bool := EC modes args && ((args.length == fn.np) && (modes.length == fn.np))
def ZD (c : Bool) (r : Rs) : Rs := ⟨c && r.ok, r.r, r.outs⟩
noncomputable def Iy (T : GW) (L : Nat) (fn : EL) (modes : List Md) (args : List AV) : Rs :=
 ZD (fits fn modes args) (Gz fn modes args (BD T L fn.body (Pb fn.nv args)))
end Go.Proofs.YthdmeanbdohehaaGreatDoor
