/- The abstract machine: values without memory, a small code, and its interpreter, which is total: what cannot be run turns the flag ok off. Definitions only; no condition. -/
import Derived.Calls
import Derived.KernelRfl
import Derived.Attr
namespace Go.Proofs.YtfaenphcgfocnaaGreatDoor
open Go
set_option linter.unusedVariables false
inductive AV where
  | int (k:IntKind) (n:Int)
  | bool (b:Bool)
  | str (l:List UInt8)
  | cv (v:Value)
  | agg (cs:List AV)
  | tup (cs:List AV)
  | sl (sz:Nat) (els:List AV)
  | nilsl
  | ptr (sz:Nat) (els:List AV) (i off:Nat)
  | fn (f:Fn) (first caps:List AV)
  | own (k:Nat)
  | ref (k i off:Nat)
  | fresh (sz:Nat) (els:List AV)
  | mem (sz:Nat) (els:List AV) (ix:Nat)
  | opt (b:Bool) (a:AV)
  | any
  deriving Inhabited
def dJ:List (Nat × (Array Value → Prop)) :=
 (1,fun cs => cs = ((List.range 20).map fun i => Value.int .u64 ((10 ^ i:Nat):Int)).toArray) ::
 (2,fun cs => ∃ tp p,cs = #[.iface tp p]) ::
 (3,fun cs => ∃ tp p,cs = #[.iface tp p]) ::
 (0,fun cs => ∃ m,cs = #[.int .i64 m]) ::
  []
structure Hm where
  sz:Nat
  els:List AV
  deriving Inhabited
abbrev CB:=List (Nat × Hm)
structure St where
  vs:List AV
  st:List AV
  ob:CB
  ok:Bool
  deriving Inhabited
inductive CA where
  | v (n:Nat)
  | s (n:Nat)
  | c (a:AV)
  deriving Inhabited
inductive Md where
  | bor | io | mov
  deriving DecidableEq,Inhabited
structure Rs where
  ok:Bool
  r:AV
  outs:List AV
  deriving Inhabited
def Rs.bad:Rs:=⟨false,.any,[]⟩
structure Ax where
  modes:List Md
  flat:Bool
  F:List AV → Rs
abbrev Ht:=Nat → Option Ax
inductive Hc where
  | mov (x:CA)
  | newnil (sz:Nat)
  | pick (c a b:CA)
  | alloc (z:AV)
  | box (x:CA)
  | build (z:List AV) (parts:List (Nat × Nat × CA))
  | mkSl (sz:Nat) (z:AV) (n:Nat) (parts:List (Nat × CA))
  | load (agg:Bool) (sz:Nat) (p:CA)
  | store (sz:Nat) (p x:CA)
  | nilck (x:CA)
  | bin (bl:Bool) (op:BinOp) (x y:CA)
  | eqA (neg:Bool) (ks:List Nat) (x y:CA)
  | un (op:UnOp) (x:CA)
  | conv (k:IntKind) (x:CA)
  | s2b (x:CA)
  | b2s (x:CA)
  | mkFn (f:Fn) (first caps:List CA)
  | make (sz bytes:Nat) (z:AV) (len cap:CA)
  | slice (sz:Nat) (x:CA) (lo hi:Option CA)
  | fldAddr (off:Nat) (p:CA)
  | fld (agg:Bool) (off sz:Nat) (x:CA)
  | ixAddr (sz:Nat) (x i:CA)
  | ixStr (x i:CA)
  | ext (x:CA) (i:Nat)
  | call (f:Nat) (args:List CA)
  | callp (f:Nat) (args:List CA)
  | callv (f:CA) (args:List CA)
  | len (str:Bool) (x:CA)
  | app (sz bytes:Nat) (z:AV) (s x:CA)
  | minmax (mx:Bool) (xs:List CA)
  | pur (a:Hc)
  | callw (f:Nat) (args:List CA)
  | flat (a:Hc)
  | trunc (sz:Nat) (x hi:CA)
  | movz (x:CA)
  | safe (ds:List Nat) (a:Hc)
  deriving Inhabited
inductive Gk where
  | no | push | var (n:Nat) | slot (n:Nat)
  deriving DecidableEq,Inhabited
structure Jx where
  dst:Gk
  key:Nat
  guard:Option (CA × Bool)
  op:Hc
  deriving Inhabited
inductive IR where
  | skip
  | region (draw:Bool) (is:List Jx)
  | test (draw:Bool) (is:List Jx) (c:CA) (a b:IR)
  | anyo (k:Nat) (is:List Jx) (alts:List (List Nat)) (a:IR)
  | seq (a b:IR)
  | cond (c:CA) (a b:IR)
  | block (id:Nat) (a:IR)
  | loop (keep out rt:List Bool) (a:IR)
  | mask (m:List Bool) (a:IR)
  | exit (id:Nat)
  | ret
  deriving Inhabited
inductive Ex where
  | norm | exit (id:Nat) | ret
  deriving DecidableEq,Inhabited
inductive pM where
  | t (n:Nat)
  | cell (agg:Bool) (sz:Nat) (p:Nat)
  deriving Inhabited
structure CI where
  np:Nat
  nv:Nat
  body:IR
  res:List pM
  deriving Inhabited
def AV.cells:AV → List AV
  | .agg cs => cs
  | .int k n => [.int k n]
  | .bool b => [.bool b]
  | .str l => [.str l]
  | .cv v => [.cv v]
  | .tup cs => [.tup cs]
  | .sl sz els => [.sl sz els]
  | .nilsl => [.nilsl]
  | .ptr sz els i off => [.ptr sz els i off]
  | .fn f a b => [.fn f a b]
  | .own k => [.own k]
  | .ref k i off => [.ref k i off]
  | .fresh sz els => [.fresh sz els]
  | .mem sz els i => [.mem sz els i]
  | .opt b a => [.opt b a]
  | .any => [.any]
def AV.isAgg:AV → Bool
  | .agg _ => true
  | _ => false
def rd (s:St):CA → AV
  | .v n => s.vs.getD n .any
  | .s n => s.st.getD n .any
  | .c a => a
def AN (k:Nat):CB → Option Hm
  | [] => none
  | p :: r => bif p.1 == k then some p.2 else AN k r
def CD (k:Nat) (h:Hm):CB → CB
  | [] => [(k,h)]
  | p :: r => bif p.1 == k then (k,h) :: r else bif decide (k < p.1) then (k,h) :: p :: r else p :: CD k h r
def Ik (k:Nat):CB → CB
  | [] => []
  | p :: r => bif p.1 == k then Ik k r else p :: Ik k r
def AV.key1:AV → List Nat
  | .own k => [k]
  | .ref k _ _ => [k]
  | .int _ _ => []
  | .bool _ => []
  | .str _ => []
  | .cv _ => []
  | .agg _ => []
  | .tup _ => []
  | .sl _ _ => []
  | .nilsl => []
  | .ptr _ _ _ _ => []
  | .fn _ _ _ => []
  | .fresh _ _ => []
  | .mem _ _ _ => []
  | .opt _ _ => []
  | .any => []
def AV.keys:AV → List Nat
  | .own k => [k]
  | .ref k _ _ => [k]
  | .fn _ fi ca => (fi ++ ca).flatMap AV.key1
  | .tup cs => cs.flatMap AV.key1
  | .opt _ a => a.key1
  | .int _ _ => []
  | .bool _ => []
  | .str _ => []
  | .cv _ => []
  | .agg _ => []
  | .sl _ _ => []
  | .nilsl => []
  | .ptr _ _ _ _ => []
  | .fresh _ _ => []
  | .mem _ _ _ => []
  | .any => []
def AV.names (k:Nat) (a:AV):Bool:=a.keys.any (· == k)
def AV.kill (k:Nat) (a:AV):AV:=bif a.names k then .any else a
def AV.fz1 (k:Nat) (h:Hm):AV → AV
  | .own j => bif j == k then .sl h.sz h.els else .own j
  | .ref j i off => bif j == k then .ptr h.sz h.els i off else .ref j i off
  | .int k n => .int k n
  | .bool b => .bool b
  | .str l => .str l
  | .cv v => .cv v
  | .agg cs => .agg cs
  | .tup cs => .tup cs
  | .sl sz els => .sl sz els
  | .nilsl => .nilsl
  | .ptr sz els i off => .ptr sz els i off
  | .fn f a b => .fn f a b
  | .fresh sz els => .fresh sz els
  | .mem sz els i => .mem sz els i
  | .opt b a => .opt b a
  | .any => .any
def AV.fz (k:Nat) (h:Hm):AV → AV
  | .own j => bif j == k then .sl h.sz h.els else .own j
  | .ref j i off => bif j == k then .ptr h.sz h.els i off else .ref j i off
  | .fn f fi ca => .fn f (fi.map (AV.fz1 k h)) (ca.map (AV.fz1 k h))
  | .tup cs => .tup (cs.map (AV.fz1 k h))
  | .opt b a => .opt b (a.fz1 k h)
  | .int k n => .int k n
  | .bool b => .bool b
  | .str l => .str l
  | .cv v => .cv v
  | .agg cs => .agg cs
  | .sl sz els => .sl sz els
  | .nilsl => .nilsl
  | .ptr sz els i off => .ptr sz els i off
  | .fresh sz els => .fresh sz els
  | .mem sz els i => .mem sz els i
  | .any => .any
def freezeH (s:St) (k:Nat):Option Hm → St
  | some h => { s with vs:=s.vs.map (AV.fz k h),st:=s.st.map (AV.fz k h),ob:=Ik k s.ob }
  | none => s
def freezeAll (s:St):List Nat → St
  | [] => s
  | k :: r => freezeAll (freezeH s k (AN k s.ob)) r
def pu:Option Hm → AV
  | some h => .sl h.sz h.els
  | none => .any
def dm (i off:Nat):Option Hm → AV
  | some h => .ptr h.sz [h.els.getD i .any] 0 off
  | none => .any
def AV.dv1 (ob:CB):AV → AV
  | .own k => pu (AN k ob)
  | .ref k i off => dm i off (AN k ob)
  | .int k n => .int k n
  | .bool b => .bool b
  | .str l => .str l
  | .cv v => .cv v
  | .agg cs => .agg cs
  | .tup cs => .tup cs
  | .sl sz els => .sl sz els
  | .nilsl => .nilsl
  | .ptr sz els i off => .ptr sz [els.getD i .any] 0 off
  | .fn f a b => .fn f a b
  | .fresh _ _ => .any
  | .mem _ _ _ => .any
  | .opt _ _ => .any
  | .any => .any
def AV.dv (ob:CB):AV → AV
  | .own k => pu (AN k ob)
  | .ref k i off => dm i off (AN k ob)
  | .fn f fi ca => .fn f (fi.map (AV.dv1 ob)) (ca.map (AV.dv1 ob))
  | .int k n => .int k n
  | .bool b => .bool b
  | .str l => .str l
  | .cv v => .cv v
  | .agg cs => .agg cs
  | .tup _ => .any
  | .sl sz els => .sl sz els
  | .nilsl => .nilsl
  | .ptr sz els i off => .ptr sz [els.getD i .any] 0 off
  | .fresh _ _ => .any
  | .mem _ _ _ => .any
  | .opt _ _ => .any
  | .any => .any
def AV.atom:AV → Bool
  | .int _ _ => true
  | .bool _ => true
  | .str _ => true
  | .nilsl => true
  | .sl _ _ => true
  | .ptr _ _ _ _ => true
  | .fn _ fi ca => (fi ++ ca).all (fun a => a.key1.isEmpty)
  | .cv _ => false
  | .agg _ => false
  | .tup _ => false
  | .own _ => false
  | .ref _ _ _ => false
  | .fresh _ _ => false
  | .mem _ _ _ => false
  | .opt _ _ => false
  | .any => false
def AV.simple:AV → Bool
  | .int _ _ => true
  | .bool _ => true
  | .str _ => true
  | .nilsl => true
  | .sl _ _ => true
  | .ptr _ _ _ _ => true
  | .agg _ => true
  | .own _ => true
  | .ref _ _ _ => true
  | .fn _ _ _ => false
  | .cv _ => false
  | .tup _ => false
  | .fresh _ _ => false
  | .mem _ _ _ => false
  | .opt _ _ => false
  | .any => false
def AV.atoms (a:AV):Bool:=a.cells.all AV.atom
structure Mk where
  ok:Bool
  v:AV
  hs:CB
  deriving Inhabited
def bad:Mk:=⟨false,.any,[]⟩
def Cb (a:AV):Mk:=⟨true,a,[]⟩
def Dz (c:Bool) (a:AV):Mk:=⟨c,a,[]⟩
def part (agg:Bool) (sz off:Nat) (el:AV):Mk :=
  match agg with
  | true => ⟨el.isAgg && decide (off + sz ≤ el.cells.length),bif off == 0 && sz == el.cells.length then el else .agg ((el.cells.drop off).take sz),[]⟩
  | false => ⟨decide (off < el.cells.length),el.cells.getD off .any,[]⟩
def putCells:List AV → Nat → List AV → List AV
  | cs,_,[] => cs
  | cs,off,x :: r => putCells (cs.set off x) (off + 1) r
def AV.like:AV → List AV → AV
  | .agg _,cs => .agg cs
  | _,[x] => x
  | _,_ => .any
def Gc:AV → AV
  | .opt _ a => a
  | .int k n => .int k n
  | .bool b => .bool b
  | .str l => .str l
  | .cv v => .cv v
  | .agg cs => .agg cs
  | .tup cs => .tup cs
  | .sl sz els => .sl sz els
  | .nilsl => .nilsl
  | .ptr sz els i off => .ptr sz els i off
  | .fn f a b => .fn f a b
  | .own k => .own k
  | .ref k i off => .ref k i off
  | .fresh sz els => .fresh sz els
  | .mem sz els i => .mem sz els i
  | .any => .any
def CO (w:Bool):AV → Bool
  | .opt b _ => !w || b
  | .int _ _ => true
  | .bool _ => true
  | .str _ => true
  | .cv _ => true
  | .agg _ => true
  | .tup _ => true
  | .sl _ _ => true
  | .nilsl => true
  | .ptr _ _ _ _ => true
  | .fn _ _ _ => true
  | .own _ => true
  | .ref _ _ _ => true
  | .fresh _ _ => true
  | .mem _ _ _ => true
  | .any => true
def XK (c:Bool):AV → AV → AV
  | .bool p,.bool q => .bool (bif c then p else q)
  | .int k p,.int j q => bif k == j then .int k (bif c then p else q) else .any
  | .str p,.str q => .str (bif c then p else q)
  | x,y => bif c then x else y
def KH (w:Bool) (a b:AV):AV → Mk
  | .bool c => Dz (CO (w && c) a && CO (w && !c) b) (XK c (Gc a) (Gc b))
  | _ => bad
def nz (y:Int):Bool:=!(y == 0)
def gH (y:Int):Bool:=decide (0 ≤ y)
def IJ (m n:Nat):Bool:=decide (m + n ≤ 9223372036854775807)
def BW (n b:Nat):Bool:=decide (n * b ≤ 140737488355328)
def qc (n:Int) (b:Nat):Bool:=decide (0 ≤ n) && (decide (1 ≤ b) && decide (n * b ≤ 281474976710656))
def KZ (op:BinOp) (k:IntKind) (x y:Int):Mk :=
  match op with
  | .add => Cb (.int k (k.wrap (x + y)))
  | .sub => Cb (.int k (k.wrap (x - y)))
  | .mul => Cb (.int k (k.wrap (x * y)))
  | .quo => Dz (nz y) (.int k (k.wrap (x.tdiv y)))
  | .rem => Dz (nz y) (.int k (x.tmod y))
  | .and => Cb (.int k (k.wrap (BitVec.ofInt k.bits x &&& BitVec.ofInt k.bits y).toNat))
  | .or => Cb (.int k (k.wrap (BitVec.ofInt k.bits x ||| BitVec.ofInt k.bits y).toNat))
  | .xor => Cb (.int k (k.wrap (BitVec.ofInt k.bits x ^^^ BitVec.ofInt k.bits y).toNat))
  | .andNot => Cb (.int k (k.wrap (BitVec.ofInt k.bits x &&& ~~~BitVec.ofInt k.bits y).toNat))
  | .eql => Cb (.bool (x == y))
  | .neq => Cb (.bool (!(x == y)))
  | .lss => Cb (.bool (decide (x < y)))
  | .leq => Cb (.bool (decide (x ≤ y)))
  | .gtr => Cb (.bool (decide (y < x)))
  | .geq => Cb (.bool (decide (y ≤ x)))
  | .shl => bad
  | .shr => bad
def SA (op:BinOp) (x y:List UInt8):Mk :=
  match op with
  | .add => Dz (IJ x.length y.length) (.str (x ++ y))
  | .eql => Cb (.bool (x == y))
  | .neq => Cb (.bool (!(x == y)))
  | .lss => Cb (.bool (Op.bytesLess x y))
  | .leq => Cb (.bool (Op.bytesLess x y || x == y))
  | .gtr => Cb (.bool (!(Op.bytesLess x y || x == y)))
  | .geq => Cb (.bool (!Op.bytesLess x y))
  | _ => bad
def af (op:BinOp) (x y:Bool):Mk :=
  match op with
  | .eql => Cb (.bool (x == y))
  | .neq => Cb (.bool (!(x == y)))
  | _ => bad
def yr (op:BinOp) (k:IntKind) (x y:Int):Mk :=
  match op with
  | .shl => Dz (gH y) (.int k (k.wrap (x * 2 ^ (min y.toNat k.bits))))
  | .shr => Dz (gH y) (.int k (x.fdiv (2 ^ (min y.toNat k.bits))))
  | _ => bad
def AGR:BinOp → Bool
  | .shl => true
  | .shr => true
  | _ => false
def Ej (c:Bool) (m:Mk):Mk:=⟨c && m.ok,m.v,m.hs⟩
def YO (bl:Bool) (op:BinOp):AV → AV → Mk
  | .int k x,.int j y => bif AGR op then yr op k x y else Ej (k == j) (KZ op k x y)
  | .str x,.str y => SA op x y
  | .bool x,.bool y => Ej bl (af op x y)
  | _,_ => bad
def zG:AV → AV → Bool
  | .int _ x,.int _ y => x == y
  | .bool x,.bool y => x == y
  | .str x,.str y => x == y
  | _,_ => false
def Zu (n:Nat):AV → AV → Bool
  | .int k _,.int j _ => (n == 1) && (k == j)
  | .bool _,.bool _ => n == 0
  | .str _,.str _ => n == 2
  | _,_ => false
def JX:List AV → List AV → Bool
  | a :: r,b :: q => zG a b && JX r q
  | _,_ => true
def GV:List Nat → List AV → List AV → Bool
  | n :: ns,a :: r,b :: q => Zu n a b && GV ns r q
  | [],[],[] => true
  | _,_,_ => false
def NB (neg:Bool) (ks:List Nat):AV → AV → Mk
  | .agg a,.agg b => Dz (GV ks a b) (.bool (bif neg then !JX a b else JX a b))
  | _,_ => bad
def vK (op:UnOp):AV → Mk
  | .int k n => match op with
    | .neg => Cb (.int k (k.wrap (0 - n)))
    | _ => bad
  | .bool b => match op with
    | .not => Cb (.bool (!b))
    | _ => bad
  | _ => bad
def Co (c:UInt8):AV:=.int .u8 (c.toNat:Int)
def MM:AV → UInt8
  | .int _ n => UInt8.ofNat n.toNat
  | _ => 0
def GB:AV → Bool
  | .int .u8 _ => true
  | _ => false
def Yi:AV → Int
  | .int _ n => n
  | _ => -1
def BA (i:Int) (n:Nat):Bool:=decide (0 ≤ i) && decide (i < (n:Int))
def eA (agg:Bool) (sz i off:Nat):Option Hm → Mk
  | some h => part agg sz off (h.els.getD i .any)
  | none => bad
def Kl (ob:CB) (agg:Bool) (sz:Nat):AV → Mk
  | .ref k i off => eA agg sz i off (AN k ob)
  | .ptr _ els i off => part agg sz off (els.getD i .any)
  | _ => bad
def LC:AV → Mk
  | .ref k i off => Cb (.ref k i off)
  | .ptr sz els i off => Cb (.ptr sz els i off)
  | .fn (.func f) a b => Cb (.fn (.func f) a b)
  | _ => bad
def YG (k:IntKind):AV → Mk
  | .int _ n => Cb (.int k (k.wrap n))
  | _ => bad
def Ba (d:Nat):Nat:=32 * d
def gK (k:Nat):AV → Mk
  | .str l => ⟨true,.own k,[(k,⟨1,l.map Co⟩)]⟩
  | _ => bad
def dS (els:List AV):Mk:=Dz (els.all GB) (.str (els.map MM))
def jF:Option Hm → Mk
  | some h => dS h.els
  | none => bad
def Ti (ob:CB):AV → Mk
  | .sl _ els => dS els
  | .nilsl => Cb (.str [])
  | .own k => jF (AN k ob)
  | _ => bad
def jR:Option Hm → Mk
  | some h => Cb (.int .i64 (h.els.length:Int))
  | none => bad
def Tb (ob:CB) (st:Bool):AV → Mk
  | .str l => Dz st (.int .i64 (l.length:Int))
  | .sl _ els => Dz (!st) (.int .i64 (els.length:Int))
  | .nilsl => Dz (!st) (.int .i64 0)
  | .own k => Ej (!st) (jR (AN k ob))
  | _ => bad
def HZ (d:Int):Option AV → Int
  | some a => Yi a
  | none => d
def FI (a b:Int) (n:Nat):Bool:=decide (0 ≤ a) && (decide (a ≤ b) && decide (b ≤ (n:Int)))
def cut {α:Type} (l:List α) (a b:Int):List α:=(l.take b.toNat).drop a.toNat
def KG (sz0:Nat) (lo hi:Option AV):AV → Mk
  | .str l => Dz ((sz0 == 0) && FI (HZ 0 lo) (HZ l.length hi) l.length) (.str (cut l (HZ 0 lo) (HZ l.length hi)))
  | .sl sz els => Dz ((sz == sz0) && FI (HZ 0 lo) (HZ els.length hi) els.length) (.sl sz (cut els (HZ 0 lo) (HZ els.length hi)))
  | .nilsl => Dz (!(sz0 == 0) && FI (HZ 0 lo) (HZ 0 hi) 0) .nilsl
  | _ => bad
def Jh (off:Nat):AV → Mk
  | .ref k i o => Cb (.ref k i (o + off))
  | .ptr sz els i o => Cb (.ptr sz els i (o + off))
  | _ => bad
def jT (sz0 k:Nat) (i:Int):Option Hm → Mk
  | some h => Dz ((h.sz == sz0) && BA i h.els.length) (.ref k i.toNat 0)
  | none => bad
def Im (ob:CB) (sz0:Nat) (i:Int):AV → Mk
  | .own k => jT sz0 k i (AN k ob)
  | .sl sz els => Dz ((sz == sz0) && BA i els.length) (.ptr sz [els.getD i.toNat .any] 0 0)
  | _ => bad
def Ms (i:Int):AV → Mk
  | .str l => Dz (BA i l.length) (Co (l.getD i.toNat 0))
  | _ => bad
def ep (i:Nat):AV → Mk
  | .tup cs => Dz (decide (i < cs.length)) (cs.getD i .any)
  | _ => bad
def Th (k:Nat) (a:AV):Mk:=⟨decide (1 ≤ a.cells.length) && a.atoms,.ref k 0 0,[(k,⟨a.cells.length,[a]⟩)]⟩
def YC:List AV → List (Nat × Nat × AV) → List AV
  | cs,[] => cs
  | cs,p :: r => YC (putCells cs p.1 p.2.2.cells) r
def My (n:Nat):List (Nat × Nat × AV) → Bool
  | [] => true
  | p :: r => (p.2.2.cells.length == p.2.1) && (decide (p.1 + p.2.1 ≤ n) && (p.2.2.atoms && My n r))
def Kw:List AV → List (Nat × AV) → List AV
  | els,[] => els
  | els,p :: r => Kw (els.set p.1 p.2) r
def setOk (sz n:Nat):List (Nat × AV) → Bool
  | [] => true
  | p :: r => decide (p.1 < n) && ((p.2.cells.length == sz) && (p.2.atoms && setOk sz n r))
def mm2 (mx:Bool):AV → AV → AV
  | .int k x,.int _ y => .int k (bif mx then (if x < y then y else x) else (if y < x then y else x))
  | _,_ => .any
def Sf (mx:Bool):AV → List AV → AV
  | a,[] => a
  | a,b :: r => Sf mx (mm2 mx a b) r
def bO (k:IntKind):AV → Bool
  | .int j _ => k == j
  | _ => false
def wC (mx:Bool):List AV → Mk
  | .int k n :: r => Dz (r.all (bO k)) (Sf mx (.int k n) r)
  | _ => bad
def XM (k sz bytes:Nat) (z:AV):AV → AV → Mk
  | .int _ n,.int _ m => ⟨(n == m) && qc n bytes,.own k,[(k,⟨sz,List.replicate n.toNat z⟩)]⟩
  | _,_ => bad
def AS (r:CA → AV) (ob:CB) (d:Nat):Hc → Mk
  | .mov x => Cb (r x)
  | .newnil sz => ⟨true,.own (Ba d),[(Ba d,⟨sz,[]⟩)]⟩
  | .alloc z => Th (Ba d) z
  | .box x => Th (Ba d) (r x)
  | .build z ps => Dz (My z.length (ps.map fun p => (p.1,p.2.1,r p.2.2))) (.agg (YC z (ps.map fun p => (p.1,p.2.1,r p.2.2))))
  | .mkSl sz z n ps => ⟨setOk sz n (ps.map fun p => (p.1,r p.2)),.own (Ba d),[(Ba d,⟨sz,Kw (List.replicate n z) (ps.map fun p => (p.1,r p.2))⟩)]⟩
  | .load agg sz p => Kl ob agg sz (r p)
  | .nilck x => LC (r x)
  | .bin bl op x y => YO bl op (r x) (r y)
  | .eqA neg ks x y => NB neg ks (r x) (r y)
  | .un op x => vK op (r x)
  | .conv k x => YG k (r x)
  | .b2s x => Ti ob (r x)
  | .s2b x => gK (Ba d) (r x)
  | .mkFn f fi ca => Dz ((fi.map r ++ ca.map r).all AV.simple) (.fn f (fi.map r) (ca.map r))
  | .make sz bytes z l c => XM (Ba d) sz bytes z (r l) (r c)
  | .slice sz x lo hi => KG sz (lo.map r) (hi.map r) (r x)
  | .fldAddr off p => Jh off (r p)
  | .fld agg off sz x => Ej (r x).isAgg (part agg sz off (r x))
  | .ixAddr sz x i => Im ob sz (Yi (r i)) (r x)
  | .ixStr x i => Ms (Yi (r i)) (r x)
  | .ext x i => ep i (r x)
  | .len st x => Tb ob st (r x)
  | .minmax mx xs => wC mx (xs.map r)
  | .pick _ _ _ => bad
  | .store _ _ _ => bad
  | .call _ _ => bad
  | .callp _ _ => bad
  | .callv _ _ => bad
  | .app _ _ _ _ _ => bad
  | .pur _ => bad
  | .callw _ _ => bad
  | .flat _ => bad
  | .trunc _ _ _ => bad
  | .movz _ => bad
  | .safe _ _ => bad
def nT (h:Hm):AV → AV
  | .own _ => .sl h.sz h.els
  | .ref _ i off => .ptr h.sz h.els i off
  | _ => .any
def tv (v:AV):CB → AV
  | [] => v
  | p :: _ => nT p.2 v
def OB (m:Mk):Mk:=⟨m.ok,tv m.v m.hs,[]⟩
def KT (d:Nat):Nat → List AV → List AV
  | _,[] => []
  | j,.fresh _ _ :: r => .own (Ba d + j) :: KT d (j + 1) r
  | j,.mem _ _ _ :: r => .ref (Ba d + j) 0 0 :: KT d (j + 1) r
  | j,x :: r => x :: KT d (j + 1) r
def Iu (d:Nat):Nat → List AV → CB
  | _,[] => []
  | j,.fresh sz els :: r => (Ba d + j,⟨sz,els⟩) :: Iu d (j + 1) r
  | j,.mem sz els _ :: r => (Ba d + j,⟨sz,els⟩) :: Iu d (j + 1) r
  | j,_ :: r => Iu d (j + 1) r
def adopt (d:Nat):AV → Mk
  | .fresh sz els => ⟨true,.own (Ba d),[(Ba d,⟨sz,els⟩)]⟩
  | .tup cs => ⟨decide (cs.length < 31),.tup (KT d 1 cs),Iu d 1 cs⟩
  | .int k n => Cb (.int k n)
  | .bool b => Cb (.bool b)
  | .str l => Cb (.str l)
  | .cv v => Cb (.cv v)
  | .agg cs => Cb (.agg cs)
  | .sl sz els => Cb (.sl sz els)
  | .nilsl => Cb .nilsl
  | .ptr sz els i off => Cb (.ptr sz els i off)
  | .fn f a b => Dz ((a ++ b).all (fun x => x.key1.isEmpty)) (.fn f a b)
  | .own _ => bad
  | .ref _ _ _ => bad
  | .mem sz els _ => ⟨true,.ref (Ba d) 0 0,[(Ba d,⟨sz,els⟩)]⟩
  | .opt _ _ => bad
  | .any => Cb .any
def YX:AV → Mk
  | .fresh sz els => Cb (.sl sz els)
  | .mem sz els _ => Cb (.ptr sz els 0 0)
  | r => adopt 0 r
def Dy (ob:CB):CB → CB
  | [] => ob
  | p :: r => Dy (CD p.1 p.2 ob) r
def BE (s:St) (c:Bool) (a:AV):Gk → St
  | .no => { s with ok:=s.ok && c }
  | .push => { s with st:=a :: s.st,ok:=s.ok && c }
  | .var n => { s with vs:=s.vs.set n a,ok:=s.ok && c }
  | .slot n => { s with st:=s.st.set n a,ok:=s.ok && c }
def YK (d:Nat) (a:AV):AV:=bif a.keys.any (fun k => k / 32 == d) then .any else a
def DW (d:Nat):CB → CB
  | [] => []
  | p :: r => bif p.1 / 32 == d then DW d r else p :: DW d r
def Mv (d:Nat):CB → Bool
  | [] => false
  | p :: r => (p.1 / 32 == d) || Mv d r
def clear (s:St) (d:Nat):St :=
  bif Mv d s.ob then { s with vs:=s.vs.map (YK d),st:=s.st.map (YK d),ob:=DW d s.ob } else s
def OK (s:St) (hs:CB):St:={ s with ob:=Dy s.ob hs }
def Pf (s:St) (key:Nat) (dst:Gk) (c:Bool) (a:AV):CB → St
  | [] => BE s c a dst
  | h :: hs => BE (OK (clear s key) (h :: hs)) c a dst
def Ca (s:St) (key:Nat) (dst:Gk) (m:Mk):St:=Pf s key dst m.ok m.v m.hs
def fail (s:St):St:={ s with ok:=false }
structure zh where
  ok:Bool
  f:Nat
  args:List AV
def Hr (args:List AV):AV → zh
  | .fn (.func g) fi ca => ⟨true,g,fi ++ args ++ ca⟩
  | _ => ⟨false,0,[]⟩
def gX (i:Nat):Option Hm → AV
  | some h => .mem h.sz h.els i
  | none => .any
def Oz:Option Hm → AV
  | some h => .fresh h.sz h.els
  | none => .any
def IH (ob:CB):AV → AV
  | .own k => Oz (AN k ob)
  | .ref k i 0 => gX i (AN k ob)
  | .nilsl => .nilsl
  | _ => .any
def Fr:AV → Bool
  | .fresh _ _ => true
  | .mem _ _ _ => true
  | .int _ _ => false
  | .bool _ => false
  | .str _ => false
  | .cv _ => false
  | .agg _ => false
  | .tup _ => false
  | .sl _ _ => false
  | .nilsl => false
  | .ptr _ _ _ _ => false
  | .fn _ _ _ => false
  | .own _ => false
  | .ref _ _ _ => false
  | .opt _ _ => false
  | .any => false
def XV:AV → Bool
  | .nilsl => true
  | _ => false
def ED:List Md → List AV → Bool
  | .bor :: ms,a :: as => !Fr a && ED ms as
  | .io :: ms,a :: as => Fr a && ED ms as
  | .mov :: ms,a :: as => (Fr a || XV a) && ED ms as
  | [],[] => true
  | _,_ => false
def DI (ob:CB):Md → AV → AV
  | .bor,a => a.dv ob
  | .io,a => IH ob a
  | .mov,a => IH ob a
def BV (ob:CB):List Md → List AV → List AV
  | m :: ms,a :: as => DI ob m a :: BV ob ms as
  | _,_ => []
def BX:List Md → List AV → List Nat
  | .bor :: ms,_ :: as => BX ms as
  | .io :: ms,a :: as => a.key1 ++ BX ms as
  | .mov :: ms,a :: as => a.key1 ++ BX ms as
  | _,_ => []
def Dh:List Md → List AV → List Nat
  | .bor :: ms,a :: as => a.keys ++ Dh ms as
  | .io :: ms,_ :: as => Dh ms as
  | .mov :: ms,_ :: as => Dh ms as
  | _,_ => []
def DL:List Nat → Bool
  | [] => true
  | k :: r => !r.any (· == k) && DL r
def apart (ks bs:List Nat):Bool:=ks.all fun k => !bs.any (· == k)
def killAll (s:St) (k:Nat):St:={ s with vs:=s.vs.map (AV.kill k),st:=s.st.map (AV.kill k),ob:=Ik k s.ob }
def Am (s:St):List Md → List AV → List AV → St
  | .bor :: ms,_ :: as,_ :: os => Am s ms as os
  | .io :: ms,.own k :: as,.fresh sz els :: os => Am { s with ob:=CD k ⟨sz,els⟩ s.ob } ms as os
  | .io :: ms,.ref k _ 0 :: as,.mem sz els _ :: os => Am { s with ob:=CD k ⟨sz,els⟩ s.ob } ms as os
  | .mov :: ms,.own k :: as,_ :: os => Am (killAll s k) ms as os
  | .mov :: ms,.nilsl :: as,_ :: os => Am s ms as os
  | [],[],[] => s
  | _,_,_ => fail s
def PK (C:Ax) (s:St) (args:List AV):St:=bif C.flat then s else freezeAll s (Dh C.modes args)
def Lb (s:St) (key:Nat) (dst:Gk) (modes:List Md) (args:List AV) (c:Bool) (q:Rs):St :=
  Ca (Am s modes args q.outs) key dst (Ej (c && q.ok) (adopt key q.r))
def Kr (s:St) (key:Nat) (dst:Gk) (args:List AV):Option Ax → St
  | some C => Lb (PK C s args) key dst C.modes args
      (ED C.modes (BV s.ob C.modes args) && ((C.modes.length == args.length) && (DL (BX C.modes args) && apart (BX C.modes args) (Dh C.modes args)))) (C.F (BV s.ob C.modes args))
  | none => fail s
def Hy (T:Ht) (s:St) (key:Nat) (dst:Gk) (c:zh):St :=
  Kr { s with ok:=s.ok && c.ok } key dst c.args (T c.f)
def YM (ob:CB) (args:List AV):Option Ax → Mk
  | some C => Ej ((C.modes.length == args.length) && (ED C.modes (BV ob C.modes args) && C.modes.all (· == .bor) && ((C.flat || args.all (fun a => a.keys.isEmpty)) && (C.F (BV ob C.modes args)).ok)))
      (YX (C.F (BV ob C.modes args)).r)
  | none => bad
def CJ (T:Ht) (ob:CB) (c:zh):Mk:=Ej c.ok (YM ob c.args (T c.f))
def PQ (s:St) (k i sz off:Nat) (x el:AV) (h:Hm):St :=
  { s with ob:=CD k ⟨h.sz,h.els.set i (el.like (putCells el.cells off x.cells))⟩ s.ob,ok:=s.ok && (decide (i < h.els.length) && ((x.cells.length == sz) && (decide (off + sz ≤ el.cells.length) && x.atoms))) }
def ON (s:St) (k i sz off:Nat) (x:AV):Option Hm → St
  | some h => PQ s k i sz off x (h.els.getD i .any) h
  | none => fail s
def IL (s:St) (sz:Nat) (x:AV):AV → St
  | .ref k i off => ON s k i sz off x (AN k s.ob)
  | _ => fail s
structure Ap where
  ok:Bool
  sz:Nat
  els:List AV
def ZI:Option Hm → Ap
  | some h => ⟨true,h.sz,h.els⟩
  | none => ⟨false,0,[]⟩
def Bz (sz:Nat) (ob:CB):AV → Ap
  | .str l => ⟨sz == 1,sz,l.map Co⟩
  | .sl sz2 els => ⟨sz2 == sz,sz,els⟩
  | .nilsl => ⟨true,sz,[]⟩
  | .own k => ZI (AN k ob)
  | _ => ⟨false,0,[]⟩
def So (s:St) (key:Nat) (dst:Gk) (sz bytes:Nat) (y:Ap) (k:Nat):Option Hm → St
  | some h => BE { s with vs:=s.vs.map (AV.kill k),st:=s.st.map (AV.kill k),ob:=CD k ⟨sz,h.els ++ y.els⟩ s.ob }
      ((h.sz == sz) && ((y.sz == sz) && (y.ok && BW (h.els.length + y.els.length) bytes))) (.own k) dst
  | none => fail s
def PC (s:St) (key:Nat) (dst:Gk) (sz bytes:Nat) (y:Ap):AV → St
  | .own k => So s key dst sz bytes y k (AN k s.ob)
  | .nilsl => Ca s key dst ⟨(y.sz == sz) && (y.ok && BW y.els.length bytes),.own (Ba key),[(Ba key,⟨sz,y.els⟩)]⟩
  | _ => fail s
def CN (s:St):Hc → List Nat
  | .box x => (rd s x).keys
  | .build _ ps => ps.flatMap fun p => (rd s p.2.2).keys
  | .mkSl _ _ _ ps => ps.flatMap fun p => (rd s p.2).keys
  | .store _ _ x => (rd s x).keys
  | .slice _ x _ _ => (rd s x).keys
  | _ => []
def AV.lone:AV → Bool
  | .int _ _ => true
  | .bool _ => true
  | .str _ => true
  | .nilsl => true
  | .sl _ _ => true
  | .ptr _ _ _ _ => true
  | .agg _ => true
  | .own _ => true
  | .ref _ _ _ => true
  | .cv _ => true
  | .any => true
  | .fn _ fi ca => (fi ++ ca).all (fun a => a.key1.isEmpty)
  | .tup _ => false
  | .fresh _ _ => false
  | .mem _ _ _ => false
  | .opt _ _ => false
def IF (m:Mk):Mk:=⟨m.ok && (m.hs.isEmpty && m.v.lone),m.v,[]⟩
def BK:Hc → List CA
  | .box x => [x]
  | .build _ ps => ps.map fun p => p.2.2
  | .mkSl _ _ _ ps => ps.map fun p => p.2
  | .s2b x => [x]
  | .make _ _ _ l c => [l,c]
  | .mov x => [x]
  | .load _ _ p => [p]
  | .nilck x => [x]
  | .bin _ _ x y => [x,y]
  | .eqA _ _ x y => [x,y]
  | .un _ x => [x]
  | .conv _ x => [x]
  | .b2s x => [x]
  | .slice _ x lo hi => x :: (lo.toList ++ hi.toList)
  | .fldAddr _ p => [p]
  | .fld _ _ _ x => [x]
  | .ixAddr _ x i => [x,i]
  | .ixStr x i => [x,i]
  | .ext x _ => [x]
  | .len _ x => [x]
  | .minmax _ xs => xs
  | .call _ args => args
  | .callv f args => f :: args
  | .trunc _ x hi => [x,hi]
  | .movz x => [x]
  | _ => []
def BB:Hc → Bool
  | .alloc _ => true
  | .box _ => true
  | .build _ _ => true
  | .mkSl _ _ _ _ => true
  | .s2b _ => true
  | .make _ _ _ _ _ => true
  | .mov _ => true
  | .load _ _ _ => true
  | .nilck _ => true
  | .bin _ _ _ _ => true
  | .eqA _ _ _ _ => true
  | .un _ _ => true
  | .conv _ _ => true
  | .b2s _ => true
  | .slice _ _ _ _ => true
  | .fldAddr _ _ => true
  | .fld _ _ _ _ => true
  | .ixAddr _ _ _ => true
  | .ixStr _ _ => true
  | .ext _ _ => true
  | .len _ _ => true
  | .minmax _ _ => true
  | .call _ _ => true
  | .callv _ _ => true
  | _ => false
def HU (T:Ht) (s:St) (key:Nat):Hc → Mk
  | .call f args => IF (CJ T s.ob ⟨true,f,args.map (rd s)⟩)
  | .callv f args => IF (CJ T s.ob (Hr (args.map (rd s)) (rd s f)))
  | op => bif BB op then IF (OB (AS (rd s) s.ob key op)) else bad
def Cf:AV → Bool
  | .int _ _ => true
  | .bool _ => true
  | .str _ => true
  | .cv _ => false
  | .agg _ => false
  | .tup _ => false
  | .sl _ _ => false
  | .nilsl => false
  | .ptr _ _ _ _ => false
  | .fn _ _ _ => false
  | .own _ => false
  | .ref _ _ _ => false
  | .fresh _ _ => false
  | .mem _ _ _ => false
  | .opt _ _ => false
  | .any => false
def Gt (T:Ht) (r:CA → AV) (key:Nat):Hc → Mk
  | .callp f args => IF (CJ T [] ⟨true,f,args.map r⟩)
  | .pur (.slice sz x lo hi) => IF (OB (AS r [] key (.slice sz x lo hi)))
  | .mov x => AS r [] key (.mov x)
  | .bin bl op x y => AS r [] key (.bin bl op x y)
  | .un op x => AS r [] key (.un op x)
  | .conv k x => AS r [] key (.conv k x)
  | .ixStr x i => AS r [] key (.ixStr x i)
  | .len st x => AS r [] key (.len st x)
  | _ => bad
def Dp:Hc → List CA
  | .callp _ args => args
  | .pur a => BK a
  | a => BK a
def Ko (b:Bool) (m:Mk):Mk:=bif b && (m.hs.isEmpty && Cf m.v) then ⟨m.ok,m.v,[]⟩ else bad
def Ry (s:St) (dst:Gk) (sz:Nat) (n:Int) (k:Nat):Option Hm → St
  | some h => BE { s with vs:=s.vs.map (AV.kill k),st:=s.st.map (AV.kill k),ob:=CD k ⟨h.sz,h.els.take n.toNat⟩ s.ob }
      ((h.sz == sz) && ((!(k % 32 == 31)) && FI 0 n h.els.length)) (.own k) dst
  | none => fail s
def IK (s:St) (dst:Gk) (sz:Nat) (n:Int):AV → St
  | .own k => Ry s dst sz n k (AN k s.ob)
  | _ => fail s
def EE:Hc → Bool
  | .mov _ => true
  | .load _ _ _ => true
  | .nilck _ => true
  | .bin _ _ _ _ => true
  | .eqA _ _ _ _ => true
  | .un _ _ => true
  | .conv _ _ => true
  | .b2s _ => true
  | .mkFn _ _ _ => true
  | .fldAddr _ _ => true
  | .fld _ _ _ _ => true
  | .ixAddr _ _ _ => true
  | .ixStr _ _ => true
  | .ext _ _ => true
  | .len _ _ => true
  | .minmax _ _ => true
  | _ => false
def Mo (T:Ht) (r:CA → AV) (ob:CB) (key:Nat):Hc → Mk
  | .call f args => IF (CJ T ob ⟨true,f,args.map r⟩)
  | .callv f args => IF (CJ T ob (Hr (args.map r) (r f)))
  | op => bif BB op then IF (OB (AS r ob key op)) else bad
def HT (T:Ht) (r:CA → AV) (ob:CB) (key:Nat):Hc → Mk
  | .pur (.callv _ _) => bad
  | .pur a => Mo T r ob key a
  | .pick c a b => KH true (r a) (r b) (r c)
  | .callp f args => IF (CJ T ob ⟨true,f,args.map r⟩)
  | op => bif EE op then AS r ob key op else bad
def DG:Hc → List CA
  | .mkFn _ fi ca => fi ++ ca
  | .pick c a b => [c,a,b]
  | .callp _ args => args
  | .pur a => BK a
  | a => BK a
def JC:AV → Bool
  | .any => true
  | .int _ _ => false
  | .bool _ => false
  | .str _ => false
  | .cv _ => false
  | .agg _ => false
  | .tup _ => false
  | .sl _ _ => false
  | .nilsl => false
  | .ptr _ _ _ _ => false
  | .fn _ _ _ => false
  | .own _ => false
  | .ref _ _ _ => false
  | .fresh _ _ => false
  | .mem _ _ _ => false
  | .opt _ _ => false
def Lt (ds:List Nat) (a:AV):Bool:=!JC a && !a.keys.any (fun k => ds.any (· == k / 32))
def JK:List Nat → CB → CB
  | [],ob => ob
  | d :: r,ob => JK r (DW d ob)
def XC (b:Bool) (ds:List Nat) (m:Mk):Mk:=bif b && (m.hs.isEmpty && Lt ds m.v) then ⟨m.ok,m.v,[]⟩ else bad
def JB (T:Ht) (r:CA → AV) (ob:CB) (key:Nat) (ds:List Nat) (a:Hc):Mk:=XC ((DG a).all fun x => Lt ds (r x)) ds (HT T r (JK ds ob) key a)
def By (T:Ht) (s:St) (key:Nat) (dst:Gk):Hc → St
  | .store sz p x => IL (freezeAll s (rd s x).keys) sz (rd (freezeAll s (rd s x).keys) x) (rd (freezeAll s (rd s x).keys) p)
  | .app sz bytes _ a x => PC s key dst sz bytes (Bz sz s.ob (rd s x)) (rd s a)
  | .call f args => Hy T s key dst ⟨true,f,args.map (rd s)⟩
  | .callv f args => Hy T s key dst (Hr (args.map (rd s)) (rd s f))
  | .callp f args => Ca s key dst (IF (CJ T s.ob ⟨true,f,args.map (rd s)⟩))
  | .pur a => Ca s key dst (HU T s key a)
  | .callw _ _ => fail s
  | .flat a => Ca s key dst (Ko ((Dp a).all fun x => Cf (rd s x)) (Gt T (rd s) key a))
  | .trunc sz x hi => IK s dst sz (Yi (rd s hi)) (rd s x)
  | .movz x => Ca (freezeAll s (rd s x).keys) key dst (AS (rd (freezeAll s (rd s x).keys)) (freezeAll s (rd s x).keys).ob key (.mov x))
  | .safe ds a => Ca s key dst (JB T (rd s) s.ob key ds a)
  | .pick c a b => Ca s key dst (KH true (rd s a) (rd s b) (rd s c))
  | .box x => Ca (freezeAll s (rd s x).keys) key dst (Th (Ba key) (rd (freezeAll s (rd s x).keys) x))
  | .build z ps => Ca (freezeAll s (CN s (.build z ps))) key dst (AS (rd (freezeAll s (CN s (.build z ps)))) (freezeAll s (CN s (.build z ps))).ob key (.build z ps))
  | .mkSl sz z n ps => Ca (freezeAll s (CN s (.mkSl sz z n ps))) key dst (AS (rd (freezeAll s (CN s (.mkSl sz z n ps)))) (freezeAll s (CN s (.mkSl sz z n ps))).ob key (.mkSl sz z n ps))
  | .slice sz x lo hi => Ca (freezeAll s (rd s x).keys) key dst (AS (rd (freezeAll s (rd s x).keys)) (freezeAll s (rd s x).keys).ob key (.slice sz x lo hi))
  | .mov x => Ca s key dst (AS (rd s) s.ob key (.mov x))
  | .alloc z => Ca s key dst (AS (rd s) s.ob key (.alloc z))
  | .newnil sz => Ca s key dst (AS (rd s) s.ob key (.newnil sz))
  | .load agg sz p => Ca s key dst (AS (rd s) s.ob key (.load agg sz p))
  | .nilck x => Ca s key dst (AS (rd s) s.ob key (.nilck x))
  | .bin bl op x y => Ca s key dst (AS (rd s) s.ob key (.bin bl op x y))
  | .eqA neg ks x y => Ca s key dst (AS (rd s) s.ob key (.eqA neg ks x y))
  | .un op x => Ca s key dst (AS (rd s) s.ob key (.un op x))
  | .conv k x => Ca s key dst (AS (rd s) s.ob key (.conv k x))
  | .s2b x => Ca s key dst (AS (rd s) s.ob key (.s2b x))
  | .b2s x => Ca s key dst (AS (rd s) s.ob key (.b2s x))
  | .mkFn f fi ca => Ca s key dst (AS (rd s) s.ob key (.mkFn f fi ca))
  | .make sz bytes z l c => Ca s key dst (AS (rd s) s.ob key (.make sz bytes z l c))
  | .fldAddr off p => Ca s key dst (AS (rd s) s.ob key (.fldAddr off p))
  | .fld agg off sz x => Ca s key dst (AS (rd s) s.ob key (.fld agg off sz x))
  | .ixAddr sz x i => Ca s key dst (AS (rd s) s.ob key (.ixAddr sz x i))
  | .ixStr x i => Ca s key dst (AS (rd s) s.ob key (.ixStr x i))
  | .ext x i => Ca s key dst (AS (rd s) s.ob key (.ext x i))
  | .len st x => Ca s key dst (AS (rd s) s.ob key (.len st x))
  | .minmax mx xs => Ca s key dst (AS (rd s) s.ob key (.minmax mx xs))
def uY:AV → Bool
  | .bool b => b
  | _ => false
def Tp:AV → Bool
  | .bool _ => true
  | _ => false
def eZ (want:Bool):AV → Bool
  | .bool b => b == want
  | .opt c a => c && (uY a == want)
  | _ => false
def Mx:AV → Bool
  | .bool _ => true
  | .opt c a => !c || Tp a
  | _ => false
def Rv (s:St):CA → AV
  | .v n => Gc (s.vs.getD n .any)
  | .s n => Gc (s.st.getD n .any)
  | .c a => a
def CY (T:Ht) (s:St) (w:Bool) (key:Nat):Hc → Mk
  | .pick c a b => Ej (CO w (rd s c)) (KH w (rd s a) (rd s b) (Rv s c))
  | .call f args => Ej ((BK (.call f args)).all fun x => CO w (rd s x)) (CJ T s.ob ⟨true,f,args.map (Rv s)⟩)
  | .callv f args => Ej ((BK (.callv f args)).all fun x => CO w (rd s x)) (CJ T s.ob (Hr (args.map (Rv s)) (Rv s f)))
  | op => Ej (BB op && (BK op).all fun x => CO w (rd s x)) (OB (AS (Rv s) s.ob key op))
def Kz (s:St) (w:Bool) (dst:Gk) (m:Mk):St:=BE s (!w || (m.ok && (m.hs.isEmpty && m.v.lone))) (.opt w m.v) dst
def iI (T:Ht) (s:St) (key:Nat) (dst:Gk) (f:Nat) (args:List CA) (w:Bool):St :=
  if w = true then Hy T s key dst ⟨args.all fun x => CO true (rd s x),f,args.map (Rv s)⟩ else Kz s false dst (Cb .any)
def Jp (T:Ht) (s:St) (key:Nat) (dst:Gk) (w:Bool):Hc → St
  | .callw f args => iI T s key dst f args w
  | op => Kz s w dst (CY T s w key op)
def Sb (T:Ht) (s:St) (key:Nat) (dst:Gk) (op:Hc):Option (CA × Bool) → St
  | none => By T s key dst op
  | some g => Jp T { s with ok:=s.ok && Mx (rd s g.1) } key dst (eZ g.2 (rd s g.1)) op
def CS (T:Ht) (s:St) (i:Jx):St:=Sb T s i.key i.dst i.op i.guard
def EG (T:Ht):List Jx → St → St
  | [],s => s
  | i :: r,s => EG T r (CS T s i)
def drop (s:St):St:={ s with st:=[] }
def Ga:List Bool → List AV → List AV
  | true :: m,a :: r => a :: Ga m r
  | false :: m,_ :: r => .any :: Ga m r
  | _,_ => []
def Mr (tm:List AV):CB → CB
  | [] => []
  | p :: r => bif tm.any (fun a => a.names p.1) then p :: Mr tm r else Mr tm r
def keepB (m:List Bool) (s:St):St:={ vs:=Ga m s.vs,st:=[],ob:=Mr (Ga m s.vs) s.ob,ok:=s.ok }
def zI:List Nat → List Nat → List Nat
  | _,[] => []
  | seen,k :: r => bif seen.any (· == k) then zI seen r else k :: zI (k :: seen) r
def Sl (j x:Nat):Nat:=bif x % 32 == 31 then x else 32 * (100000 + j)
def jK:List Nat → Nat → Nat → Nat
  | [],_,k => k
  | x :: r,j,k => bif k == x then Sl j x else jK r (j + 1) k
def AV.re1 (π:Nat → Nat):AV → AV
  | .own k => .own (π k)
  | .ref k i off => .ref (π k) i off
  | .int k n => .int k n
  | .bool b => .bool b
  | .str l => .str l
  | .cv v => .cv v
  | .agg cs => .agg cs
  | .tup cs => .tup cs
  | .sl sz els => .sl sz els
  | .nilsl => .nilsl
  | .ptr sz els i off => .ptr sz els i off
  | .fn f a b => .fn f a b
  | .fresh sz els => .fresh sz els
  | .mem sz els i => .mem sz els i
  | .opt b a => .opt b a
  | .any => .any
def AV.re (π:Nat → Nat):AV → AV
  | .own k => .own (π k)
  | .ref k i off => .ref (π k) i off
  | .fn f fi ca => .fn f (fi.map (AV.re1 π)) (ca.map (AV.re1 π))
  | .tup cs => .tup (cs.map (AV.re1 π))
  | .opt b a => .opt b (a.re1 π)
  | .int k n => .int k n
  | .bool b => .bool b
  | .str l => .str l
  | .cv v => .cv v
  | .agg cs => .agg cs
  | .sl sz els => .sl sz els
  | .nilsl => .nilsl
  | .ptr sz els i off => .ptr sz els i off
  | .fresh sz els => .fresh sz els
  | .mem sz els i => .mem sz els i
  | .any => .any
def ZO (k:Nat) (r:CB):Option Hm → CB
  | some h => CD k h r
  | none => r
def az (π:Nat → Nat) (ob:CB):List Nat → CB
  | [] => []
  | k :: r => ZO (π k) (az π ob r) (AN k ob)
def canonK (s:St) (ks:List Nat):St:={ vs:=s.vs.map (AV.re (jK ks 0)),st:=[],ob:=az (jK ks 0) s.ob ks,ok:=s.ok }
def iV (s:St):CB → St
  | [] => s
  | _ :: _ => canonK s (zI [] (s.vs.flatMap AV.keys))
def fI (s:St):St:=iV s s.ob
def keepS (m:List Bool) (s:St):St:=fI (keepB m s)
abbrev EB:=Ex × St
def HS (k:St → EB):EB → EB
  | (.norm,s) => k s
  | (.exit id,s) => (.exit id,s)
  | (.ret,s) => (.ret,s)
def Mu (id:Nat):EB → EB
  | (.exit j,s) => bif j == id then (.norm,s) else (.exit j,s)
  | (.norm,s) => (.norm,s)
  | (.ret,s) => (.ret,s)
def KN (a b:St → EB) (s:St):AV → EB
  | .bool c => if c = true then a s else b s
  | _ => (.norm,fail s)
def HY (kp ot rt:List Bool):EB → EB
  | (.norm,s) => (.norm,keepS kp s)
  | (.exit id,s) => (.exit id,keepS ot s)
  | (.ret,s) => (.ret,keepS rt s)
def Pq (m:List Bool):EB → EB
  | (.norm,s) => (.norm,keepS m s)
  | (.exit id,s) => (.exit id,s)
  | (.ret,s) => (.ret,s)
def Bk (f:St → EB) (kp ot rt:List Bool):Nat → St → EB
  | 0,s => (.norm,fail s)
  | n + 1,s => HS (Bk f kp ot rt n) (HY kp ot rt (f s))
def SQ (is:List Jx) (l:List Nat):List Jx:=l.map fun i => is.getD i ⟨.no,0,none,.mov (.c .any)⟩
noncomputable def NJ (T:Ht) (is:List Jx) (s r:St):List (List Nat) → Bool
  | [] => true
  | l :: rest => (@decide (EG T (SQ is l) s = r) (Classical.propDecidable _)) && NJ T is s r rest
def slots (k:Nat) (s:St):St:={ s with st:=List.replicate k .any }
def kC (s:St) (b:Bool):St:={ s with ok:=s.ok && b }
noncomputable def RB (T:Ht) (k:Nat) (is:List Jx) (alts:List (List Nat)) (s:St):St :=
  kC (EG T is (slots k s)) (NJ T is (slots k s) (EG T is (slots k s)) alts)
def PN (c:CA) (a b:St → EB) (s:St):EB:=KN a b (drop s) (rd s c)
noncomputable def Az (T:Ht) (L:Nat):IR → St → EB
  | .skip,s => (.norm,s)
  | .region _ is,s => (.norm,drop (EG T is s))
  | .test _ is c a b,s => PN c (Az T L a) (Az T L b) (EG T is s)
  | .anyo k is alts .skip,s => (.norm,drop (RB T k is alts s))
  | .anyo k is alts (.cond c a b),s => PN c (Az T L a) (Az T L b) (RB T k is alts s)
  | .anyo _ _ _ _,s => (.norm,fail s)
  | .seq a b,s => HS (Az T L b) (Az T L a s)
  | .cond c a b,s => KN (Az T L a) (Az T L b) s (rd s c)
  | .block id a,s => Mu id (Az T L a s)
  | .loop keep out rt a,s => Bk (Az T L a) keep out rt L (keepS keep s)
  | .mask m a,s => Pq m (Az T L a s)
  | .exit id,s => (.exit id,s)
  | .ret,s => (.ret,s)
def Aa (j:Nat):Nat:=32 * j + 31
def Jo:Nat → List AV → List AV
  | _,[] => []
  | j,.fresh _ _ :: r => .own (Aa j) :: Jo (j + 1) r
  | j,.mem _ _ i :: r => .ref (Aa j) i 0 :: Jo (j + 1) r
  | j,x :: r => x :: Jo (j + 1) r
def Bm:Nat → List AV → CB
  | _,[] => []
  | j,.fresh sz els :: r => (Aa j,⟨sz,els⟩) :: Bm (j + 1) r
  | j,.mem sz els _ :: r => (Aa j,⟨sz,els⟩) :: Bm (j + 1) r
  | j,_ :: r => Bm (j + 1) r
def Sc (nv:Nat) (args:List AV):St:={ vs:=Jo 0 args ++ List.replicate (nv - args.length) .any,st:=[],ob:=Bm 0 args,ok:=true }
def Tn (ob:CB) (agg:Bool) (sz:Nat):AV → Mk
  | .ref k i off => eA agg sz i off (AN k ob)
  | _ => bad
def MS (s:St):pM → Mk
  | .t n => Cb (s.vs.getD n .any)
  | .cell agg sz p => Tn s.ob agg sz (s.vs.getD p .any)
def cX:Option Hm → Mk
  | some h => Cb (.fresh h.sz h.els)
  | none => bad
def cW (i off:Nat):Option Hm → Mk
  | some h => Dz ((i == 0) && ((off == 0) && (h.els.length == 1))) (.mem h.sz h.els 0)
  | none => bad
def CC (ob:CB):AV → Mk
  | .own k => cX (AN k ob)
  | .ref k i off => cW i off (AN k ob)
  | .tup _ => bad
  | .any => bad
  | .fresh _ _ => bad
  | .mem _ _ _ => bad
  | .opt _ _ => bad
  | .fn f a b => Dz ((a ++ b).all (fun x => x.key1.isEmpty)) (.fn f a b)
  | .int k n => Cb (.int k n)
  | .bool b => Cb (.bool b)
  | .str l => Cb (.str l)
  | .cv v => Cb (.cv v)
  | .agg cs => Cb (.agg cs)
  | .sl sz els => Cb (.sl sz els)
  | .nilsl => Cb .nilsl
  | .ptr sz els i off => Cb (.ptr sz els i off)
def Td:AV → AV
  | .fresh sz els => .sl sz els
  | .mem sz els _ => .ptr sz els 0 0
  | a => a
def Qs:AV → AV
  | .tup cs => .tup (cs.map Td)
  | a => Td a
def AGh (q:Rs):Rs:=⟨q.ok,Qs q.r,q.outs⟩
def Zf:AV → Bool
  | .mem _ _ _ => true
  | _ => false
def YR (m:Bool) (n:Nat):Option Hm → Mk
  | some h => Dz (h.els.length == n) (bif m then .mem h.sz h.els 0 else .fresh h.sz h.els)
  | none => bad
def ce:AV → Nat
  | .fresh _ els => els.length
  | .mem _ els _ => els.length
  | _ => 0
def MO (ob:CB) (j:Nat) (a:AV):Md → Mk
  | .io => YR (Zf a) (ce a) (AN (Aa j) ob)
  | .bor => Cb .any
  | .mov => Cb .any
def Qy (ob:CB):List Md → Nat → List AV → List Mk
  | m :: ms,j,a :: r => MO ob j a m :: Qy ob ms (j + 1) r
  | _,_,_ => []
def Gq:List Md → Nat → List Nat
  | .io :: ms,j => Aa j :: Gq ms (j + 1)
  | .bor :: ms,j => Gq ms (j + 1)
  | .mov :: ms,j => Gq ms (j + 1)
  | [],_ => []
def Pl:List AV → AV
  | [a] => a
  | [] => .cv undef
  | a :: b :: r => .tup (a :: b :: r)
def cV (modes:List Md) (rs:List AV):Bool :=
  DL (rs.flatMap AV.key1) && apart (rs.flatMap AV.key1) (Gq modes 0)
def YB (s:St) (modes:List Md) (args:List AV) (ms:List Mk):Rs :=
  ⟨s.ok && (ms.all (·.ok) && (cV modes (ms.map (·.v)) && (((ms.map (·.v)).map (CC s.ob)).all (·.ok) && (Qy s.ob modes 0 args).all (·.ok)))),
    Pl (((ms.map (·.v)).map (CC s.ob)).map (·.v)),(Qy s.ob modes 0 args).map (·.v)⟩
def Ir (fn:CI) (modes:List Md) (args:List AV):EB → Rs
  | (.exit _,_) => Rs.bad
  | (.norm,s) => YB s modes args (fn.res.map (MS s))
  | (.ret,s) => YB s modes args (fn.res.map (MS s))
def fits (fn:CI) (modes:List Md) (args:List AV):Bool:=ED modes args && ((args.length == fn.np) && (modes.length == fn.np))
def fH (c:Bool) (r:Rs):Rs:=⟨c && r.ok,r.r,r.outs⟩
noncomputable def Ky (T:Ht) (L:Nat) (fn:CI) (modes:List Md) (args:List AV):Rs :=
  fH (fits fn modes args) (Ir fn modes args (Az T L fn.body (Sc fn.nv args)))
end Go.Proofs.YtfaenphcgfocnaaGreatDoor
