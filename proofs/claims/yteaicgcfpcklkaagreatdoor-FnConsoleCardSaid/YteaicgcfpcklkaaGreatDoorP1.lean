/- Lemmas and walks, several texts in one. No condition. -/
import Derived.Calls
import Derived.KernelRfl
import Derived.Attr
import Derived.WalkKit
set_option linter.defProp false
set_option linter.unusedSimpArgs false
set_option linter.unusedVariables false
open Go.IntKind (i64 u64)
noncomputable section
namespace Go.Proofs.YteaicgcfpcklkaaGreatDoor
open Go
def gdE:=@List.getD_eq_getElem?_getD
def obS:=@Option.bind_some
def baT:=@Bool.and_eq_true
def geE:=@List.getElem?_eq_getElem
def bfT:=@Bool.false_eq_true
def tnC:=@Int.toNat_natCast
def agD:=@Array.getD_eq_getD_getElem?
def dtE:=@decide_eq_true_eq
theorem isX{α : Type _}{x : Option α}(h : x.isSome=true): ∃ a, x=some a := Option.isSome_iff_exists.1 h
inductive AV where
  | int (k:IntKind) (n:Int)
  | bool (b:Bool)
  | str (l:List UInt8)
  | cv (v:Value)
  | agg (cs:List AV)
  | tup (cs:List AV)
  | sl (sz:Nat) (els:List AV)
  | nilsl
  | ptr (sz:Nat) (els:List AV) (i off:Nat)
  | fn (f:Fn) (first caps:List AV)
  | own (k:Nat)
  | ref (k i off:Nat)
  | fresh (sz:Nat) (els:List AV)
  | mem (sz:Nat) (els:List AV) (ix:Nat)
  | opt (b:Bool) (a:AV)
  | any
  deriving Inhabited
def iJ:List (Nat×(Array Value->Prop)) :=
 (1,fun cs=>cs=((List.range 20).map fun i=>Value.int .u64 ((10^i:Nat):Int)).toArray) ::
 (2,fun cs=>∃ tp p,cs = #[.iface tp p]) ::
 (3,fun cs=>∃ tp p,cs = #[.iface tp p]) ::
  (0,fun cs=>∃ m,cs = #[.int .i64 m]) ::
  []
structure Hm where
  sz:Nat
  els:List AV
  deriving Inhabited
abbrev CI:=List (Nat×Hm)
structure St where
  vs:List AV
  st:List AV
  ob:CI
  ok:Bool
  deriving Inhabited
inductive Src where
  | v (n:Nat)
  | s (n:Nat)
  | c (a:AV)
  deriving Inhabited
inductive Md where
  | bor|io|mov
  deriving DecidableEq,Inhabited
structure Rs where
  ok:Bool
  r:AV
  outs:List AV
  deriving Inhabited
def Rs.bad:Rs:=⟨false,.any,[]⟩
structure Ak where
  modes:List Md
  flat:Bool
  F:List AV->Rs
abbrev Il:=Nat->Option Ak
inductive GR where
  | mov (x:Src)
  | newnil (sz:Nat)
  | pick (c a b:Src)
  | alloc (z:AV)
  | box (x:Src)
  | build (z:List AV) (parts:List (Nat×Nat×Src))
  | mkSl (sz:Nat) (z:AV) (n:Nat) (parts:List (Nat×Src))
  | load (agg:Bool) (sz:Nat) (p:Src)
  | store (sz:Nat) (p x:Src)
  | nilck (x:Src)
  | bin (bl:Bool) (op:BinOp) (x y:Src)
  | eqA (neg:Bool) (ks:List Nat) (x y:Src)
  | un (op:UnOp) (x:Src)
  | conv (k:IntKind) (x:Src)
  | s2b (x:Src)
  | b2s (x:Src)
  | mkFn (f:Fn) (first caps:List Src)
  | make (sz bytes:Nat) (z:AV) (len cap:Src)
  | slice (sz:Nat) (x:Src) (lo hi:Option Src)
  | fldAddr (off:Nat) (p:Src)
  | fld (agg:Bool) (off sz:Nat) (x:Src)
  | ixAddr (sz:Nat) (x i:Src)
  | ixStr (x i:Src)
  | ext (x:Src) (i:Nat)
  | call (f:Nat) (args:List Src)
  | callp (f:Nat) (args:List Src)
  | callv (f:Src) (args:List Src)
  | len (str:Bool) (x:Src)
  | app (sz bytes:Nat) (z:AV) (s x:Src)
  | minmax (mx:Bool) (xs:List Src)
  | pur (a:GR)
  | callw (f:Nat) (args:List Src)
  | flat (a:GR)
  | trunc (sz:Nat) (x hi:Src)
  | movz (x:Src)
  | safe (ds:List Nat) (a:GR)
  deriving Inhabited
inductive Hv where
  | no|push|var (n:Nat)|slot (n:Nat)
  deriving DecidableEq,Inhabited
structure Kw where
  dst:Hv
  key:Nat
  guard:Option (Src×Bool)
  op:GR
  deriving Inhabited
inductive IR where
  | skip
  | region (draw:Bool) (is:List Kw)
  | test (draw:Bool) (is:List Kw) (c:Src) (a b:IR)
  | anyo (k:Nat) (is:List Kw) (alts:List (List Nat)) (a:IR)
  | seq (a b:IR)
  | cond (c:Src) (a b:IR)
  | block (id:Nat) (a:IR)
  | loop (keep out rt:List Bool) (a:IR)
  | mask (m:List Bool) (a:IR)
  | exit (id:Nat)
  | ret
  deriving Inhabited
inductive Ex where
  | norm|exit (id:Nat)|ret
  deriving DecidableEq,Inhabited
inductive vN where
  | t (n:Nat)
  | cell (agg:Bool) (sz:Nat) (p:Nat)
  deriving Inhabited
structure CN where
  np:Nat
  nv:Nat
  body:IR
  res:List vN
  deriving Inhabited
def AV.cells:AV->List AV
  | .agg cs=>cs
  | .int k n=>[.int k n]
  | .bool b=>[.bool b]
  | .str l=>[.str l]
  | .cv v=>[.cv v]
  | .tup cs=>[.tup cs]
  | .sl sz els=>[.sl sz els]
  | .nilsl=>[.nilsl]
  | .ptr sz els i off=>[.ptr sz els i off]
  | .fn f a b=>[.fn f a b]
  | .own k=>[.own k]
  | .ref k i off=>[.ref k i off]
  | .fresh sz els=>[.fresh sz els]
  | .mem sz els i=>[.mem sz els i]
  | .opt b a=>[.opt b a]
  | .any=>[.any]
def AV.isAgg:AV->Bool
  | .agg _=>true
  | _=>false
def rd(s:St):Src->AV
  | .v n=>s.vs.getD n .any
  | .s n=>s.st.getD n .any
  | .c a=>a
def AK(k:Nat):CI->Option Hm
  | []=>none
  | p::r=>bif p.1==k then some p.2 else AK k r
def CR(k:Nat)(h:Hm):CI->CI
  | []=>[(k,h)]
  | p::r=>bif p.1==k then (k,h)::r else bif decide (k<p.1) then (k,h)::p::r else p::CR k h r
def JU(k:Nat):CI->CI
  | []=>[]
  | p::r=>bif p.1==k then JU k r else p::JU k r
def AV.key1:AV->List Nat
  | .own k=>[k]
  | .ref k _ _=>[k]
  | .int _ _=>[]
  | .bool _=>[]
  | .str _=>[]
  | .cv _=>[]
  | .agg _=>[]
  | .tup _=>[]
  | .sl _ _=>[]
  | .nilsl=>[]
  | .ptr _ _ _ _=>[]
  | .fn _ _ _=>[]
  | .fresh _ _=>[]
  | .mem _ _ _=>[]
  | .opt _ _=>[]
  | .any=>[]
def AV.keys:AV->List Nat
  | .own k=>[k]
  | .ref k _ _=>[k]
  | .fn _ fi ca=>(fi++ca).flatMap AV.key1
  | .tup cs=>cs.flatMap AV.key1
  | .opt _ a=>a.key1
  | .int _ _=>[]
  | .bool _=>[]
  | .str _=>[]
  | .cv _=>[]
  | .agg _=>[]
  | .sl _ _=>[]
  | .nilsl=>[]
  | .ptr _ _ _ _=>[]
  | .fresh _ _=>[]
  | .mem _ _ _=>[]
  | .any=>[]
def AV.names(k:Nat)(a:AV):Bool:=a.keys.any (· == k)
def AV.kill(k:Nat)(a:AV):AV:=bif a.names k then .any else a
def AV.fz1(k:Nat)(h:Hm):AV->AV
  | .own j=>bif j==k then .sl h.sz h.els else .own j
  | .ref j i off=>bif j==k then .ptr h.sz h.els i off else .ref j i off
  | .int k n=>.int k n
  | .bool b=>.bool b
  | .str l=>.str l
  | .cv v=>.cv v
  | .agg cs=>.agg cs
  | .tup cs=>.tup cs
  | .sl sz els=>.sl sz els
  | .nilsl=>.nilsl
  | .ptr sz els i off=>.ptr sz els i off
  | .fn f a b=>.fn f a b
  | .fresh sz els=>.fresh sz els
  | .mem sz els i=>.mem sz els i
  | .opt b a=>.opt b a
  | .any=>.any
def AV.fz(k:Nat)(h:Hm):AV->AV
  | .own j=>bif j==k then .sl h.sz h.els else .own j
  | .ref j i off=>bif j==k then .ptr h.sz h.els i off else .ref j i off
  | .fn f fi ca=>.fn f (fi.map (AV.fz1 k h)) (ca.map (AV.fz1 k h))
  | .tup cs=>.tup (cs.map (AV.fz1 k h))
  | .opt b a=>.opt b (a.fz1 k h)
  | .int k n=>.int k n
  | .bool b=>.bool b
  | .str l=>.str l
  | .cv v=>.cv v
  | .agg cs=>.agg cs
  | .sl sz els=>.sl sz els
  | .nilsl=>.nilsl
  | .ptr sz els i off=>.ptr sz els i off
  | .fresh sz els=>.fresh sz els
  | .mem sz els i=>.mem sz els i
  | .any=>.any
def freezeH(s:St)(k:Nat):Option Hm->St
  | some h=>{ s with vs:=s.vs.map (AV.fz k h),st:=s.st.map (AV.fz k h),ob:=JU k s.ob }
  | none=>s
def freezeAll(s:St):List Nat->St
  | []=>s
  | k::r=>freezeAll (freezeH s k (AK k s.ob)) r
def wG:Option Hm->AV
  | some h=>.sl h.sz h.els
  | none=>.any
def jA(i off:Nat):Option Hm->AV
  | some h=>.ptr h.sz [h.els.getD i .any] 0 off
  | none=>.any
def AV.dv1(ob:CI):AV->AV
  | .own k=>wG (AK k ob)
  | .ref k i off=>jA i off (AK k ob)
  | .int k n=>.int k n
  | .bool b=>.bool b
  | .str l=>.str l
  | .cv v=>.cv v
  | .agg cs=>.agg cs
  | .tup cs=>.tup cs
  | .sl sz els=>.sl sz els
  | .nilsl=>.nilsl
  | .ptr sz els i off=>.ptr sz [els.getD i .any] 0 off
  | .fn f a b=>.fn f a b
  | .fresh _ _=>.any
  | .mem _ _ _=>.any
  | .opt _ _=>.any
  | .any=>.any
def AV.dv(ob:CI):AV->AV
  | .own k=>wG (AK k ob)
  | .ref k i off=>jA i off (AK k ob)
  | .fn f fi ca=>.fn f (fi.map (AV.dv1 ob)) (ca.map (AV.dv1 ob))
  | .int k n=>.int k n
  | .bool b=>.bool b
  | .str l=>.str l
  | .cv v=>.cv v
  | .agg cs=>.agg cs
  | .tup _=>.any
  | .sl sz els=>.sl sz els
  | .nilsl=>.nilsl
  | .ptr sz els i off=>.ptr sz [els.getD i .any] 0 off
  | .fresh _ _=>.any
  | .mem _ _ _=>.any
  | .opt _ _=>.any
  | .any=>.any
def AV.atom:AV->Bool
  | .int _ _=>true
  | .bool _=>true
  | .str _=>true
  | .nilsl=>true
  | .sl _ _=>true
  | .ptr _ _ _ _=>true
  | .fn _ fi ca=>(fi++ca).all (fun a=>a.key1.isEmpty)
  | .cv _=>false
  | .agg _=>false
  | .tup _=>false
  | .own _=>false
  | .ref _ _ _=>false
  | .fresh _ _=>false
  | .mem _ _ _=>false
  | .opt _ _=>false
  | .any=>false
def AV.simple:AV->Bool
  | .int _ _=>true
  | .bool _=>true
  | .str _=>true
  | .nilsl=>true
  | .sl _ _=>true
  | .ptr _ _ _ _=>true
  | .agg _=>true
  | .own _=>true
  | .ref _ _ _=>true
  | .fn _ _ _=>false
  | .cv _=>false
  | .tup _=>false
  | .fresh _ _=>false
  | .mem _ _ _=>false
  | .opt _ _=>false
  | .any=>false
def AV.atoms(a:AV):Bool:=a.cells.all AV.atom
structure Mk where
  ok:Bool
  v:AV
  hs:CI
  deriving Inhabited
def bad:Mk:=⟨false,.any,[]⟩
def DB(a:AV):Mk:=⟨true,a,[]⟩
def ET(c:Bool)(a:AV):Mk:=⟨c,a,[]⟩
def part(agg:Bool)(sz off:Nat)(el:AV):Mk :=
  match agg with
  | true=>⟨el.isAgg&&decide (off+sz<=el.cells.length),bif off==0&&sz==el.cells.length then el else .agg ((el.cells.drop off).take sz),[]⟩
  | false=>⟨decide (off<el.cells.length),el.cells.getD off .any,[]⟩
def DQ:List AV->Nat->List AV->List AV
  | cs,_,[]=>cs
  | cs,off,x::r=>DQ (cs.set off x) (off+1) r
def AV.like:AV->List AV->AV
  | .agg _,cs=>.agg cs
  | _,[x]=>x
  | _,_=>.any
def Ho:AV->AV
  | .opt _ a=>a
  | .int k n=>.int k n
  | .bool b=>.bool b
  | .str l=>.str l
  | .cv v=>.cv v
  | .agg cs=>.agg cs
  | .tup cs=>.tup cs
  | .sl sz els=>.sl sz els
  | .nilsl=>.nilsl
  | .ptr sz els i off=>.ptr sz els i off
  | .fn f a b=>.fn f a b
  | .own k=>.own k
  | .ref k i off=>.ref k i off
  | .fresh sz els=>.fresh sz els
  | .mem sz els i=>.mem sz els i
  | .any=>.any
def Ch(w:Bool):AV->Bool
  | .opt b _=>!w||b
  | .int _ _=>true
  | .bool _=>true
  | .str _=>true
  | .cv _=>true
  | .agg _=>true
  | .tup _=>true
  | .sl _ _=>true
  | .nilsl=>true
  | .ptr _ _ _ _=>true
  | .fn _ _ _=>true
  | .own _=>true
  | .ref _ _ _=>true
  | .fresh _ _=>true
  | .mem _ _ _=>true
  | .any=>true
def Yw(c:Bool):AV->AV->AV
  | .bool p,.bool q=>.bool (bif c then p else q)
  | .int k p,.int j q=>bif k==j then .int k (bif c then p else q) else .any
  | .str p,.str q=>.str (bif c then p else q)
  | x,y=>bif c then x else y
def LL(w:Bool)(a b:AV):AV->Mk
  | .bool c=>ET (Ch (w&&c) a&&Ch (w && !c) b) (Yw c (Ho a) (Ho b))
  | _=>bad
def nz(y:Int):Bool:=!(y==0)
def UT(y:Int):Bool:=decide (0<=y)
def DW(m n:Nat):Bool:=decide (m+n<=9223372036854775807)
def EY(n b:Nat):Bool:=decide (n*b<=140737488355328)
def ANc(n:Int)(b:Nat):Bool:=decide (0<=n)&&(decide (1<=b)&&decide (n*b<=281474976710656))
def Le(op:BinOp)(k:IntKind)(x y:Int):Mk :=
  match op with
  | .add=>DB (.int k (k.wrap (x+y)))
  | .sub=>DB (.int k (k.wrap (x-y)))
  | .mul=>DB (.int k (k.wrap (x*y)))
  | .quo=>ET (nz y) (.int k (k.wrap (x.tdiv y)))
  | .rem=>ET (nz y) (.int k (x.tmod y))
  | .and=>DB (.int k (k.wrap (BitVec.ofInt k.bits x &&& BitVec.ofInt k.bits y).toNat))
  | .or=>DB (.int k (k.wrap (BitVec.ofInt k.bits x ||| BitVec.ofInt k.bits y).toNat))
  | .xor=>DB (.int k (k.wrap (BitVec.ofInt k.bits x ^^^ BitVec.ofInt k.bits y).toNat))
  | .andNot=>DB (.int k (k.wrap (BitVec.ofInt k.bits x &&& ~~~BitVec.ofInt k.bits y).toNat))
  | .eql=>DB (.bool (x==y))
  | .neq=>DB (.bool (!(x==y)))
  | .lss=>DB (.bool (decide (x<y)))
  | .leq=>DB (.bool (decide (x<=y)))
  | .gtr=>DB (.bool (decide (y<x)))
  | .geq=>DB (.bool (decide (y<=x)))
  | .shl=>bad
  | .shr=>bad
def UL(op:BinOp)(x y:List UInt8):Mk :=
  match op with
  | .add=>ET (DW x.length y.length) (.str (x++y))
  | .eql=>DB (.bool (x==y))
  | .neq=>DB (.bool (!(x==y)))
  | .lss=>DB (.bool (Op.bytesLess x y))
  | .leq=>DB (.bool (Op.bytesLess x y||x==y))
  | .gtr=>DB (.bool (!(Op.bytesLess x y||x==y)))
  | .geq=>DB (.bool (!Op.bytesLess x y))
  | _=>bad
def eh(op:BinOp)(x y:Bool):Mk :=
  match op with
  | .eql=>DB (.bool (x==y))
  | .neq=>DB (.bool (!(x==y)))
  | _=>bad
def shB(op:BinOp)(k:IntKind)(x y:Int):Mk :=
  match op with
  | .shl=>ET (UT y) (.int k (k.wrap (x*2^(min y.toNat k.bits))))
  | .shr=>ET (UT y) (.int k (x.fdiv (2^(min y.toNat k.bits))))
  | _=>bad
def ANg:BinOp->Bool
  | .shl=>true
  | .shr=>true
  | _=>false
def FQ(c:Bool)(m:Mk):Mk:=⟨c&&m.ok,m.v,m.hs⟩
def aX(bl:Bool)(op:BinOp):AV->AV->Mk
  | .int k x,.int j y=>bif ANg op then shB op k x y else FQ (k==j) (Le op k x y)
  | .str x,.str y=>UL op x y
  | .bool x,.bool y=>FQ bl (eh op x y)
  | _,_=>bad
def eq1:AV->AV->Bool
  | .int _ x,.int _ y=>x==y
  | .bool x,.bool y=>x==y
  | .str x,.str y=>x==y
  | _,_=>false
def dQ(n:Nat):AV->AV->Bool
  | .int k _,.int j _=>(n==1)&&(k==j)
  | .bool _,.bool _=>n==0
  | .str _,.str _=>n==2
  | _,_=>false
def KF:List AV->List AV->Bool
  | a::r,b::q=>eq1 a b&&KF r q
  | _,_=>true
def Hg:List Nat->List AV->List AV->Bool
  | n::ns,a::r,b::q=>dQ n a b&&Hg ns r q
  | [],[],[]=>true
  | _,_,_=>false
def Oq(neg:Bool)(ks:List Nat):AV->AV->Mk
  | .agg a,.agg b=>ET (Hg ks a b) (.bool (bif neg then !KF a b else KF a b))
  | _,_=>bad
def unA(op:UnOp):AV->Mk
  | .int k n=>match op with
    | .neg=>DB (.int k (k.wrap (0-n)))
    | _=>bad
  | .bool b=>match op with
    | .not=>DB (.bool (!b))
    | _=>bad
  | _=>bad
def Dv(c:UInt8):AV:=.int .u8 (c.toNat:Int)
def Nm:AV->UInt8
  | .int _ n=>UInt8.ofNat n.toNat
  | _=>0
def Gu:AV->Bool
  | .int .u8 _=>true
  | _=>false
def bJ:AV->Int
  | .int _ n=>n
  | _=>-1
def BC(i:Int)(n:Nat):Bool:=decide (0<=i)&&decide (i<(n:Int))
def jK(agg:Bool)(sz i off:Nat):Option Hm->Mk
  | some h=>part agg sz off (h.els.getD i .any)
  | none=>bad
def Lq(ob:CI)(agg:Bool)(sz:Nat):AV->Mk
  | .ref k i off=>jK agg sz i off (AK k ob)
  | .ptr _ els i off=>part agg sz off (els.getD i .any)
  | _=>bad
def MG:AV->Mk
  | .ref k i off=>DB (.ref k i off)
  | .ptr sz els i off=>DB (.ptr sz els i off)
  | .fn (.func f) a b=>DB (.fn (.func f) a b)
  | _=>bad
def aL(k:IntKind):AV->Mk
  | .int _ n=>DB (.int k (k.wrap n))
  | _=>bad
def Bd(d:Nat):Nat:=32*d
def lR(k:Nat):AV->Mk
  | .str l=>⟨true,.own k,[(k,⟨1,l.map Dv⟩)]⟩
  | _=>bad
def iT(els:List AV):Mk:=ET (els.all Gu) (.str (els.map Nm))
def oZ:Option Hm->Mk
  | some h=>iT h.els
  | none=>bad
def Vy(ob:CI):AV->Mk
  | .sl _ els=>iT els
  | .nilsl=>DB (.str [])
  | .own k=>oZ (AK k ob)
  | _=>bad
def pB:Option Hm->Mk
  | some h=>DB (.int .i64 (h.els.length:Int))
  | none=>bad
def Vp(ob:CI)(st:Bool):AV->Mk
  | .str l=>ET st (.int .i64 (l.length:Int))
  | .sl _ els=>ET (!st) (.int .i64 (els.length:Int))
  | .nilsl=>ET (!st) (.int .i64 0)
  | .own k=>FQ (!st) (pB (AK k ob))
  | _=>bad
def Id(d:Int):Option AV->Int
  | some a=>bJ a
  | none=>d
def JG(a b:Int)(n:Nat):Bool:=decide (0<=a)&&(decide (a<=b)&&decide (b<=(n:Int)))
def cut{α:Type}(l:List α)(a b:Int):List α:=(l.take b.toNat).drop a.toNat
def LK(sz0:Nat)(lo hi:Option AV):AV->Mk
  | .str l=>ET ((sz0==0)&&JG (Id 0 lo) (Id l.length hi) l.length) (.str (cut l (Id 0 lo) (Id l.length hi)))
  | .sl sz els=>ET ((sz==sz0)&&JG (Id 0 lo) (Id els.length hi) els.length) (.sl sz (cut els (Id 0 lo) (Id els.length hi)))
  | .nilsl=>ET (!(sz0==0)&&JG (Id 0 lo) (Id 0 hi) 0) .nilsl
  | _=>bad
def KQ(off:Nat):AV->Mk
  | .ref k i o=>DB (.ref k i (o+off))
  | .ptr sz els i o=>DB (.ptr sz els i (o+off))
  | _=>bad
def pD(sz0 k:Nat)(i:Int):Option Hm->Mk
  | some h=>ET ((h.sz==sz0)&&BC i h.els.length) (.ref k i.toNat 0)
  | none=>bad
def JY(ob:CI)(sz0:Nat)(i:Int):AV->Mk
  | .own k=>pD sz0 k i (AK k ob)
  | .sl sz els=>ET ((sz==sz0)&&BC i els.length) (.ptr sz [els.getD i.toNat .any] 0 0)
  | _=>bad
def OR(i:Int):AV->Mk
  | .str l=>ET (BC i l.length) (Dv (l.getD i.toNat 0))
  | _=>bad
def jx(i:Nat):AV->Mk
  | .tup cs=>ET (decide (i<cs.length)) (cs.getD i .any)
  | _=>bad
def Vx(k:Nat)(a:AV):Mk:=⟨decide (1<=a.cells.length)&&a.atoms,.ref k 0 0,[(k,⟨a.cells.length,[a]⟩)]⟩
def aE:List AV->List (Nat×Nat×AV)->List AV
  | cs,[]=>cs
  | cs,p::r=>aE (DQ cs p.1 p.2.2.cells) r
def Om(n:Nat):List (Nat×Nat×AV)->Bool
  | []=>true
  | p::r=>(p.2.2.cells.length==p.2.1)&&(decide (p.1+p.2.1<=n)&&(p.2.2.atoms&&Om n r))
def MB:List AV->List (Nat×AV)->List AV
  | els,[]=>els
  | els,p::r=>MB (els.set p.1 p.2) r
def setOk(sz n:Nat):List (Nat×AV)->Bool
  | []=>true
  | p::r=>decide (p.1<n)&&((p.2.cells.length==sz)&&(p.2.atoms&&setOk sz n r))
def mm2(mx:Bool):AV->AV->AV
  | .int k x,.int _ y=>.int k (bif mx then (if x<y then y else x) else (if y<x then y else x))
  | _,_=>.any
def Uq(mx:Bool):AV->List AV->AV
  | a,[]=>a
  | a,b::r=>Uq mx (mm2 mx a b) r
def fO(k:IntKind):AV->Bool
  | .int j _=>k==j
  | _=>false
def mmA(mx:Bool):List AV->Mk
  | .int k n::r=>ET (r.all (fO k)) (Uq mx (.int k n) r)
  | _=>bad
def Yz(k sz bytes:Nat)(z:AV):AV->AV->Mk
  | .int _ n,.int _ m=>⟨(n==m)&&ANc n bytes,.own k,[(k,⟨sz,List.replicate n.toNat z⟩)]⟩
  | _,_=>bad
def AU(r:Src->AV)(ob:CI)(d:Nat):GR->Mk
  | .mov x=>DB (r x)
  | .newnil sz=>⟨true,.own (Bd d),[(Bd d,⟨sz,[]⟩)]⟩
  | .alloc z=>Vx (Bd d) z
  | .box x=>Vx (Bd d) (r x)
  | .build z ps=>ET (Om z.length (ps.map fun p=>(p.1,p.2.1,r p.2.2))) (.agg (aE z (ps.map fun p=>(p.1,p.2.1,r p.2.2))))
  | .mkSl sz z n ps=>⟨setOk sz n (ps.map fun p=>(p.1,r p.2)),.own (Bd d),[(Bd d,⟨sz,MB (List.replicate n z) (ps.map fun p=>(p.1,r p.2))⟩)]⟩
  | .load agg sz p=>Lq ob agg sz (r p)
  | .nilck x=>MG (r x)
  | .bin bl op x y=>aX bl op (r x) (r y)
  | .eqA neg ks x y=>Oq neg ks (r x) (r y)
  | .un op x=>unA op (r x)
  | .conv k x=>aL k (r x)
  | .b2s x=>Vy ob (r x)
  | .s2b x=>lR (Bd d) (r x)
  | .mkFn f fi ca=>ET ((fi.map r++ca.map r).all AV.simple) (.fn f (fi.map r) (ca.map r))
  | .make sz bytes z l c=>Yz (Bd d) sz bytes z (r l) (r c)
  | .slice sz x lo hi=>LK sz (lo.map r) (hi.map r) (r x)
  | .fldAddr off p=>KQ off (r p)
  | .fld agg off sz x=>FQ (r x).isAgg (part agg sz off (r x))
  | .ixAddr sz x i=>JY ob sz (bJ (r i)) (r x)
  | .ixStr x i=>OR (bJ (r i)) (r x)
  | .ext x i=>jx i (r x)
  | .len st x=>Vp ob st (r x)
  | .minmax mx xs=>mmA mx (xs.map r)
  | .pick _ _ _=>bad
  | .store _ _ _=>bad
  | .call _ _=>bad
  | .callp _ _=>bad
  | .callv _ _=>bad
  | .app _ _ _ _ _=>bad
  | .pur _=>bad
  | .callw _ _=>bad
  | .flat _=>bad
  | .trunc _ _ _=>bad
  | .movz _=>bad
  | .safe _ _=>bad
def tk(h:Hm):AV->AV
  | .own _=>.sl h.sz h.els
  | .ref _ i off=>.ptr h.sz h.els i off
  | _=>.any
def zm(v:AV):CI->AV
  | []=>v
  | p::_=>tk p.2 v
def Pj(m:Mk):Mk:=⟨m.ok,zm m.v m.hs,[]⟩
def Lb(d:Nat):Nat->List AV->List AV
  | _,[]=>[]
  | j,.fresh _ _::r=>.own (Bd d+j)::Lb d (j+1) r
  | j,.mem _ _ _::r=>.ref (Bd d+j) 0 0::Lb d (j+1) r
  | j,x::r=>x::Lb d (j+1) r
def Jk(d:Nat):Nat->List AV->CI
  | _,[]=>[]
  | j,.fresh sz els::r=>(Bd d+j,⟨sz,els⟩)::Jk d (j+1) r
  | j,.mem sz els _::r=>(Bd d+j,⟨sz,els⟩)::Jk d (j+1) r
  | j,_::r=>Jk d (j+1) r
def adopt(d:Nat):AV->Mk
  | .fresh sz els=>⟨true,.own (Bd d),[(Bd d,⟨sz,els⟩)]⟩
  | .tup cs=>⟨decide (cs.length<31),.tup (Lb d 1 cs),Jk d 1 cs⟩
  | .int k n=>DB (.int k n)
  | .bool b=>DB (.bool b)
  | .str l=>DB (.str l)
  | .cv v=>DB (.cv v)
  | .agg cs=>DB (.agg cs)
  | .sl sz els=>DB (.sl sz els)
  | .nilsl=>DB .nilsl
  | .ptr sz els i off=>DB (.ptr sz els i off)
  | .fn f a b=>ET ((a++b).all (fun x=>x.key1.isEmpty)) (.fn f a b)
  | .own _=>bad
  | .ref _ _ _=>bad
  | .mem sz els _=>⟨true,.ref (Bd d) 0 0,[(Bd d,⟨sz,els⟩)]⟩
  | .opt _ _=>bad
  | .any=>DB .any
def ak:AV->Mk
  | .fresh sz els=>DB (.sl sz els)
  | .mem sz els _=>DB (.ptr sz els 0 0)
  | r=>adopt 0 r
def ES(ob:CI):CI->CI
  | []=>ob
  | p::r=>ES (CR p.1 p.2 ob) r
def Ay(s:St)(c:Bool)(a:AV):Hv->St
  | .no=>{ s with ok:=s.ok&&c }
  | .push=>{ s with st:=a::s.st,ok:=s.ok&&c }
  | .var n=>{ s with vs:=s.vs.set n a,ok:=s.ok&&c }
  | .slot n=>{ s with st:=s.st.set n a,ok:=s.ok&&c }
def aR(d:Nat)(a:AV):AV:=bif a.keys.any (fun k=>k/32==d) then .any else a
def Dm(d:Nat):CI->CI
  | []=>[]
  | p::r=>bif p.1/32==d then Dm d r else p::Dm d r
def Oh(d:Nat):CI->Bool
  | []=>false
  | p::r=>(p.1/32==d)||Oh d r
def clear(s:St)(d:Nat):St :=
  bif Oh d s.ob then { s with vs:=s.vs.map (aR d),st:=s.st.map (aR d),ob:=Dm d s.ob } else s
def QC(s:St)(hs:CI):St:={ s with ob:=ES s.ob hs }
def RE(s:St)(key:Nat)(dst:Hv)(c:Bool)(a:AV):CI->St
  | []=>Ay s c a dst
  | h::hs=>Ay (QC (clear s key) (h::hs)) c a dst
def DA(s:St)(key:Nat)(dst:Hv)(m:Mk):St:=RE s key dst m.ok m.v m.hs
def fail(s:St):St:={ s with ok:=false }
structure Cal where
  ok:Bool
  f:Nat
  args:List AV
def Iq(args:List AV):AV->Cal
  | .fn (.func g) fi ca=>⟨true,g,fi++args++ca⟩
  | _=>⟨false,0,[]⟩
def lm(i:Nat):Option Hm->AV
  | some h=>.mem h.sz h.els i
  | none=>.any
def Qe:Option Hm->AV
  | some h=>.fresh h.sz h.els
  | none=>.any
def JC(ob:CI):AV->AV
  | .own k=>Qe (AK k ob)
  | .ref k i 0=>lm i (AK k ob)
  | .nilsl=>.nilsl
  | _=>.any
def Fk:AV->Bool
  | .fresh _ _=>true
  | .mem _ _ _=>true
  | .int _ _=>false
  | .bool _=>false
  | .str _=>false
  | .cv _=>false
  | .agg _=>false
  | .tup _=>false
  | .sl _ _=>false
  | .nilsl=>false
  | .ptr _ _ _ _=>false
  | .fn _ _ _=>false
  | .own _=>false
  | .ref _ _ _=>false
  | .opt _ _=>false
  | .any=>false
def ZH:AV->Bool
  | .nilsl=>true
  | _=>false
def EO:List Md->List AV->Bool
  | .bor::ms,a::as=>!Fk a&&EO ms as
  | .io::ms,a::as=>Fk a&&EO ms as
  | .mov::ms,a::as=>(Fk a||ZH a)&&EO ms as
  | [],[]=>true
  | _,_=>false
def De(ob:CI):Md->AV->AV
  | .bor,a=>a.dv ob
  | .io,a=>JC ob a
  | .mov,a=>JC ob a
def BU(ob:CI):List Md->List AV->List AV
  | m::ms,a::as=>De ob m a::BU ob ms as
  | _,_=>[]
def BW:List Md->List AV->List Nat
  | .bor::ms,_::as=>BW ms as
  | .io::ms,a::as=>a.key1++BW ms as
  | .mov::ms,a::as=>a.key1++BW ms as
  | _,_=>[]
def EA:List Md->List AV->List Nat
  | .bor::ms,a::as=>a.keys++EA ms as
  | .io::ms,_::as=>EA ms as
  | .mov::ms,_::as=>EA ms as
  | _,_=>[]
def Dg:List Nat->Bool
  | []=>true
  | k::r=>!r.any (· == k)&&Dg r
def apart(ks bs:List Nat):Bool:=ks.all fun k=>!bs.any (· == k)
def killAll(s:St)(k:Nat):St:={ s with vs:=s.vs.map (AV.kill k),st:=s.st.map (AV.kill k),ob:=JU k s.ob }
def Ae(s:St):List Md->List AV->List AV->St
  | .bor::ms,_::as,_::os=>Ae s ms as os
  | .io::ms,.own k::as,.fresh sz els::os=>Ae { s with ob:=CR k ⟨sz,els⟩ s.ob } ms as os
  | .io::ms,.ref k _ 0::as,.mem sz els _::os=>Ae { s with ob:=CR k ⟨sz,els⟩ s.ob } ms as os
  | .mov::ms,.own k::as,_::os=>Ae (killAll s k) ms as os
  | .mov::ms,.nilsl::as,_::os=>Ae s ms as os
  | [],[],[]=>s
  | _,_,_=>fail s
def Qp(C:Ak)(s:St)(args:List AV):St:=bif C.flat then s else freezeAll s (EA C.modes args)
def NB(s:St)(key:Nat)(dst:Hv)(modes:List Md)(args:List AV)(c:Bool)(q:Rs):St :=
  DA (Ae s modes args q.outs) key dst (FQ (c&&q.ok) (adopt key q.r))
def Lv(s:St)(key:Nat)(dst:Hv)(args:List AV):Option Ak->St
  | some C=>NB (Qp C s args) key dst C.modes args
      (EO C.modes (BU s.ob C.modes args)&&((C.modes.length==args.length)&&(Dg (BW C.modes args)&&apart (BW C.modes args) (EA C.modes args)))) (C.F (BU s.ob C.modes args))
  | none=>fail s
def Iu(T:Il)(s:St)(key:Nat)(dst:Hv)(c:Cal):St :=
  Lv { s with ok:=s.ok&&c.ok } key dst c.args (T c.f)
def aS(ob:CI)(args:List AV):Option Ak->Mk
  | some C=>FQ ((C.modes.length==args.length)&&(EO C.modes (BU ob C.modes args)&&C.modes.all (· == .bor)&&((C.flat||args.all (fun a=>a.keys.isEmpty))&&(C.F (BU ob C.modes args)).ok)))
      (ak (C.F (BU ob C.modes args)).r)
  | none=>bad
def CY(T:Il)(ob:CI)(c:Cal):Mk:=FQ c.ok (aS ob c.args (T c.f))
def Qs(s:St)(k i sz off:Nat)(x el:AV)(h:Hm):St :=
  { s with ob:=CR k ⟨h.sz,h.els.set i (el.like (DQ el.cells off x.cells))⟩ s.ob,ok:=s.ok&&(decide (i<h.els.length)&&((x.cells.length==sz)&&(decide (off+sz<=el.cells.length)&&x.atoms))) }
def QF(s:St)(k i sz off:Nat)(x:AV):Option Hm->St
  | some h=>Qs s k i sz off x (h.els.getD i .any) h
  | none=>fail s
def JK(s:St)(sz:Nat)(x:AV):AV->St
  | .ref k i off=>QF s k i sz off x (AK k s.ob)
  | _=>fail s
structure Ap where
  ok:Bool
  sz:Nat
  els:List AV
def cD:Option Hm->Ap
  | some h=>⟨true,h.sz,h.els⟩
  | none=>⟨false,0,[]⟩
def CM(sz:Nat)(ob:CI):AV->Ap
  | .str l=>⟨sz==1,sz,l.map Dv⟩
  | .sl sz2 els=>⟨sz2==sz,sz,els⟩
  | .nilsl=>⟨true,sz,[]⟩
  | .own k=>cD (AK k ob)
  | _=>⟨false,0,[]⟩
def Uz(s:St)(key:Nat)(dst:Hv)(sz bytes:Nat)(y:Ap)(k:Nat):Option Hm->St
  | some h=>Ay { s with vs:=s.vs.map (AV.kill k),st:=s.st.map (AV.kill k),ob:=CR k ⟨sz,h.els++y.els⟩ s.ob }
      ((h.sz==sz)&&((y.sz==sz)&&(y.ok&&EY (h.els.length+y.els.length) bytes))) (.own k) dst
  | none=>fail s
def Qi(s:St)(key:Nat)(dst:Hv)(sz bytes:Nat)(y:Ap):AV->St
  | .own k=>Uz s key dst sz bytes y k (AK k s.ob)
  | .nilsl=>DA s key dst ⟨(y.sz==sz)&&(y.ok&&EY y.els.length bytes),.own (Bd key),[(Bd key,⟨sz,y.els⟩)]⟩
  | _=>fail s
def Cg(s:St):GR->List Nat
  | .box x=>(rd s x).keys
  | .build _ ps=>ps.flatMap fun p=>(rd s p.2.2).keys
  | .mkSl _ _ _ ps=>ps.flatMap fun p=>(rd s p.2).keys
  | .store _ _ x=>(rd s x).keys
  | .slice _ x _ _=>(rd s x).keys
  | _=>[]
def AV.lone:AV->Bool
  | .int _ _=>true
  | .bool _=>true
  | .str _=>true
  | .nilsl=>true
  | .sl _ _=>true
  | .ptr _ _ _ _=>true
  | .agg _=>true
  | .own _=>true
  | .ref _ _ _=>true
  | .cv _=>true
  | .any=>true
  | .fn _ fi ca=>(fi++ca).all (fun a=>a.key1.isEmpty)
  | .tup _=>false
  | .fresh _ _=>false
  | .mem _ _ _=>false
  | .opt _ _=>false
def JB(m:Mk):Mk:=⟨m.ok&&(m.hs.isEmpty&&m.v.lone),m.v,[]⟩
def BG:GR->List Src
  | .box x=>[x]
  | .build _ ps=>ps.map fun p=>p.2.2
  | .mkSl _ _ _ ps=>ps.map fun p=>p.2
  | .s2b x=>[x]
  | .make _ _ _ l c=>[l,c]
  | .mov x=>[x]
  | .load _ _ p=>[p]
  | .nilck x=>[x]
  | .bin _ _ x y=>[x,y]
  | .eqA _ _ x y=>[x,y]
  | .un _ x=>[x]
  | .conv _ x=>[x]
  | .b2s x=>[x]
  | .slice _ x lo hi=>x::(lo.toList++hi.toList)
  | .fldAddr _ p=>[p]
  | .fld _ _ _ x=>[x]
  | .ixAddr _ x i=>[x,i]
  | .ixStr x i=>[x,i]
  | .ext x _=>[x]
  | .len _ x=>[x]
  | .minmax _ xs=>xs
  | .call _ args=>args
  | .callv f args=>f::args
  | .trunc _ x hi=>[x,hi]
  | .movz x=>[x]
  | _=>[]
def Ar:GR->Bool
  | .alloc _=>true
  | .box _=>true
  | .build _ _=>true
  | .mkSl _ _ _ _=>true
  | .s2b _=>true
  | .make _ _ _ _ _=>true
  | .mov _=>true
  | .load _ _ _=>true
  | .nilck _=>true
  | .bin _ _ _ _=>true
  | .eqA _ _ _ _=>true
  | .un _ _=>true
  | .conv _ _=>true
  | .b2s _=>true
  | .slice _ _ _ _=>true
  | .fldAddr _ _=>true
  | .fld _ _ _ _=>true
  | .ixAddr _ _ _=>true
  | .ixStr _ _=>true
  | .ext _ _=>true
  | .len _ _=>true
  | .minmax _ _=>true
  | .call _ _=>true
  | .callv _ _=>true
  | _=>false
def Ib(T:Il)(s:St)(key:Nat):GR->Mk
  | .call f args=>JB (CY T s.ob ⟨true,f,args.map (rd s)⟩)
  | .callv f args=>JB (CY T s.ob (Iq (args.map (rd s)) (rd s f)))
  | op=>bif Ar op then JB (Pj (AU (rd s) s.ob key op)) else bad
def DE:AV->Bool
  | .int _ _=>true
  | .bool _=>true
  | .str _=>true
  | .cv _=>false
  | .agg _=>false
  | .tup _=>false
  | .sl _ _=>false
  | .nilsl=>false
  | .ptr _ _ _ _=>false
  | .fn _ _ _=>false
  | .own _=>false
  | .ref _ _ _=>false
  | .fresh _ _=>false
  | .mem _ _ _=>false
  | .opt _ _=>false
  | .any=>false
def IF(T:Il)(r:Src->AV)(key:Nat):GR->Mk
  | .callp f args=>JB (CY T [] ⟨true,f,args.map r⟩)
  | .pur (.slice sz x lo hi)=>JB (Pj (AU r [] key (.slice sz x lo hi)))
  | .mov x=>AU r [] key (.mov x)
  | .bin bl op x y=>AU r [] key (.bin bl op x y)
  | .un op x=>AU r [] key (.un op x)
  | .conv k x=>AU r [] key (.conv k x)
  | .ixStr x i=>AU r [] key (.ixStr x i)
  | .len st x=>AU r [] key (.len st x)
  | _=>bad
def EM:GR->List Src
  | .callp _ args=>args
  | .pur a=>BG a
  | a=>BG a
def Ls(b:Bool)(m:Mk):Mk:=bif b&&(m.hs.isEmpty&&DE m.v) then ⟨m.ok,m.v,[]⟩ else bad
def UH(s:St)(dst:Hv)(sz:Nat)(n:Int)(k:Nat):Option Hm->St
  | some h=>Ay { s with vs:=s.vs.map (AV.kill k),st:=s.st.map (AV.kill k),ob:=CR k ⟨h.sz,h.els.take n.toNat⟩ s.ob }
      ((h.sz==sz)&&((!(k%32==31))&&JG 0 n h.els.length)) (.own k) dst
  | none=>fail s
def JJ(s:St)(dst:Hv)(sz:Nat)(n:Int):AV->St
  | .own k=>UH s dst sz n k (AK k s.ob)
  | _=>fail s
def Ec:GR->Bool
  | .mov _=>true
  | .load _ _ _=>true
  | .nilck _=>true
  | .bin _ _ _ _=>true
  | .eqA _ _ _ _=>true
  | .un _ _=>true
  | .conv _ _=>true
  | .b2s _=>true
  | .mkFn _ _ _=>true
  | .fldAddr _ _=>true
  | .fld _ _ _ _=>true
  | .ixAddr _ _ _=>true
  | .ixStr _ _=>true
  | .ext _ _=>true
  | .len _ _=>true
  | .minmax _ _=>true
  | _=>false
def OL(T:Il)(r:Src->AV)(ob:CI)(key:Nat):GR->Mk
  | .call f args=>JB (CY T ob ⟨true,f,args.map r⟩)
  | .callv f args=>JB (CY T ob (Iq (args.map r) (r f)))
  | op=>bif Ar op then JB (Pj (AU r ob key op)) else bad
def Ia(T:Il)(r:Src->AV)(ob:CI)(key:Nat):GR->Mk
  | .pur (.callv _ _)=>bad
  | .pur a=>OL T r ob key a
  | .pick c a b=>LL true (r a) (r b) (r c)
  | .callp f args=>JB (CY T ob ⟨true,f,args.map r⟩)
  | op=>bif Ec op then AU r ob key op else bad
def DZ:GR->List Src
  | .mkFn _ fi ca=>fi++ca
  | .pick c a b=>[c,a,b]
  | .callp _ args=>args
  | .pur a=>BG a
  | a=>BG a
def Jo:AV->Bool
  | .any=>true
  | .int _ _=>false
  | .bool _=>false
  | .str _=>false
  | .cv _=>false
  | .agg _=>false
  | .tup _=>false
  | .sl _ _=>false
  | .nilsl=>false
  | .ptr _ _ _ _=>false
  | .fn _ _ _=>false
  | .own _=>false
  | .ref _ _ _=>false
  | .fresh _ _=>false
  | .mem _ _ _=>false
  | .opt _ _=>false
def NP(ds:List Nat)(a:AV):Bool:=!Jo a && !a.keys.any (fun k=>ds.any (· == k/32))
def Jy:List Nat->CI->CI
  | [],ob=>ob
  | d::r,ob=>Jy r (Dm d ob)
def Yd(b:Bool)(ds:List Nat)(m:Mk):Mk:=bif b&&(m.hs.isEmpty&&NP ds m.v) then ⟨m.ok,m.v,[]⟩ else bad
def Jm(T:Il)(r:Src->AV)(ob:CI)(key:Nat)(ds:List Nat)(a:GR):Mk:=Yd ((DZ a).all fun x=>NP ds (r x)) ds (Ia T r (Jy ds ob) key a)
def CL(T:Il)(s:St)(key:Nat)(dst:Hv):GR->St
  | .store sz p x=>JK (freezeAll s (rd s x).keys) sz (rd (freezeAll s (rd s x).keys) x) (rd (freezeAll s (rd s x).keys) p)
  | .app sz bytes _ a x=>Qi s key dst sz bytes (CM sz s.ob (rd s x)) (rd s a)
  | .call f args=>Iu T s key dst ⟨true,f,args.map (rd s)⟩
  | .callv f args=>Iu T s key dst (Iq (args.map (rd s)) (rd s f))
  | .callp f args=>DA s key dst (JB (CY T s.ob ⟨true,f,args.map (rd s)⟩))
  | .pur a=>DA s key dst (Ib T s key a)
  | .callw _ _=>fail s
  | .flat a=>DA s key dst (Ls ((EM a).all fun x=>DE (rd s x)) (IF T (rd s) key a))
  | .trunc sz x hi=>JJ s dst sz (bJ (rd s hi)) (rd s x)
  | .movz x=>DA (freezeAll s (rd s x).keys) key dst (AU (rd (freezeAll s (rd s x).keys)) (freezeAll s (rd s x).keys).ob key (.mov x))
  | .safe ds a=>DA s key dst (Jm T (rd s) s.ob key ds a)
  | .pick c a b=>DA s key dst (LL true (rd s a) (rd s b) (rd s c))
  | .box x=>DA (freezeAll s (rd s x).keys) key dst (Vx (Bd key) (rd (freezeAll s (rd s x).keys) x))
  | .build z ps=>DA (freezeAll s (Cg s (.build z ps))) key dst (AU (rd (freezeAll s (Cg s (.build z ps)))) (freezeAll s (Cg s (.build z ps))).ob key (.build z ps))
  | .mkSl sz z n ps=>DA (freezeAll s (Cg s (.mkSl sz z n ps))) key dst (AU (rd (freezeAll s (Cg s (.mkSl sz z n ps)))) (freezeAll s (Cg s (.mkSl sz z n ps))).ob key (.mkSl sz z n ps))
  | .slice sz x lo hi=>DA (freezeAll s (rd s x).keys) key dst (AU (rd (freezeAll s (rd s x).keys)) (freezeAll s (rd s x).keys).ob key (.slice sz x lo hi))
  | .mov x=>DA s key dst (AU (rd s) s.ob key (.mov x))
  | .alloc z=>DA s key dst (AU (rd s) s.ob key (.alloc z))
  | .newnil sz=>DA s key dst (AU (rd s) s.ob key (.newnil sz))
  | .load agg sz p=>DA s key dst (AU (rd s) s.ob key (.load agg sz p))
  | .nilck x=>DA s key dst (AU (rd s) s.ob key (.nilck x))
  | .bin bl op x y=>DA s key dst (AU (rd s) s.ob key (.bin bl op x y))
  | .eqA neg ks x y=>DA s key dst (AU (rd s) s.ob key (.eqA neg ks x y))
  | .un op x=>DA s key dst (AU (rd s) s.ob key (.un op x))
  | .conv k x=>DA s key dst (AU (rd s) s.ob key (.conv k x))
  | .s2b x=>DA s key dst (AU (rd s) s.ob key (.s2b x))
  | .b2s x=>DA s key dst (AU (rd s) s.ob key (.b2s x))
  | .mkFn f fi ca=>DA s key dst (AU (rd s) s.ob key (.mkFn f fi ca))
  | .make sz bytes z l c=>DA s key dst (AU (rd s) s.ob key (.make sz bytes z l c))
  | .fldAddr off p=>DA s key dst (AU (rd s) s.ob key (.fldAddr off p))
  | .fld agg off sz x=>DA s key dst (AU (rd s) s.ob key (.fld agg off sz x))
  | .ixAddr sz x i=>DA s key dst (AU (rd s) s.ob key (.ixAddr sz x i))
  | .ixStr x i=>DA s key dst (AU (rd s) s.ob key (.ixStr x i))
  | .ext x i=>DA s key dst (AU (rd s) s.ob key (.ext x i))
  | .len st x=>DA s key dst (AU (rd s) s.ob key (.len st x))
  | .minmax mx xs=>DA s key dst (AU (rd s) s.ob key (.minmax mx xs))
def AAT:AV->Bool
  | .bool b=>b
  | _=>false
def WK:AV->Bool
  | .bool _=>true
  | _=>false
def jm(want:Bool):AV->Bool
  | .bool b=>b==want
  | .opt c a=>c&&(AAT a==want)
  | _=>false
def Ok:AV->Bool
  | .bool _=>true
  | .opt c a=>!c||WK a
  | _=>false
def UF(s:St):Src->AV
  | .v n=>Ho (s.vs.getD n .any)
  | .s n=>Ho (s.st.getD n .any)
  | .c a=>a
def Cx(T:Il)(s:St)(w:Bool)(key:Nat):GR->Mk
  | .pick c a b=>FQ (Ch w (rd s c)) (LL w (rd s a) (rd s b) (UF s c))
  | .call f args=>FQ ((BG (.call f args)).all fun x=>Ch w (rd s x)) (CY T s.ob ⟨true,f,args.map (UF s)⟩)
  | .callv f args=>FQ ((BG (.callv f args)).all fun x=>Ch w (rd s x)) (CY T s.ob (Iq (args.map (UF s)) (UF s f)))
  | op=>FQ (Ar op&&(BG op).all fun x=>Ch w (rd s x)) (Pj (AU (UF s) s.ob key op))
def ME(s:St)(w:Bool)(dst:Hv)(m:Mk):St:=Ay s (!w||(m.ok&&(m.hs.isEmpty&&m.v.lone))) (.opt w m.v) dst
def nH(T:Il)(s:St)(key:Nat)(dst:Hv)(f:Nat)(args:List Src)(w:Bool):St :=
  if w=true then Iu T s key dst ⟨args.all fun x=>Ch true (rd s x),f,args.map (UF s)⟩ else ME s false dst (DB .any)
def Ke(T:Il)(s:St)(key:Nat)(dst:Hv)(w:Bool):GR->St
  | .callw f args=>nH T s key dst f args w
  | op=>ME s w dst (Cx T s w key op)
def Uk(T:Il)(s:St)(key:Nat)(dst:Hv)(op:GR):Option (Src×Bool)->St
  | none=>CL T s key dst op
  | some g=>Ke T { s with ok:=s.ok&&Ok (rd s g.1) } key dst (jm g.2 (rd s g.1)) op
def Cp(T:Il)(s:St)(i:Kw):St:=Uk T s i.key i.dst i.op i.guard
def Ef(T:Il):List Kw->St->St
  | [],s=>s
  | i::r,s=>Ef T r (Cp T s i)
def drop(s:St):St:={ s with st:=[] }
def Hl:List Bool->List AV->List AV
  | true::m,a::r=>a::Hl m r
  | false::m,_::r=>.any::Hl m r
  | _,_=>[]
def OQ(tm:List AV):CI->CI
  | []=>[]
  | p::r=>bif tm.any (fun a=>a.names p.1) then p::OQ tm r else OQ tm r
def keepB(m:List Bool)(s:St):St:={ vs:=Hl m s.vs,st:=[],ob:=OQ (Hl m s.vs) s.ob,ok:=s.ok }
def ddp:List Nat->List Nat->List Nat
  | _,[]=>[]
  | seen,k::r=>bif seen.any (· == k) then ddp seen r else k::ddp (k::seen) r
def Ux(j x:Nat):Nat:=bif x%32==31 then x else 32*(100000+j)
def oj:List Nat->Nat->Nat->Nat
  | [],_,k=>k
  | x::r,j,k=>bif k==x then Ux j x else oj r (j+1) k
def AV.re1(π:Nat->Nat):AV->AV
  | .own k=>.own (π k)
  | .ref k i off=>.ref (π k) i off
  | .int k n=>.int k n
  | .bool b=>.bool b
  | .str l=>.str l
  | .cv v=>.cv v
  | .agg cs=>.agg cs
  | .tup cs=>.tup cs
  | .sl sz els=>.sl sz els
  | .nilsl=>.nilsl
  | .ptr sz els i off=>.ptr sz els i off
  | .fn f a b=>.fn f a b
  | .fresh sz els=>.fresh sz els
  | .mem sz els i=>.mem sz els i
  | .opt b a=>.opt b a
  | .any=>.any
def AV.re(π:Nat->Nat):AV->AV
  | .own k=>.own (π k)
  | .ref k i off=>.ref (π k) i off
  | .fn f fi ca=>.fn f (fi.map (AV.re1 π)) (ca.map (AV.re1 π))
  | .tup cs=>.tup (cs.map (AV.re1 π))
  | .opt b a=>.opt b (a.re1 π)
  | .int k n=>.int k n
  | .bool b=>.bool b
  | .str l=>.str l
  | .cv v=>.cv v
  | .agg cs=>.agg cs
  | .sl sz els=>.sl sz els
  | .nilsl=>.nilsl
  | .ptr sz els i off=>.ptr sz els i off
  | .fresh sz els=>.fresh sz els
  | .mem sz els i=>.mem sz els i
  | .any=>.any
def cM(k:Nat)(r:CI):Option Hm->CI
  | some h=>CR k h r
  | none=>r
def ey(π:Nat->Nat)(ob:CI):List Nat->CI
  | []=>[]
  | k::r=>cM (π k) (ey π ob r) (AK k ob)
def canonK(s:St)(ks:List Nat):St:={ vs:=s.vs.map (AV.re (oj ks 0)),st:=[],ob:=ey (oj ks 0) s.ob ks,ok:=s.ok }
def nZ(s:St):CI->St
  | []=>s
  | _::_=>canonK s (ddp [] (s.vs.flatMap AV.keys))
def kQ(s:St):St:=nZ s s.ob
def keepS(m:List Bool)(s:St):St:=kQ (keepB m s)
abbrev Fw:=Ex×St
def IZ(k:St->Fw):Fw->Fw
  | (.norm,s)=>k s
  | (.exit id,s)=>(.exit id,s)
  | (.ret,s)=>(.ret,s)
def Oe(id:Nat):Fw->Fw
  | (.exit j,s)=>bif j==id then (.norm,s) else (.exit j,s)
  | (.norm,s)=>(.norm,s)
  | (.ret,s)=>(.ret,s)
def LW(a b:St->Fw)(s:St):AV->Fw
  | .bool c=>if c=true then a s else b s
  | _=>(.norm,fail s)
def Ic(kp ot rt:List Bool):Fw->Fw
  | (.norm,s)=>(.norm,keepS kp s)
  | (.exit id,s)=>(.exit id,keepS ot s)
  | (.ret,s)=>(.ret,keepS rt s)
def RP(m:List Bool):Fw->Fw
  | (.norm,s)=>(.norm,keepS m s)
  | (.exit id,s)=>(.exit id,s)
  | (.ret,s)=>(.ret,s)
def CV(f:St->Fw)(kp ot rt:List Bool):Nat->St->Fw
  | 0,s=>(.norm,fail s)
  | n+1,s=>IZ (CV f kp ot rt n) (Ic kp ot rt (f s))
def UZ(is:List Kw)(l:List Nat):List Kw:=l.map fun i=>is.getD i ⟨.no,0,none,.mov (.c .any)⟩
def Oy (T:Il) (is:List Kw) (s r:St):List (List Nat)->Bool
  | []=>true
  | l::rest=>(@decide (Ef T (UZ is l) s=r) (Classical.propDecidable _))&&Oy T is s r rest
def slots(k:Nat)(s:St):St:={ s with st:=List.replicate k .any }
def pq(s:St)(b:Bool):St:={ s with ok:=s.ok&&b }
def TG (T:Il) (k:Nat) (is:List Kw) (alts:List (List Nat)) (s:St):St :=
  pq (Ef T is (slots k s)) (Oy T is (slots k s) (Ef T is (slots k s)) alts)
def Qq(c:Src)(a b:St->Fw)(s:St):Fw:=LW a b (drop s) (rd s c)
def Aq (T:Il) (L:Nat):IR->St->Fw
  | .skip,s=>(.norm,s)
  | .region _ is,s=>(.norm,drop (Ef T is s))
  | .test _ is c a b,s=>Qq c (Aq T L a) (Aq T L b) (Ef T is s)
  | .anyo k is alts .skip,s=>(.norm,drop (TG T k is alts s))
  | .anyo k is alts (.cond c a b),s=>Qq c (Aq T L a) (Aq T L b) (TG T k is alts s)
  | .anyo _ _ _ _,s=>(.norm,fail s)
  | .seq a b,s=>IZ (Aq T L b) (Aq T L a s)
  | .cond c a b,s=>LW (Aq T L a) (Aq T L b) s (rd s c)
  | .block id a,s=>Oe id (Aq T L a s)
  | .loop keep out rt a,s=>CV (Aq T L a) keep out rt L (keepS keep s)
  | .mask m a,s=>RP m (Aq T L a s)
  | .exit id,s=>(.exit id,s)
  | .ret,s=>(.ret,s)
def AH(j:Nat):Nat:=32*j+31
def Ka:Nat->List AV->List AV
  | _,[]=>[]
  | j,.fresh _ _::r=>.own (AH j)::Ka (j+1) r
  | j,.mem _ _ i::r=>.ref (AH j) i 0::Ka (j+1) r
  | j,x::r=>x::Ka (j+1) r
def BI:Nat->List AV->CI
  | _,[]=>[]
  | j,.fresh sz els::r=>(AH j,⟨sz,els⟩)::BI (j+1) r
  | j,.mem sz els _::r=>(AH j,⟨sz,els⟩)::BI (j+1) r
  | j,_::r=>BI (j+1) r
def Ul(nv:Nat)(args:List AV):St:={ vs:=Ka 0 args++List.replicate (nv-args.length) .any,st:=[],ob:=BI 0 args,ok:=true }
def WI(ob:CI)(agg:Bool)(sz:Nat):AV->Mk
  | .ref k i off=>jK agg sz i off (AK k ob)
  | _=>bad
def Nw(s:St):vN->Mk
  | .t n=>DB (s.vs.getD n .any)
  | .cell agg sz p=>WI s.ob agg sz (s.vs.getD p .any)
def gI:Option Hm->Mk
  | some h=>DB (.fresh h.sz h.els)
  | none=>bad
def gH(i off:Nat):Option Hm->Mk
  | some h=>ET ((i==0)&&((off==0)&&(h.els.length==1))) (.mem h.sz h.els 0)
  | none=>bad
def CP(ob:CI):AV->Mk
  | .own k=>gI (AK k ob)
  | .ref k i off=>gH i off (AK k ob)
  | .tup _=>bad
  | .any=>bad
  | .fresh _ _=>bad
  | .mem _ _ _=>bad
  | .opt _ _=>bad
  | .fn f a b=>ET ((a++b).all (fun x=>x.key1.isEmpty)) (.fn f a b)
  | .int k n=>DB (.int k n)
  | .bool b=>DB (.bool b)
  | .str l=>DB (.str l)
  | .cv v=>DB (.cv v)
  | .agg cs=>DB (.agg cs)
  | .sl sz els=>DB (.sl sz els)
  | .nilsl=>DB .nilsl
  | .ptr sz els i off=>DB (.ptr sz els i off)
def Vs:AV->AV
  | .fresh sz els=>.sl sz els
  | .mem sz els _=>.ptr sz els 0 0
  | a=>a
def Ny:AV->AV
  | .tup cs=>.tup (cs.map Vs)
  | a=>Vs a
def ANu(q:Rs):Rs:=⟨q.ok,Ny q.r,q.outs⟩
def co:AV->Bool
  | .mem _ _ _=>true
  | _=>false
def ae(m:Bool)(n:Nat):Option Hm->Mk
  | some h=>ET (h.els.length==n) (bif m then .mem h.sz h.els 0 else .fresh h.sz h.els)
  | none=>bad
def gP:AV->Nat
  | .fresh _ els=>els.length
  | .mem _ els _=>els.length
  | _=>0
def Np(ob:CI)(j:Nat)(a:AV):Md->Mk
  | .io=>ae (co a) (gP a) (AK (AH j) ob)
  | .bor=>DB .any
  | .mov=>DB .any
def TE(ob:CI):List Md->Nat->List AV->List Mk
  | m::ms,j,a::r=>Np ob j a m::TE ob ms (j+1) r
  | _,_,_=>[]
def Hz:List Md->Nat->List Nat
  | .io::ms,j=>AH j::Hz ms (j+1)
  | .bor::ms,j=>Hz ms (j+1)
  | .mov::ms,j=>Hz ms (j+1)
  | [],_=>[]
def RK:List AV->AV
  | [a]=>a
  | []=>.cv undef
  | a::b::r=>.tup (a::b::r)
def gG(modes:List Md)(rs:List AV):Bool :=
  Dg (rs.flatMap AV.key1)&&apart (rs.flatMap AV.key1) (Hz modes 0)
def aD(s:St)(modes:List Md)(args:List AV)(ms:List Mk):Rs :=
  ⟨s.ok&&(ms.all (·.ok)&&(gG modes (ms.map (·.v))&&(((ms.map (·.v)).map (CP s.ob)).all (·.ok)&&(TE s.ob modes 0 args).all (·.ok)))),
    RK (((ms.map (·.v)).map (CP s.ob)).map (·.v)),(TE s.ob modes 0 args).map (·.v)⟩
def Jh(fn:CN)(modes:List Md)(args:List AV):Fw->Rs
  | (.exit _,_)=>Rs.bad
  | (.norm,s)=>aD s modes args (fn.res.map (Nw s))
  | (.ret,s)=>aD s modes args (fn.res.map (Nw s))
def fits(fn:CN)(modes:List Md)(args:List AV):Bool:=EO modes args&&((args.length==fn.np)&&(modes.length==fn.np))
def kO(c:Bool)(r:Rs):Rs:=⟨c&&r.ok,r.r,r.outs⟩
def MD (T:Il) (L:Nat) (fn:CN) (modes:List Md) (args:List AV):Rs :=
  kO (fits fn modes args) (Jh fn modes args (Aq T L fn.body (Ul fn.nv args)))
end Go.Proofs.YteaicgcfpcklkaaGreatDoor
namespace Go.Proofs.YteaicgcfpcklkaaGreatDoor
open Go Go.RowKit
def GT(S:Nat->Prop)(w:World):Prop:=∀ q,q∈iJ->¬ S q.1∧∃ cs T fz,w.heap[q.1]? = some (.cells cs T fz)∧q.2 cs
inductive VR(S:Nat->Prop)(w:World):Value->AV->Prop
 | int {k n}:VR S w (.int k n) (.int k n)
 | bool {b}:VR S w (.bool b) (.bool b)
 | str {l}:VR S w (.string ⟨l.toArray⟩) (.str l)
 | cv {v}:VR S w v (.cv v)
 | nilsl:VR S w (.slice none 0 0) .nilsl
 | any {v}:VR S w v .any
 | agg {cs:Array Value} {as:List AV} (hn:cs.size=as.length) (ha:∀ j,j<as.length->(as.getD j .any).atom=true)
   (h:∀ j,j<as.length->VR S w (cs.getD j undef) (as.getD j .any)):VR S w (.agg cs) (.agg as)
 | tup {cs:Array Value} {as:List AV} (hn:cs.size=as.length)
   (h:∀ j,j<as.length->VR S w (cs.getD j undef) (as.getD j .any)):VR S w (.tuple cs) (.tup as)
 | sl {a:Option Addr} {n cap sz:Nat} {els:List AV} (b off:Nat) (rd:Nat->Nat->Value) (hn:n=els.length) (hcap:n<=cap) (hsz:1<=sz)
   (ha:0<els.length->a=some ⟨b,off,none⟩∧¬ S b)
   (hc:∀ i,i<els.length->(els.getD i .any).cells.length=sz∧(els.getD i .any).atoms=true)
   (hw:∀ i j,i<els.length->j<sz->w.cell? ⟨b,off+(i*sz+j),none⟩=some (rd i j))
   (h:∀ i j,i<els.length->j<sz->VR S w (rd i j) ((els.getD i .any).cells.getD j .any)):VR S w (.slice a n cap) (.sl sz els)
 | ptr {sz:Nat} {els:List AV} {i0 o0:Nat} (b off:Nat) (rd:Nat->Nat->Value) (hsz:1<=sz) (hi:i0<els.length) (hs:¬ S b)
   (hc:∀ i,i<els.length->(els.getD i .any).cells.length=sz∧(els.getD i .any).atoms=true)
   (hw:∀ i j,i<els.length->j<sz->w.cell? ⟨b,off+(i*sz+j),none⟩=some (rd i j))
   (h:∀ i j,i<els.length->j<sz->VR S w (rd i j) ((els.getD i .any).cells.getD j .any)) :
   VR S w (.pointer (some ⟨b,off+(i0*sz+o0),none⟩)) (.ptr sz els i0 o0)
 | fn {f:Fn} {v1 v2:Array Value} {a1 a2:List AV} (h1n:v1.size=a1.length) (h2n:v2.size=a2.length)
   (h1:∀ j,j<a1.length->VR S w (v1.getD j undef) (a1.getD j .any)) (h2:∀ j,j<a2.length->VR S w (v2.getD j undef) (a2.getD j .any)) :
   VR S w (.func f v1 v2) (.fn f a1 a2)
structure AR(S:Nat->Prop)(w w':World):Prop where
 os:w'.os=w.os
 tape:w'.tape=w.tape
 output:w'.output=w.output
 size:w.heap.size<=w'.heap.size
 block:∀ b,b<w.heap.size->¬ S b->w'.heap[b]? = w.heap[b]?
theorem AR.refl(S:Nat->Prop)(w:World):AR S w w:=⟨rfl,rfl,rfl,Nat.le_refl _,fun _ _ _=>rfl⟩
theorem AR.trans{S:Nat->Prop}{a b c:World}(h:AR S a b)(k:AR S b c):AR S a c :=
 ⟨k.os.trans h.os,k.tape.trans h.tape,k.output.trans h.output,Nat.le_trans h.size k.size,fun x hx hs=>(k.block x (Nat.lt_of_lt_of_le hx h.size) hs).trans (h.block x hx hs)⟩
theorem AR.mono{S S':Nat->Prop}{w w':World}(h:AR S w w')(hs:∀ b,b<w.heap.size->S b->S' b):AR S' w w' :=
 ⟨h.os,h.tape,h.output,h.size,fun b hb hn=>h.block b hb fun c=>hn (hs b hb c)⟩
theorem AR.alloc(S:Nat->Prop)(w:World)(o:Obj):AR S w (w.alloc o) :=
 ⟨rfl,rfl,rfl,by simp,fun b hb _=>Below.heap_alloc w o b hb⟩
theorem AR.drew(S:Nat->Prop)(w:World):AR S w w.drew:=⟨rfl,rfl,rfl,Nat.le_refl _,fun _ _ _=>rfl⟩
theorem Ek{w w':World}{a:Addr}(h:w'.heap[a.block]? = w.heap[a.block]?):w'.cell? a=w.cell? a:=by
 unfold World.cell?;rw[h]
theorem AR.cell{S:Nat->Prop}{w w':World}(h:AR S w w'){b o:Nat}{v:Value}(hs:¬ S b)(hc:w.cell? ⟨b,o,none⟩=some v):w'.cell? ⟨b,o,none⟩=some v:=by
 have hb:=World.block_lt_of_cell? w ⟨b,o,none⟩ hc;rw[Ek (a:=⟨b,o,none⟩) (h.block b hb hs),hc]
theorem VR.mono{S S':Nat->Prop}{w w':World}(hsame:AR S w w')(hS:∀ b,b<w.heap.size->S' b->S b){v:Value}{a:AV}(h:VR S w v a):VR S' w' v a:=by
 induction h with
 | int=>exact .int
 | bool=>exact .bool
 | str=>exact .str
 | cv=>exact .cv
 | nilsl=>exact .nilsl
 | any=>exact .any
 | agg hn ha _ ih=>exact .agg hn ha ih
 | tup hn _ ih=>exact .tup hn ih
 | fn h1n h2n _ _ i1 i2=>exact .fn h1n h2n i1 i2
 | @sl a n cap sz els b off rd hn hcap hsz ha hc hw _ ih=>
  refine .sl b off rd hn hcap hsz (fun hp=>?_) hc (fun i j hi hj=>hsame.cell (ha (by omega)).2 (hw i j hi hj)) ih;have hb:=World.block_lt_of_cell? w _ (hw 0 0 hp (by omega));exact⟨(ha hp).1,fun c=>(ha hp).2 (hS b hb c)⟩
 | @ptr sz els i0 o0 b off rd hsz hi hs hc hw _ ih=>
  have hb:=World.block_lt_of_cell? w _ (hw i0 0 hi (by omega));exact .ptr b off rd hsz hi (fun c=>hs (hS b hb c)) hc (fun i j hi hj=>hsame.cell hs (hw i j hi hj)) ih
theorem GT.mono{S S':Nat->Prop}{w w':World}(hsame:AR S w w')(hS:∀ b,b<w.heap.size->S' b->S b)(h:GT S w):GT S' w':=by
 intro q hq;obtain⟨h1,cs,T,fz,h2,h3⟩:=h q hq
 have hb:q.1<w.heap.size:=by
  rcases Nat.lt_or_ge q.1 w.heap.size with h' | h'
  ·exact h'
  ·rw[Array.getElem?_eq_none h'] at h2;cases h2
 exact⟨fun c=>h1 (hS _ hb c),cs,T,fz,by rw[hsame.block _ hb h1,h2],h3⟩
theorem VR.ext{S:Nat->Prop}{w w':World}(hsame:AR S w w'){v:Value}{a:AV}(h:VR S w v a):VR S w' v a:=h.mono hsame fun _ _ c=>c
theorem VR.narrow{S:Nat->Prop}{w:World}{v:Value}{sz i off:Nat}{els:List AV}(h:VR S w v (.ptr sz els i off)):VR S w v (.ptr sz [els.getD i .any] 0 off):=by
 cases h with
 | ptr b o rd hsz hi hs hc hw hr=>
  have one:∀ {n:Nat},n < [els.getD i .any].length->n=0:=fun h=>by simpa using h
  have:=VR.ptr (S:=S) (w:=w) (sz:=sz) (els:=[els.getD i .any]) (i0:=0) (o0:=off) b (o+i*sz) (fun _ j=>rd i j) hsz (by simp) hs (fun n hn=>by rw[one hn];exact hc i hi)
   (fun n j hn hj=>by rw[one hn,Nat.zero_mul,Nat.zero_add,Nat.add_assoc];exact hw i j hi hj) (fun n j hn hj=>by rw[one hn];exact hr i j hi hj)
  rw[Nat.zero_mul,Nat.zero_add,Nat.add_assoc] at this;exact this
theorem VR.oneCell{S:Nat->Prop}{w:World}{v:Value}{a:AV}(h:VR S w v a)(ha:a.atom=true):v.oneCell'=true:=by
 cases h<;>first|rfl|(simp[AV.atom] at ha)
structure Gh where
 β:Nat->Nat
 cap:Nat->Nat
def Ih(ob:CI)(k:Nat):Prop:=∃ h,AK k ob=some h
def KW(g:Gh)(ob:CI)(k:Nat):Prop:=Ih ob k∧0<g.cap k
def AW(F:Nat->Prop)(g:Gh)(ob:CI):Nat->Prop:=fun b=>F b∨∃ k,KW g ob k∧g.β k=b
structure GL(S:Nat->Prop)(w:World)(b cap sz:Nat)(els:List AV):Prop where
 pos:1<=sz
 len:els.length<=cap
 cells:∀ i,i<els.length->(els.getD i .any).cells.length=sz∧(els.getD i .any).atoms=true
 row:0<cap->∃ arr T fz,w.heap[b]? = some (.cells arr T fz)∧(fz=(0,0)∨(sz=1∧arr.size<=fz.1))∧arr.size=cap*sz ∧
  ∀ i j,i<els.length->j<sz->VR S w (arr.getD (i*sz+j) undef) ((els.getD i .any).cells.getD j .any)
theorem GL.lt{S:Nat->Prop}{w:World}{b cap sz:Nat}{els:List AV}(h:GL S w b cap sz els)(hp:0<cap):b<w.heap.size:=by
 obtain⟨arr,T,fz,hr,_⟩:=h.row hp;rcases Nat.lt_or_ge b w.heap.size with h' | h'
 ·exact h'
 ·rw[Array.getElem?_eq_none h'] at hr;cases hr
theorem GL.mono{S S':Nat->Prop}{w w':World}{b cap sz:Nat}{els:List AV}(h:GL S w b cap sz els)(hsame:AR S w w')
  (hb:0<cap->w'.heap[b]? = w.heap[b]?) (hS:∀ b,b<w.heap.size->S' b->S b):GL S' w' b cap sz els:=by
 refine⟨h.pos,h.len,h.cells,fun hp=>?_⟩;obtain⟨arr,T,fz,hr,hf,hs,hv⟩:=h.row hp;exact⟨arr,T,fz,by rw[hb hp,hr],hf,hs,fun i j hi hj=>(hv i j hi hj).mono hsame hS⟩
def MO(S:Nat->Prop)(w:World)(g:Gh)(ob:CI)(v:Value):AV->Prop
 | .own k=>∃ h,AK k ob=some h∧(v = .slice (some ⟨g.β k,0,none⟩) h.els.length (g.cap k)∨(g.cap k=0∧v = .slice none 0 0))
 | .ref k i off=>∃ h,AK k ob=some h∧i<h.els.length∧v = .pointer (some ⟨g.β k,i*h.sz+off,none⟩)
 | a=>VR S w v a
def SR(S:Nat->Prop)(w:World)(g:Gh)(ob:CI)(v:Value):AV->Prop
 | .fn f a1 a2=>∃ v1 v2,v = .func f v1 v2∧v1.size=a1.length∧v2.size=a2.length ∧
   (∀ j,j<a1.length->MO S w g ob (v1.getD j undef) (a1.getD j .any))∧(∀ j,j<a2.length->MO S w g ob (v2.getD j undef) (a2.getD j .any))
 | .tup as=>∃ vs,v = .tuple vs∧vs.size=as.length∧∀ j,j<as.length->MO S w g ob (vs.getD j undef) (as.getD j .any)
 | .opt b a=>if b=true then MO S w g ob v a else v=undef
 | a=>MO S w g ob v a
theorem AO{α:Type}(b:Bool)(x y:α):(bif b then x else y)=if b=true then x else y:=by cases b<;>rfl
theorem BF(k k':Nat)(h:Hm):∀ ob:CI,AK k' (CR k h ob)=if k=k' then some h else AK k' ob
 | []=>by simp[CR,AK,AO]
 | p::r=>by
  have ih:=BF k k' h r
  by_cases hp:p.1=k
  ·by_cases hk:k=k'
   ·simp[CR,AK,AO,hp,hk]
   ·simp[CR,AK,AO,hp,hk]
  ·by_cases hl:k<p.1
   ·by_cases hk:k=k'
    ·subst hk;simp[CR,AK,AO,hp,hl]
    ·simp[CR,AK,AO,hp,hl,hk]
   ·by_cases hk:k=k'
    ·subst hk;simp[CR,AK,AO,hp,hl,ih]
    ·simp[CR,AK,AO,hp,hl,ih,hk]
theorem DF(k k':Nat):∀ ob:CI,AK k' (JU k ob)=if k=k' then none else AK k' ob
 | []=>by simp[JU,AK]
 | p::r=>by
  have ih:=DF k k' r
  by_cases hp:p.1=k
  ·by_cases hk:k=k'
   ·subst hk;simp[JU,AO,hp] at ih ⊢;exact ih
   ·simp[JU,AK,AO,hp,hk,ih]
  ·by_cases hk:k=k'
   ·subst hk;simp[JU,AK,AO,hp,ih]
   ·simp[JU,AK,AO,hp,ih,hk]
theorem Fi(d k:Nat):∀ ob:CI,AK k (Dm d ob)=if k/32=d then none else AK k ob
 | []=>by simp[Dm,AK]
 | p::r=>by
  have ih:=Fi d k r
  by_cases hp:p.1/32=d
  ·by_cases hk:k/32=d
   ·simp[Dm,AO,hp,hk,ih]
   ·have hne:p.1≠k:=fun e=>hk (e▸hp)
    simp[Dm,AK,AO,hp,hk,ih,hne]
  ·by_cases hk:k/32=d
   ·have hne:p.1≠k:=fun e=>hp (e▸hk)
    simp[Dm,AK,AO,hp,hk,ih,hne]
   ·simp[Dm,AK,AO,hp,hk,ih]
theorem Nd{d k:Nat}{h:Hm}:∀ {ob:CI},Oh d ob=false->AK k ob=some h->k/32≠d
 | [],_,hg=>by simp[AK] at hg
 | p::r,hn,hg=>by
  simp only[Oh,Bool.or_eq_false_iff,beq_eq_false_iff_ne] at hn
  by_cases hp:p.1=k
  ·exact hp▸hn.1
  ·simp only[AK,AO,beq_iff_eq,hp,if_false] at hg;exact Nd hn.2 hg
def QA(g g':Gh)(ob ob':CI)(k:Nat):Prop :=
 ∀ h,AK k ob=some h->∃ h',AK k ob'=some h'∧h'.els.length=h.els.length∧h'.sz=h.sz∧g'.β k=g.β k∧g'.cap k=g.cap k
theorem MO.mono{S S':Nat->Prop}{w w':World}{g g':Gh}{ob ob':CI}(hsame:AR S w w')(hS:∀ b,b<w.heap.size->S' b->S b){v:Value}{a:AV}
  (hk:∀ k,k∈a.key1->QA g g' ob ob' k) (h:MO S w g ob v a):MO S' w' g' ob' v a:=by
 cases a
 case own k=>
  obtain⟨hm,ho,hv⟩:=h;obtain⟨hm',ho',e1,_,e3,e4⟩:=hk k (by simp[AV.key1]) hm ho;exact⟨hm',ho',by rw[e1,e3,e4];exact hv⟩
 case ref k i off=>
  obtain⟨hm,ho,hi,rfl⟩:=h;obtain⟨hm',ho',e1,e2,e3,_⟩:=hk k (by simp[AV.key1]) hm ho;exact⟨hm',ho',by rw[e1];exact hi,by rw[e2,e3]⟩
 all_goals exact VR.mono hsame hS h
theorem Cc{as:List AV}{j:Nat}(hj:j<as.length){k:Nat}(hk:k∈(as.getD j .any).key1):k∈as.flatMap AV.key1:=by
 refine List.mem_flatMap.2 ⟨as.getD j .any,?_,hk⟩;rw[gdE,geE hj];exact List.getElem_mem hj
theorem SR.mono{S S':Nat->Prop}{w w':World}{g g':Gh}{ob ob':CI}(hsame:AR S w w')(hS:∀ b,b<w.heap.size->S' b->S b){v:Value}{a:AV}
  (hk:∀ k,k∈a.keys->QA g g' ob ob' k) (h:SR S w g ob v a):SR S' w' g' ob' v a:=by
 cases a
 case fn f a1 a2=>
  obtain⟨v1,v2,rfl,n1,n2,h1,h2⟩:=h;refine⟨v1,v2,rfl,n1,n2,fun j hj=>(h1 j hj).mono hsame hS fun k hkk=>hk k ?_,fun j hj=>(h2 j hj).mono hsame hS fun k hkk=>hk k ?_⟩
  ·simp only[AV.keys,List.flatMap_append,List.mem_append];exact .inl (Cc hj hkk)
  ·simp only[AV.keys,List.flatMap_append,List.mem_append];exact .inr (Cc hj hkk)
 case tup as=>
  obtain⟨vs,rfl,n,h1⟩:=h;exact⟨vs,rfl,n,fun j hj=>(h1 j hj).mono hsame hS fun k hkk=>hk k (Cc hj hkk)⟩
 case opt b a=>
  simp only[SR] at h ⊢;split at h
  ·rename_i hb;rw[if_pos hb];exact h.mono hsame hS hk
  ·rename_i hb;rw[if_neg hb];exact h
 all_goals
  simp only[SR] at h ⊢;refine MO.mono hsame hS (fun k hkk=>hk k ?_) h;first|exact hkk|(simp[AV.key1] at hkk)
theorem SR.any{S:Nat->Prop}{w:World}{g:Gh}{ob:CI}{v:Value}:SR S w g ob v .any:=VR.any
theorem MO.has{S:Nat->Prop}{w:World}{g:Gh}{ob:CI}{v:Value}{a:AV}(h:MO S w g ob v a){k:Nat}(hk:k∈a.key1):Ih ob k:=by
 cases a<;>simp[AV.key1] at hk
 case own j=>subst hk;obtain⟨hm,ho,_⟩:=h;exact⟨hm,ho⟩
 case ref j i off=>subst hk;obtain⟨hm,ho,_⟩:=h;exact⟨hm,ho⟩
structure FR(F:Nat->Prop)(g:Gh)(w:World)(tmps:Array Value)(vm ss:List Nat)(s:St):Prop where
 home:∀ k h,AK k s.ob=some h->GL (AW F g s.ob) w (g.β k) (g.cap k) h.sz h.els
 inj:∀ k k',KW g s.ob k->KW g s.ob k'->g.β k=g.β k'->k=k'
 nF:∀ k,KW g s.ob k->¬ F (g.β k)
 fb:∀ b,F b->b<w.heap.size
 vl:s.vs.length=vm.length
 sl:s.st.length=ss.length
 vs:∀ i,i<vm.length->SR (AW F g s.ob) w g s.ob (tmps.getD (vm.getD i 0) undef) (s.vs.getD i .any)
 st:∀ i,i<ss.length->SR (AW F g s.ob) w g s.ob (tmps.getD (ss.getD i 0) undef) (s.st.getD i .any)
 fit:∀ t,t∈vm∨t∈ss->t<tmps.size
 tab:GT (AW F g s.ob) w
theorem Bg(φ:AV->AV)(hφ:φ .any = .any)(l:List AV)(i:Nat):(l.map φ).getD i .any=φ (l.getD i .any):=by
 rw[gdE,gdE,List.getElem?_map];cases l[i]?<;>simp[hφ]
theorem FR.slots{F:Nat->Prop}{g g':Gh}{w w':World}{tmps:Array Value}{vm ss:List Nat}{s:St}(h:FR F g w tmps vm ss s){ob':CI}(φ:AV->AV)(hany:φ .any = .any)
  (hsame:AR (AW F g s.ob) w w') (hS:∀ b,b<w.heap.size->AW F g' ob' b->AW F g s.ob b)
  (hφ:∀ a v,SR (AW F g s.ob) w g s.ob v a->φ a = .any∨(φ a=a∧∀ k,k∈a.keys->QA g g' s.ob ob' k))
  (hhome:∀ k h,AK k ob'=some h->GL (AW F g' ob') w' (g'.β k) (g'.cap k) h.sz h.els)
  (hinj:∀ k k',KW g' ob' k->KW g' ob' k'->g'.β k=g'.β k'->k=k') (hnF:∀ k,KW g' ob' k->¬ F (g'.β k)) (ok:Bool) :
  FR F g' w' tmps vm ss { vs:=s.vs.map φ,st:=s.st.map φ,ob:=ob',ok:=ok } where
 home:=hhome
 inj:=hinj
 nF:=hnF
 fb b hb:=Nat.lt_of_lt_of_le (h.fb b hb) hsame.size
 vl:=by simpa using h.vl
 sl:=by simpa using h.sl
 vs i hi:=by
  have h0:=h.vs i hi;simp only[Bg φ hany];rcases hφ _ _ h0 with e|⟨e,hk⟩
  ·rw[e];exact SR.any
  ·rw[e];exact h0.mono hsame hS hk
 st i hi:=by
  have h0:=h.st i hi;simp only[Bg φ hany];rcases hφ _ _ h0 with e|⟨e,hk⟩
  ·rw[e];exact SR.any
  ·rw[e];exact h0.mono hsame hS hk
 fit:=h.fit
 tab:=h.tab.mono hsame hS
theorem Gn{F:Nat->Prop}{g:Gh}{ob ob':CI}(hs:∀ k,Ih ob' k->Ih ob k){b:Nat}(h:AW F g ob' b):AW F g ob b:=by
 rcases h with h|⟨k,hk,e⟩
 ·exact .inl h
 ·exact .inr ⟨k,⟨hs k hk.1,hk.2⟩,e⟩
theorem FR.setOk{F:Nat->Prop}{g:Gh}{w:World}{tmps:Array Value}{vm ss:List Nat}{s:St}(h:FR F g w tmps vm ss s)(ok:Bool):FR F g w tmps vm ss { s with ok:=ok } :=
 ⟨h.home,h.inj,h.nF,h.fb,h.vl,h.sl,h.vs,h.st,h.fit,h.tab⟩
theorem FR.grow{F:Nat->Prop}{g:Gh}{w w':World}{tmps:Array Value}{vm ss:List Nat}{s:St}(h:FR F g w tmps vm ss s)(hw:AR (fun _=>False) w w'):FR F g w' tmps vm ss s:=by
 have hsame:AR (AW F g s.ob) w w':=hw.mono fun _ _ c=>c.elim
 exact⟨fun k hm hk=>(h.home k hm hk).mono hsame (fun hp=>hw.block _ ((h.home k hm hk).lt hp) (fun c=>c)) fun _ _ c=>c,h.inj,h.nF,fun b hb=>Nat.lt_of_lt_of_le (h.fb b hb) hw.size,h.vl,h.sl,
  fun i hi=>(h.vs i hi).mono hsame (fun _ _ c=>c) fun k _ hm hk=>⟨hm,hk,rfl,rfl,rfl,rfl⟩,
  fun i hi=>(h.st i hi).mono hsame (fun _ _ c=>c) fun k _ hm hk=>⟨hm,hk,rfl,rfl,rfl,rfl⟩,h.fit,h.tab.mono hsame (fun _ _ c=>c)⟩
theorem FR.forget{F:Nat->Prop}{g:Gh}{w:World}{tmps:Array Value}{vm ss:List Nat}{s:St}(h:FR F g w tmps vm ss s){ob':CI}(φ:AV->AV)(hany:φ .any = .any)
  (hob:∀ k hm,AK k ob'=some hm->AK k s.ob=some hm)
  (hφ:∀ a,φ a = .any∨(φ a=a∧∀ k,k∈a.keys->∀ hm,AK k s.ob=some hm->AK k ob'=some hm)) (ok:Bool) :
  FR F g w tmps vm ss { vs:=s.vs.map φ,st:=s.st.map φ,ob:=ob',ok:=ok }:=by
 have hin:∀ k,Ih ob' k->Ih s.ob k:=fun k ⟨hm,hk⟩=>⟨hm,hob k hm hk⟩
 refine h.slots φ hany (AR.refl _ _) (fun b _ c=>Gn hin c) (fun a v _=>?_) (fun k hm hk=>?_) (fun k k' a b=>h.inj k k' ⟨hin k a.1,a.2⟩ ⟨hin k' b.1,b.2⟩) (fun k a=>h.nF k ⟨hin k a.1,a.2⟩) ok
 ·rcases hφ a with e|⟨e,hk⟩
  ·exact .inl e
  ·exact .inr ⟨e,fun k hkk hm hg=>⟨hm,hk k hkk hm hg,rfl,rfl,rfl,rfl⟩⟩
 ·exact (h.home k hm (hob k hm hk)).mono (AR.refl _ _) (fun _=>rfl) fun b _ c=>Gn hin c
theorem JW{a:AV}{k:Nat}:a.names k=true ↔ k∈a.keys:=by
 simp[AV.names]
theorem FR.clear{F:Nat->Prop}{g:Gh}{w:World}{tmps:Array Value}{vm ss:List Nat}{s:St}(h:FR F g w tmps vm ss s)(d:Nat):FR F g w tmps vm ss (clear s d):=by
 unfold Go.Proofs.YteaicgcfpcklkaaGreatDoor.clear;rw[AO];split
 ·refine h.forget (aR d) (by simp[aR,AV.keys]) (fun k hm hk=>?_) (fun a=>?_) s.ok
  ·rw[Fi] at hk;split at hk
   ·cases hk
   ·exact hk
  ·by_cases hc:a.keys.any (fun k=>k/32==d)=true
   ·exact .inl (by simp only[aR,AO];rw[if_pos hc])
   ·refine .inr ⟨by simp only[aR,AO];rw[if_neg hc],fun k hk hm hg=>?_⟩;rw[Fi,if_neg (fun e=>hc (List.any_eq_true.2 ⟨k,hk,by simp[e]⟩))];exact hg
 ·exact h
theorem nW{F:Nat->Prop}{g:Gh}{w:World}{tmps:Array Value}{vm ss:List Nat}{s:St}(h:FR F g w tmps vm ss s){d k:Nat}(hk:k/32=d):¬ Ih (clear s d).ob k:=by
 intro ⟨hm,hg⟩;unfold Go.Proofs.YteaicgcfpcklkaaGreatDoor.clear at hg;rw[AO] at hg;split at hg
 ·simp[Fi,hk] at hg
 ·rename_i hn;exact Nd (by simpa using hn) hg hk
theorem FR.killAll{F:Nat->Prop}{g:Gh}{w:World}{tmps:Array Value}{vm ss:List Nat}{s:St}(h:FR F g w tmps vm ss s)(k:Nat):FR F g w tmps vm ss (killAll s k):=by
 refine h.forget (AV.kill k) (by simp[AV.kill,AV.names,AV.keys]) (fun j hm hk=>?_) (fun a=>?_) s.ok
 ·rw[DF] at hk;split at hk
  ·cases hk
  ·exact hk
 ·by_cases hc:a.names k=true
  ·exact .inl (by simp[AV.kill,hc])
  ·refine .inr ⟨by simp[AV.kill,hc],fun j hj hm hg=>?_⟩;rw[DF,if_neg (fun e:k=j=>hc (JW.2 (by rw[e];exact hj)))];exact hg
theorem FR.add{F:Nat->Prop}{g:Gh}{w:World}{tmps:Array Value}{vm ss:List Nat}{s:St}(h:FR F g w tmps vm ss s){k b cap:Nat}{hm:Hm}(hk:¬ Ih s.ob k)
  (hb:0<cap->∀ c,AW F g s.ob c->c≠b)
  (hnew:∀ S:Nat->Prop,(∀ c,S c->AW F g s.ob c∨c=b)->GL S w b cap hm.sz hm.els)
  (hold:∀ k' h',AK k' s.ob=some h'->GL (fun c=>AW F g s.ob c∨c=b) w (g.β k') (g.cap k') h'.sz h'.els)
  (hvs:∀ i,i<vm.length->SR (fun c=>AW F g s.ob c∨c=b) w g s.ob (tmps.getD (vm.getD i 0) undef) (s.vs.getD i .any))
  (hst:∀ i,i<ss.length->SR (fun c=>AW F g s.ob c∨c=b) w g s.ob (tmps.getD (ss.getD i 0) undef) (s.st.getD i .any)) (htab:GT (fun c=>AW F g s.ob c∨c=b) w) :
  FR F ⟨fun j=>if j=k then b else g.β j,fun j=>if j=k then cap else g.cap j⟩ w tmps vm ss { s with ob:=CR k hm s.ob }:=by
 have hβ:∀ j,Ih s.ob j->j≠k:=fun j hj e=>hk (e▸hj)
 have hS:∀ c,AW F ⟨fun j=>if j=k then b else g.β j,fun j=>if j=k then cap else g.cap j⟩ (CR k hm s.ob) c->AW F g s.ob c∨c=b:=by
  intro c hc;rcases hc with hc|⟨j,⟨⟨hj,hg⟩,hcp⟩,e⟩
  ·exact .inl (.inl hc)
  ·rw[BF] at hg
   by_cases hjk:k=j
   ·subst hjk;exact .inr (by simpa using e.symm)
   ·rw[if_neg hjk] at hg;exact .inl (.inr ⟨j,⟨⟨hj,hg⟩,by simpa[Ne.symm hjk] using hcp⟩,by simpa[Ne.symm hjk] using e⟩)
 have hkey:∀ j,QA g ⟨fun j=>if j=k then b else g.β j,fun j=>if j=k then cap else g.cap j⟩ s.ob (CR k hm s.ob) j:=by
  intro j h' hg;have hne:=hβ j ⟨h',hg⟩;exact⟨h',by rw[BF,if_neg (Ne.symm hne)];exact hg,rfl,rfl,by simp[hne],by simp[hne]⟩
 refine⟨fun j h' hg=>?_,fun j j' hj hj' e=>?_,fun j hj=>?_,h.fb,h.vl,h.sl,fun i hi=>?_,fun i hi=>?_,h.fit,htab.mono (AR.refl _ _) fun c _ hc=>hS c hc⟩
 ·simp only[BF] at hg
  by_cases hjk:k=j
  ·subst hjk;simp only[if_true,Option.some.injEq] at hg ⊢;subst hg;exact hnew _ hS
  ·rw[if_neg hjk] at hg;simp only[if_neg (Ne.symm hjk)];exact (hold j h' hg).mono (AR.refl _ _) (fun _=>rfl) fun c _ hc=>hS c hc
 ·obtain⟨⟨h1,hg1⟩,p1⟩:=hj;obtain⟨⟨h2,hg2⟩,p2⟩:=hj';simp only[BF] at hg1 hg2
  by_cases a1:j=k
  ·by_cases a2:j'=k
   ·rw[a1,a2]
   ·rw[if_neg (Ne.symm a2)] at hg2;simp only[a1,a2,if_true,if_false] at e p1 p2;exact absurd e.symm (hb p1 _ (.inr ⟨j',⟨⟨h2,hg2⟩,p2⟩,rfl⟩))
  ·rw[if_neg (Ne.symm a1)] at hg1
   by_cases a2:j'=k
   ·simp only[a1,a2,if_true,if_false] at e p1 p2;exact absurd e (hb p2 _ (.inr ⟨j,⟨⟨h1,hg1⟩,p1⟩,rfl⟩))
   ·rw[if_neg (Ne.symm a2)] at hg2;simp only[a1,a2,if_false] at e p1 p2;exact h.inj j j' ⟨⟨h1,hg1⟩,p1⟩ ⟨⟨h2,hg2⟩,p2⟩ e
 ·obtain⟨⟨h1,hg1⟩,p1⟩:=hj;simp only[BF] at hg1
  by_cases a1:j=k
  ·simp only[a1,if_true] at p1 ⊢;exact fun hf=>hb p1 _ (.inl hf) rfl
  ·rw[if_neg (Ne.symm a1)] at hg1;simp only[a1,if_false] at p1 ⊢;exact h.nF j ⟨⟨h1,hg1⟩,p1⟩
 ·exact (hvs i hi).mono (AR.refl _ _) (fun c _ hc=>hS c hc) fun j _=>hkey j
 ·exact (hst i hi).mono (AR.refl _ _) (fun c _ hc=>hS c hc) fun j _=>hkey j
def Dt(vm ss:List Nat):Option Nat->Hv->Option (List Nat)
 | none,.no=>some ss
 | some d,.push=>if d∈vm∨d∈ss then none else some (d::ss)
 | some d,.var n=>if vm[n]? = some d∧d ∉ ss∧d ∉ vm.eraseIdx n then some ss else none
 | some d,.slot n=>if ss[n]? = some d∧d ∉ vm∧ss.Nodup then some ss else none
 | _,_=>none
def Ns(_:List Nat):Prop:=True
theorem VZ{vm:List Nat}{n i d:Nat}(hn:vm[n]? = some d)(hd:d ∉ vm.eraseIdx n)(hi:i<vm.length)(hin:¬ n=i):d≠vm.getD i 0:=by
 intro e;refine hd ?_;rw[List.mem_eraseIdx_iff_getElem];exact⟨i,hi,fun c=>hin c.symm,by rw[e,gdE,geE hi];rfl⟩
def Gt(tmps:Array Value)(dst:Option Nat)(v:Value):Array Value :=
 match dst with
 | some d=>tmps.setIfInBounds d v
 | none=>tmps
theorem Df{tmps:Array Value}{d t:Nat}{v:Value}(h:d≠t):(tmps.setIfInBounds d v).getD t undef=tmps.getD t undef:=by
 simp[agD,Array.getElem?_setIfInBounds_ne h]
theorem IE{tmps:Array Value}{d:Nat}{v:Value}(h:d<tmps.size):(tmps.setIfInBounds d v).getD d undef=v:=by
 simp[agD,h]
theorem FR.put{F:Nat->Prop}{g:Gh}{w:World}{tmps:Array Value}{vm ss ss':List Nat}{s:St}(h:FR F g w tmps vm ss s)(hnd:Ns vm){dst:Option Nat}{D:Hv}(hd:Dt vm ss dst D=some ss')
  (hfit:∀ d,dst=some d->d<tmps.size) {v:Value} {a:AV} (c:Bool) (hv:dst≠none->SR (AW F g s.ob) w g s.ob v a):FR F g w (Gt tmps dst v) vm ss' (Ay s c a D):=by
 cases dst with
 | none=>
  cases D<;>simp[Dt] at hd
  subst hd;exact h.setOk _
 | some d=>
  have hdt:=hfit d rfl;have hv':=hv (by simp);cases D with
  | no=>simp[Dt] at hd
  | push=>
   simp only[Dt] at hd;split at hd
   ·cases hd
   rename_i hn;simp only[Option.some.injEq] at hd;subst hd;have hn1:d ∉ vm:=fun c=>hn (.inl c)
   have hn2:d ∉ ss:=fun c=>hn (.inr c)
   refine⟨h.home,h.inj,h.nF,h.fb,h.vl,by simpa[Ay] using h.sl,fun i hi=>?_,fun i hi=>?_,fun t ht=>?_,h.tab⟩
   ·have hne:d≠vm.getD i 0:=fun e=>hn1 (by rw[e,gdE,geE hi];exact List.getElem_mem hi)
    simp only[Gt,Df hne];exact h.vs i hi
   ·cases i with
    | zero=>simp only[Gt,Ay,List.getD_cons_zero,IE hdt];exact hv'
    | succ i=>
     have hi':i<ss.length:=by simpa using hi
     have hne:d≠ss.getD i 0:=fun e=>hn2 (by rw[e,gdE,geE hi'];exact List.getElem_mem hi')
     simp only[Gt,Ay,List.getD_cons_succ,Df hne];exact h.st i hi'
   ·simp only[Gt,Array.size_setIfInBounds];rcases ht with ht|ht
    ·exact h.fit t (.inl ht)
    ·rcases List.mem_cons.1 ht with e|ht
     ·exact e▸hdt
     ·exact h.fit t (.inr ht)
  | slot n=>
   simp only[Dt] at hd;split at hd
   ·rename_i hn;simp only[Option.some.injEq] at hd;subst hd;obtain⟨hn1,hn2,hsn⟩:=hn
    have hnl:n<ss.length:=by
     rcases Nat.lt_or_ge n ss.length with h' | h'
     ·exact h'
     ·rw[List.getElem?_eq_none h'] at hn1;cases hn1
    have hvn:ss.getD n 0=d:=by rw[gdE,hn1];rfl
    refine⟨h.home,h.inj,h.nF,h.fb,h.vl,by simpa[Ay] using h.sl,fun i hi=>?_,fun i hi=>?_,fun t ht=>?_,h.tab⟩
    ·have hne:d≠vm.getD i 0:=fun e=>hn2 (by rw[e,gdE,geE hi];exact List.getElem_mem hi)
     simp only[Gt,Df hne];exact h.vs i hi
    ·by_cases hin:n=i
     ·subst hin
      have:(s.st.set n a).getD n .any=a:=by
       rw[gdE,List.getElem?_set_self (by rw[h.sl];exact hnl)];rfl
      simp only[Gt,Ay,hvn,IE hdt,this];exact hv'
     ·have hne:d≠ss.getD i 0:=by
       intro e;have h1:ss[n]? = ss[i]?:=by rw[hn1,e,gdE,geE hi];rfl
       exact hin ((List.getElem?_inj hnl hsn).1 h1)
      have:(s.st.set n a).getD i .any=s.st.getD i .any:=by
       rw[gdE,List.getElem?_set_ne hin,gdE]
      simp only[Gt,Ay,Df hne,this];exact h.st i hi
    ·simp only[Gt,Array.size_setIfInBounds];exact h.fit t ht
   ·cases hd
  | var n=>
   simp only[Dt] at hd;split at hd
   ·rename_i hn;simp only[Option.some.injEq] at hd;subst hd;obtain⟨hn1,hn2,hn3⟩:=hn
    have hnl:n<vm.length:=by
     rcases Nat.lt_or_ge n vm.length with h' | h'
     ·exact h'
     ·rw[List.getElem?_eq_none h'] at hn1;cases hn1
    have hvn:vm.getD n 0=d:=by rw[gdE,hn1];rfl
    refine⟨h.home,h.inj,h.nF,h.fb,by simpa[Ay] using h.vl,h.sl,fun i hi=>?_,fun i hi=>?_,fun t ht=>?_,h.tab⟩
    ·by_cases hin:n=i
     ·subst hin
      have:(s.vs.set n a).getD n .any=a:=by
       rw[gdE,List.getElem?_set_self (by rw[h.vl];exact hnl)];rfl
      simp only[Gt,Ay,hvn,IE hdt,this];exact hv'
     ·have hne:d≠vm.getD i 0:=VZ hn1 hn3 hi hin
      have:(s.vs.set n a).getD i .any=s.vs.getD i .any:=by
       rw[gdE,List.getElem?_set_ne hin,gdE]
      simp only[Gt,Ay,Df hne,this];exact h.vs i hi
    ·have hne:d≠ss.getD i 0:=fun e=>hn2 (by rw[e,gdE,geE hi];exact List.getElem_mem hi)
     simp only[Gt,Df hne];exact h.st i hi
    ·simp only[Gt,Array.size_setIfInBounds];exact h.fit t ht
   ·cases hd
open Go Go.RowKit
def ALW(k:IntKind)(n:Int):Value->Bool
 | .int j m=>j==k&&m==n
 | _=>false
def AEk(b:Bool):Value->Bool
 | .bool a=>a==b
 | _=>false
def ALV(l:List UInt8):Value->Bool
 | .string s=>s.data.toList==l
 | _=>false
def ABL:Value->Bool
 | .slice a l c=>a.isNone&&(l==0&&c==0)
 | _=>false
def Hj:Value->Nat
 | .pointer none=>1
 | .nilFunc=>2
 | .nilIface=>3
 | .tuple vs=>if vs.size=0 then 4 else 0
 | _=>0
def eqa(v:Value):AV->Bool
 | .int k n=>ALW k n v
 | .bool b=>AEk b v
 | .str l=>ALV l v
 | .nilsl=>ABL v
 | .sl sz els=>ABL v&&(els.isEmpty&&decide (1<=sz))
 | .cv u=>Hj v==Hj u && !(Hj v==0)
 | .any=>true
 | _=>false
def Vt:List Value->List AV->Bool
 | [],[]=>true
 | v::vs,a::as=>eqa v a&&(a.atom&&Vt vs as)
 | _,_=>false
def ve:Value->List Value
 | .agg cs=>cs.toList
 | v=>[v]
def ALX:Value->Bool
 | .agg _=>true
 | _=>false
def eqv(v:Value):AV->Bool
 | .agg as=>ALX v&&Vt (ve v) as
 | .int k n=>eqa v (.int k n)
 | .bool b=>eqa v (.bool b)
 | .str l=>eqa v (.str l)
 | .nilsl=>eqa v .nilsl
 | .sl sz els=>eqa v (.sl sz els)
 | .cv u=>eqa v (.cv u)
 | .any=>true
 | _=>false
def BL(vm ss:List Nat):Operand->Src->Bool
 | .tmp t,.v n=>vm[n]? == some t
 | .tmp t,.s n=>ss[n]? == some t
 | .const v,.c a=>eqv v a
 | .func f,.c (.fn (.func g) [] [])=>f==g
 | _,_=>false
theorem aG:∀ (vs:List Value) (as:List AV),Vt vs as=true->vs.length=as.length
 | [],[],_=>rfl
 | [],_::_,h=>by simp[Vt] at h
 | _::_,[],h=>by simp[Vt] at h
 | v::vs,a::as,h=>by
  simp only[Vt,baT] at h;simp[aG vs as h.2.2]
theorem On:∀ (vs:List Value) (as:List AV) (j:Nat),Vt vs as=true->j<as.length->eqa (vs.getD j undef) (as.getD j .any)=true∧(as.getD j .any).atom=true
 | [],[],j,_,hj=>by simp at hj
 | [],_::_,_,h,_=>by simp[Vt] at h
 | _::_,[],_,h,_=>by simp[Vt] at h
 | v::vs,a::as,0,h,_=>by simp only[Vt,baT] at h;exact⟨h.1,h.2.1⟩
 | v::vs,a::as,j+1,h,hj=>by
  simp only[Vt,baT] at h;simpa using On vs as j h.2.2 (by simpa using hj)
theorem Dk(cs:Array Value)(j:Nat):cs.toList.getD j undef=cs.getD j undef:=by
 simp[gdE,agD]
theorem px{v u:Value}(h:Hj v=Hj u)(h0:Hj v≠0):v=u:=by
 have key:∀ x:Value,(Hj x=1->x = .pointer none)∧(Hj x=2->x = .nilFunc)∧(Hj x=3->x = .nilIface)∧(Hj x=4->x = .tuple #[])∧Hj x<=4:=by
  intro x;cases x
  case pointer p=>cases p<;>simp[Hj]
  case tuple vs=>
   simp only[Hj]
   by_cases hs:vs.size=0
   ·have:vs = #[]:=Array.eq_empty_of_size_eq_zero hs;subst this;simp
   ·simp[hs]
  all_goals simp[Hj]
 obtain⟨a1,a2,a3,a4,a5⟩:=key v;obtain⟨b1,b2,b3,b4,b5⟩:=key u;have:Hj v=1∨Hj v=2∨Hj v=3∨Hj v=4:=by omega
 rcases this with e|e|e|e
 ·rw[a1 e,b1 (h▸e)]
 ·rw[a2 e,b2 (h▸e)]
 ·rw[a3 e,b3 (h▸e)]
 ·rw[a4 e,b4 (h▸e)]
theorem nQ{S:Nat->Prop}{w:World}{v:Value}{a:AV}(h:eqa v a=true):VR S w v a:=by
 cases a<;>simp only[eqa] at h<;>try (cases h;done)
 case any=>exact .any
 case int k n=>
  cases v<;>simp[ALW] at h
  obtain⟨rfl,rfl⟩:=h;exact .int
 case bool b=>cases v<;>simp[AEk] at h;subst h;exact .bool
 case str l=>
  cases v<;>simp[ALV] at h
  rename_i s;subst h;have:s=⟨s.data.toList.toArray⟩:=by cases s;simp
  rw[this];exact .str
 case nilsl=>
  cases v<;>simp[ABL] at h
  obtain⟨rfl,rfl,rfl⟩:=h;exact .nilsl
 case sl sz els=>
  cases v<;>simp[ABL] at h
  obtain⟨⟨rfl,rfl,rfl⟩,h1,h2⟩:=h;subst h1;exact .sl 0 0 (fun _ _=>undef) rfl (Nat.le_refl _) h2 (fun c=>by simp at c) (fun i hi=>by simp at hi) (fun i j hi=>by simp at hi) (fun i j hi=>by simp at hi)
 case cv u=>
  simp only[baT,beq_iff_eq,Bool.not_eq_true',beq_eq_false_iff_ne] at h;rw[px h.1 h.2];exact .cv
theorem gM{S:Nat->Prop}{w:World}{v:Value}{a:AV}(h:eqv v a=true):VR S w v a:=by
 cases a<;>simp only[eqv] at h<;>try (cases h;done)
 case agg as=>
  simp only[baT] at h;obtain⟨h0,h⟩:=h;cases v<;>simp[ALX] at h0
  rename_i cs;simp only[ve] at h;refine .agg (by simpa using aG _ _ h) (fun j hj=>(On _ _ j h hj).2) fun j hj=>?_
  have:=On _ _ j h hj;rw[← Dk];exact nQ this.1
 case any=>exact .any
 all_goals exact nQ h
theorem VR.toSR{S:Nat->Prop}{w:World}{g:Gh}{ob:CI}{v:Value}{a:AV}(h:VR S w v a):SR S w g ob v a:=by
 have one:∀ {v a},VR S w v a->MO S w g ob v a:=by
  intro v a h;cases a<;>first|exact h|(cases h)
 cases a
 case fn f a1 a2=>cases h with|fn n1 n2 h1 h2=>exact⟨_,_,rfl,n1,n2,fun j hj=>one (h1 j hj),fun j hj=>one (h2 j hj)⟩
 case tup as=>cases h with|tup n h1=>exact⟨_,rfl,n,fun j hj=>one (h1 j hj)⟩
 case opt b a'=>cases h
 all_goals first|exact h|cases h
theorem MO.toSR{S:Nat->Prop}{w:World}{g:Gh}{ob:CI}{v:Value}{a:AV}(h:MO S w g ob v a):SR S w g ob v a:=by
 cases a
 case own=>exact h
 case ref=>exact h
 all_goals exact VR.toSR h
theorem FR.src{F:Nat->Prop}{g:Gh}{w:World}{tmps:Array Value}{ds:List Deferred}{vm ss:List Nat}{s:St}(h:FR F g w tmps vm ss s){x:Operand}{y:Src}(hc:BL vm ss x y=true):
  SR (AW F g s.ob) w g s.ob (({ tmps:=tmps,defers:=ds }:Act).eval x) (rd s y):=by
 cases x
 case tmp t=>
  cases y
  case v n=>
   simp only[BL,beq_iff_eq] at hc
   have hl:n<vm.length:=by
    rcases Nat.lt_or_ge n vm.length with h' | h'
    ·exact h'
    ·rw[List.getElem?_eq_none h'] at hc;cases hc
   have:=h.vs n hl;rw[gdE (l:=vm),hc] at this;exact this
  case s n=>
   simp only[BL,beq_iff_eq] at hc
   have hl:n<ss.length:=by
    rcases Nat.lt_or_ge n ss.length with h' | h'
    ·exact h'
    ·rw[List.getElem?_eq_none h'] at hc;cases hc
   have:=h.st n hl;rw[gdE (l:=ss),hc] at this;exact this
  case c a=>simp[BL] at hc
 case const v=>
  cases y<;>simp only[BL] at hc<;>try (cases hc;done)
  exact (gM hc).toSR
 case func f=>
  cases y<;>try (simp[BL] at hc;done)
  rename_i a;cases a<;>try (simp[BL] at hc;done)
  rename_i fn a1 a2;cases fn<;>try (simp[BL] at hc;done)
  cases a1<;>cases a2<;>simp[BL] at hc
  subst hc;exact⟨#[],#[],rfl,rfl,rfl,fun j hj=>by simp at hj,fun j hj=>by simp at hj⟩
 case global g=>cases y<;>simp[BL] at hc
def BD(S:Nat->Prop)(w:World)(g:Gh)(ob:CI)(key:Nat)(m:Mk)(r:Result Next):Prop :=
 ∃ v w',r = .ok (.value v) w'∧AR (fun _=>False) w w' ∧
  ((m.hs=[]∧SR S w' g ob v m.v) ∨
   ∃ k h b cap,m.hs=[(k,h)]∧(k/32=key∧k%32≠31)∧w.heap.size<=b∧(∀ S':Nat->Prop,(∀ c,S' c->S c∨c=b)->GL S' w' b cap h.sz h.els) ∧
   ((m.v = .own k∧(v = .slice (some ⟨b,0,none⟩) h.els.length cap∨(cap=0∧v = .slice none 0 0)))∨(m.v = .ref k 0 0∧0<h.els.length∧v = .pointer (some ⟨b,0,none⟩))))
theorem BD.val{S:Nat->Prop}{w:World}{g:Gh}{ob:CI}{key:Nat}{m:Mk}{r:Result Next}{v:Value}(hr:r = .ok (.value v) w)(hh:m.hs=[])(h:SR S w g ob v m.v):BD S w g ob key m r :=
 ⟨v,w,hr,AR.refl _ _,.inl ⟨hh,h⟩⟩
theorem bW{v:Value}(h:v.oneCell'=true):v.cells = #[v]:=by cases v<;>first|rfl|(simp[Value.oneCell'] at h)
theorem Fu{a:AV}(h:a.atoms=true){j:Nat}(hj:j<a.cells.length):(a.cells.getD j .any).atom=true:=by
 simp only[AV.atoms,List.all_eq_true] at h;refine h _ ?_;rw[gdE,geE hj];exact List.getElem_mem hj
theorem Uw{a:AV}(h:a.isAgg=false):a.cells=[a]:=by cases a<;>first|rfl|(simp[AV.isAgg] at h)
theorem VR.cells{S:Nat->Prop}{w:World}{v:Value}{a:AV}(h:VR S w v a)(ha:a.atoms=true):
  v.cells.size=a.cells.length∧∀ j,j<a.cells.length->VR S w (v.cells.getD j undef) (a.cells.getD j .any):=by
 by_cases hg:a.isAgg=true
 ·cases a<;>simp[AV.isAgg] at hg
  cases h with|agg hn _ h1=>exact⟨hn,h1⟩
 ·have hg':a.isAgg=false:=by simpa using hg
  have hc:=Uw hg';have hat:a.atom=true:=by have:=Fu ha (j:=0) (by simp[hc]);simpa[hc] using this
  rw[bW (h.oneCell hat),hc];refine⟨rfl,fun j hj=>?_⟩;have:j=0:=by simpa using hj
  subst this;exact h
theorem SR.atoms{S:Nat->Prop}{w:World}{g:Gh}{ob:CI}{v:Value}{a:AV}(h:SR S w g ob v a)(ha:a.atoms=true):VR S w v a:=by
 cases a
 case fn f a1 a2=>
  obtain⟨v1,v2,rfl,n1,n2,h1,h2⟩:=h;have hat:(AV.fn f a1 a2).atom=true:=by simpa[AV.atoms,AV.cells] using ha
  simp only[AV.atom,List.all_append,baT,List.all_eq_true,List.isEmpty_iff] at hat
  have one:∀ {u:Value} {as:List AV} {j:Nat},j<as.length->(∀ x,x∈as->x.key1=[])->MO S w g ob u (as.getD j .any)->VR S w u (as.getD j .any):=by
   intro u as j hj hall hs;have hm:as.getD j .any∈as:=by rw[gdE,geE hj];exact List.getElem_mem hj
   have hk:=hall _ hm;revert hs hk;generalize as.getD j .any=x;intro hs hk;cases x<;>first|exact hs|(simp[AV.key1] at hk)
  exact .fn n1 n2 (fun j hj=>one hj hat.1 (h1 j hj)) (fun j hj=>one hj hat.2 (h2 j hj))
 all_goals first|exact h|(simp[AV.atoms,AV.cells,AV.atom] at ha)
theorem za{S S':Nat->Prop}{w:World}{v:Value}{a:AV}(h:VR S w v a)(ha:a.atoms=true)(hp:1<=a.cells.length)(t:TypeId)(hS:∀ c,S' c->S c∨c=w.heap.size):
  GL S' (w.alloc (.cells v.cells t)) w.heap.size 1 a.cells.length [a]:=by
 have hc:=h.cells ha;refine⟨hp,by simp,fun i hi=>?_,fun _=>⟨v.cells,t,(0,0),heap_alloc_new _ _,.inl rfl,by simp[hc.1],fun i j hi hj=>?_⟩⟩
 ·have:i=0:=by simpa using hi
  subst this;exact⟨rfl,ha⟩
 ·have:i=0:=by simpa using hi
  subst this;simp only[Nat.zero_mul,Nat.zero_add,List.getD_cons_zero];refine (hc.2 j hj).mono (AR.alloc _ _ _) fun b hb hc=>?_
  rcases hS b hc with e|e
  ·exact e
  ·omega
theorem cB{S:Nat->Prop}{w:World}{g:Gh}{ob:CI}{key:Nat}{P:Program}{t:TypeId}{v:Value}{a:AV}(h:VR S w v a)(hok:(Vx (Bd key) a).ok=true){r:Result Next}
  (hr:r = .ok (.value (.pointer (some ⟨w.heap.size,0,none⟩))) (w.alloc (.cells v.cells t))):BD S w g ob key (Vx (Bd key) a) r:=by
 simp only[Vx,baT,dtE] at hok;exact⟨_,_,hr,AR.alloc _ _ _,.inr ⟨_,_,w.heap.size,1,rfl,by simp[Bd],Nat.le_refl _,fun S' hS=>za h hok.2 hok.1 t hS,.inr ⟨rfl,by simp,rfl⟩⟩⟩
section
variable {S:Nat->Prop}{w:World}{g:Gh}{ob:CI}{v:Value}
theorem NJ{k:IntKind}{n:Int}(h:SR S w g ob v (.int k n)):v = .int k n:=by simp only[SR,MO] at h;cases h;rfl
theorem Lj{b:Bool}(h:SR S w g ob v (.bool b)):v = .bool b:=by simp only[SR,MO] at h;cases h;rfl
theorem QH{l:List UInt8}(h:SR S w g ob v (.str l)):v = .string ⟨l.toArray⟩:=by simp only[SR,MO] at h;cases h;rfl
theorem QI(h:SR S w g ob v .nilsl):v = .slice none 0 0:=by simp only[SR,MO] at h;cases h;rfl
theorem YX{a:AV}(h:SR S w g ob v a)(hi:0<=bJ a):∃ k,v = .int k (bJ a):=by
 cases a<;>simp[bJ] at hi ⊢
 exact⟨_,NJ h⟩
end
def kn(P:Program)(t:TypeId):Option Bool :=
 match P.underlying t with
 | some (.struct _)=>some true
 | some (.array _ _)=>some true
 | some _=>some false
 | none=>none
def UE(P:Program)(t:TypeId):Option Nat:=(P.info? t).map (·.size)
def byT(P:Program)(t:TypeId):Option Nat:=(P.info? t).map (·.bytes)
def zeT(P:Program)(t:TypeId):Option Value:=(P.info? t).bind (·.zero)
section
variable {P:Program}{w:World}{t:TypeId}
theorem MU{b:Bool}(h:kn P t=some b):(isAgg t).run P w = .ok b w:=by
 unfold kn at h;unfold isAgg;split at h<;>(try (cases h;done))<;>rename_i hu<;>simp only[Option.some.injEq] at h<;>subst h
 ·rw[Sem.run_bind,run_underlying hu w];rfl
 ·rw[Sem.run_bind,run_underlying hu w];rfl
 ·rename_i d h1 h2;rw[Sem.run_bind,run_underlying hu w];cases d<;>first|rfl|(exact absurd rfl (h1 _))|(exact absurd rfl (h2 _ _))
theorem Qw{i:TypeInfo}(h:P.info? t=some i):(typeInfo t).run P w = .ok i w:=by simp[typeInfo,h]
theorem EJ{n:Nat}(h:UE P t=some n):(sizeOf t).run P w = .ok n w:=by
 unfold UE at h;cases hi:P.info? t with
 | none=>rw[hi] at h;cases h
 | some i=>
  rw[hi] at h;simp only[Option.map_some,Option.some.injEq] at h;simp[sizeOf,typeInfo,hi,h]
theorem PI{z:Value}(h:zeT P t=some z):(zeroValue t).run P w = .ok z w:=by
 unfold zeT at h;cases hi:P.info? t with
 | none=>rw[hi] at h;cases h
 | some i=>
  rw[hi] at h;simp only[obS] at h;simp[zeroValue,typeInfo,hi,h]
theorem ki{n:Nat}(h:byT P t=some n):∃ i,P.info? t=some i∧i.bytes=n:=by
 unfold byT at h;cases hi:P.info? t with
 | none=>rw[hi] at h;cases h
 | some i=>rw[hi] at h;exact⟨i,rfl,by simpa using h⟩
end
theorem TF{cs:Array Value}{j:Nat}(h:j<cs.size):∃ u,cs[j]? = some u∧cs.getD j undef=u :=
 ⟨cs[j],Array.getElem?_eq_getElem h,by rw[agD,Array.getElem?_eq_getElem h];rfl⟩
theorem vF{l:List UInt8}{i:Nat}(h:i<l.length):(⟨l.toArray⟩:ByteArray)[i]? = some (l.getD i 0):=by
 have hsz:i<(⟨l.toArray⟩:ByteArray).size:=by simpa[ByteArray.size] using h
 rw[getElem?_pos (⟨l.toArray⟩:ByteArray) i hsz,gdE,geE h];rfl
theorem Fg(b o n:Nat):(⟨b,o,none⟩:Addr).add n=⟨b,o+n,none⟩:=by unfold Addr.add;split<;>simp_all
theorem pA{S:Nat->Prop}{w:World}{P:Program}{t:TypeId}{agg:Bool}{sz off b base:Nat}{el:AV}{r:Nat->Value}(hagg:kn P t=some agg)(hsz:UE P t=some sz)
  (hat:el.atoms=true) (hw:∀ j,j<el.cells.length->w.cell? ⟨b,base+j,none⟩=some (r j)) (hr:∀ j,j<el.cells.length->VR S w (r j) (el.cells.getD j .any)) (hok:(part agg sz off el).ok=true) :
  ∃ v,(loadVar t ⟨b,base+off,none⟩).run P w = .ok v w∧VR S w v (part agg sz off el).v:=by
 cases agg with
 | false=>
  simp only[part,dtE] at hok ⊢;exact⟨r off,by simp[loadVar,MU hagg,hw off hok],hr off hok⟩
 | true=>
  simp only[part,baT,dtE] at hok ⊢;obtain⟨hisAgg,hle⟩:=hok
  have hl:=run_loadCells (P:=P) w ⟨b,base+off,none⟩ sz (fun j=>r (off+j)) (fun j hj=>by
   rw[Fg,Nat.add_assoc];exact hw (off+j) (by omega))
  refine⟨_,by simp[loadVar,MU hagg,EJ hsz,hl];rfl,?_⟩
  have hget:∀ j,j<sz->(((List.range sz).map fun j=>r (off+j)).toArray).getD j undef=r (off+j):=by
   intro j hj;simp[agD,hj]
  rw[AO];split
  ·rename_i he;simp only[baT,beq_iff_eq] at he;obtain⟨h0,h1⟩:=he;subst h0;cases el<;>simp[AV.isAgg] at hisAgg
   rename_i cs;simp only[AV.cells] at h1 hr;refine .agg (by simp[h1]) (fun j hj=>by simpa[AV.cells] using Fu hat (j:=j) (by simpa[AV.cells] using hj)) fun j hj=>?_
   rw[hget j (by omega),Nat.zero_add];exact hr j hj
  ·have hd:∀ j,j<sz->((el.cells.drop off).take sz).getD j .any=el.cells.getD (off+j) .any:=by
    intro j hj;simp[gdE,List.getElem?_take,List.getElem?_drop,hj]
   have hlen:((el.cells.drop off).take sz).length=sz:=by simp;omega
   refine .agg (by simp[hlen]) (fun j hj=>?_) fun j hj=>?_
   ·rw[hd j (by omega)];exact Fu hat (by omega)
   ·rw[hd j (by omega),hget j (by omega)];exact hr _ (by omega)
def AJL(vm ss:List Nat)(x:Src):Op->Bool
 | .move y=>BL vm ss y x
 | .assign y=>BL vm ss y x
 | _=>false
def AAN(P:Program)(vm ss:List Nat)(agg:Bool)(sz:Nat)(x:Src):Op->Bool
 | .load t y=>BL vm ss y x&&(kn P t==some agg&&UE P t==some sz)
 | _=>false
def nk(vm ss:List Nat)(x:Src):Op->Bool
 | .nilCheck y=>BL vm ss y x
 | _=>false
def oc(P:Program)(t:TypeId):Option TypeId :=
 match P.underlying t with
 | some (.slice e)=>some e
 | _=>none
def iQ(P:Program)(t:TypeId):Bool :=
 match P.underlying t with
 | some .string=>true
 | _=>false
def nG(P:Program)(t:TypeId):Option IntKind :=
 match P.underlying t with
 | some (.int k)=>some k
 | _=>none
theorem MA{P:Program}{t e:TypeId}(h:oc P t=some e):P.underlying t=some (.slice e):=by
 unfold oc at h;split at h
 ·rename_i hu;simp only[Option.some.injEq] at h;rw[hu,h]
 ·cases h
theorem Qr{P:Program}{t:TypeId}(h:iQ P t=true):P.underlying t=some .string:=by
 unfold iQ at h;split at h
 ·assumption
 ·cases h
theorem XO{P:Program}{t:TypeId}{k:IntKind}(h:nG P t=some k):P.underlying t=some (.int k):=by
 unfold nG at h;split at h
 ·rename_i hu;simp only[Option.some.injEq] at h;rw[hu,h]
 ·cases h
def gZ(P:Program)(vm ss:List Nat)(sz:Nat)(x i:Src):Op->Bool
 | .indexAddr t y j=>BL vm ss y x&&(BL vm ss j i&&(match oc P t with
  | some e=>UE P e==some sz
  | none=>false))
 | _=>false
def nl(P:Program)(vm ss:List Nat)(x i:Src):Op->Bool
 | .index t y j=>BL vm ss y x&&(BL vm ss j i&&iQ P t)
 | _=>false
def PQ(P:Program)(t:TypeId)(f:Nat):Option Field :=
 match P.underlying t with
 | some (.struct fs)=>fs[f]?
 | _=>none
theorem aF{P:Program}{t:TypeId}{f:Nat}{x:Field}(h:PQ P t f=some x):∃ fs,P.underlying t=some (.struct fs)∧fs[f]? = some x:=by
 unfold PQ at h;split at h
 ·rename_i fs hu;exact⟨fs,hu,h⟩
 ·cases h
def aU(P:Program)(vm ss:List Nat)(off:Nat)(x:Src):Op->Bool
 | .fieldAddr t y f=>BL vm ss y x&&(match PQ P t f with
  | some fd=>fd.offset==off&&(match UE P fd.type with|some n=>!(n==0)|none=>false)
  | none=>false)
 | _=>false
def AJN(P:Program)(vm ss:List Nat)(agg:Bool)(off sz:Nat)(x:Src):Op->Bool
 | .field t y f=>BL vm ss y x&&(match PQ P t f with
  | some fd=>fd.offset==off&&(kn P fd.type==some agg&&UE P fd.type==some sz)
  | none=>false)
 | _=>false
def AJO(vm ss:List Nat)(x:Src)(i:Nat):Op->Bool
 | .extract y j=>BL vm ss y x&&i==j
 | _=>false
def AAO(P:Program)(vm ss:List Nat)(k:IntKind)(x:Src):Op->Bool
 | .convert s d y=>BL vm ss y x&&(match nG P s with|some _=>nG P d==some k|none=>false)
 | _=>false
def cUn(vm ss:List Nat)(u:UnOp)(x:Src):Op->Bool
 | .unOp u' _ y=>BL vm ss y x&&u==u'
 | _=>false
def AJM(P:Program)(vm ss:List Nat)(st:Bool)(x:Src):Op->Bool
 | .call { callee:=.builtin .len,args:=args,argTypes:=tys }=>(match args.toList,tys.toList with
  | [y],[t]=>BL vm ss y x&&(if st=true then iQ P t else (oc P t).isSome)
  | _,_=>false)
 | _=>false
def AEI(vm ss:List Nat):Option Operand->Option Src->Bool
 | some a,some b=>BL vm ss a b
 | none,none=>true
 | _,_=>false
def nj(P:Program)(vm ss:List Nat)(sz:Nat)(x:Src)(lo hi:Option Src):Op->Bool
 | .slice t y l h none=>BL vm ss y x&&(AEI vm ss l lo&&(AEI vm ss h hi&&((iQ P t&&sz==0)||(match oc P t with
  | some e=>UE P e==some sz && !(sz==0)
  | none=>false))))
 | _=>false
def OD(vm ss:List Nat):List Operand->List Src->Bool
 | [],[]=>true
 | a::r,b::q=>BL vm ss a b&&OD vm ss r q
 | _,_=>false
def AAL(vm ss:List Nat)(f:Fn)(fi ca:List Src):Op->Bool
 | .makeFunc f' a b=>decide (f=f')&&(OD vm ss a.toList fi&&OD vm ss b.toList ca)
 | _=>false
def AAM(P:Program)(vm ss:List Nat)(sz bytes:Nat)(z:AV)(l c:Src):Op->Bool
 | .makeSlice t a b=>BL vm ss a l&&(BL vm ss b c&&(match oc P t with
  | some e=>UE P e==some sz&&(byT P e==some bytes&&(match zeT P e with
   | some zv=>eqv zv z&&(z.cells.length==sz&&z.atoms)
   | none=>false))
  | none=>false))
 | _=>false
def AJQ(vm ss:List Nat)(x:Src):Op->Bool
 | .box _ y=>BL vm ss y x
 | _=>false
def nq(P:Program)(z:AV):Op->Bool
 | .alloc e=>(match zeT P e with
  | some zv=>eqv zv z
  | none=>false)
 | _=>false
def cMM(vm ss:List Nat)(mx:Bool)(xs:List Src):Op->Bool
 | .call { callee:=.builtin b,args:=args,argTypes:=_ }=>OD vm ss args.toList xs&&(match b with | .max=>mx | .min=>!mx|_=>false)
 | _=>false
section
variable {F:Nat->Prop}{g:Gh}{w:World}{tmps:Array Value}{ds:List Deferred}{vm ss:List Nat}{s:St}{P:Program}{o:Oper}{key:Nat}
theorem AMO(h:FR F g w tmps vm ss s){x:Src}(hc:AJL vm ss x o.op=true):
  BD (AW F g s.ob) w g s.ob key (DB (rd s x)) ((execOp ({ tmps:=tmps,defers:=ds }:Act).eval o).run P w):=by
 unfold AJL at hc;split at hc
 ·rename_i y he;exact .val (by simp[execOp,he]) rfl (h.src (ds:=ds) hc)
 ·rename_i y he;exact .val (by simp[execOp,he]) rfl (h.src (ds:=ds) hc)
 ·cases hc
theorem RG(agg:Bool)(sz off:Nat)(el:AV):(part agg sz off el).hs=[]:=by cases agg<;>rfl
theorem GL.cell{S:Nat->Prop}{w:World}{b cap sz:Nat}{els:List AV}(hh:GL S w b cap sz els):∃ r:Nat->Nat->Value,∀ i j,i<els.length->j<sz ->
  w.cell? ⟨b,i*sz+j,none⟩=some (r i j)∧VR S w (r i j) ((els.getD i .any).cells.getD j .any):=by
 rcases Nat.eq_zero_or_pos cap with hz|hp
 ·exact⟨fun _ _=>undef,fun i j hi _=>absurd hi (by have:=hh.len;omega)⟩
 obtain⟨arr,T,fz,hr,hf,hsize,hvr⟩:=hh.row hp;refine⟨fun i j=>arr.getD (i*sz+j) undef,fun i j hi hj=>⟨?_,hvr i j hi hj⟩⟩
 have hlt:i*sz+j<arr.size:=by
  have h1:=hh.len;have:(i+1)*sz<=cap*sz:=Nat.mul_le_mul_right _ (by omega);rw[Nat.add_mul] at this;omega
 simp only[World.cell?,hr];simp[agD,hlt]
theorem FR.nil_els(h:FR F g w tmps vm ss s){k:Nat}{hm:Hm}(ho:AK k s.ob=some hm)(h0:g.cap k=0):hm.els=[]:=by
 have:=(h.home k hm ho).len;exact List.length_eq_zero_iff.1 (by omega)
theorem jL(h:FR F g w tmps vm ss s){agg:Bool}{sz:Nat}{t:TypeId}(hagg:kn P t=some agg)(hsz:UE P t=some sz){v:Value}{a:AV}(hv:SR (AW F g s.ob) w g s.ob v a)(hok:(Lq s.ob agg sz a).ok=true):
  ∃ ad u,v = .pointer (some ad)∧(loadVar t ad).run P w = .ok u w∧VR (AW F g s.ob) w u (Lq s.ob agg sz a).v∧(Lq s.ob agg sz a).hs=[]:=by
 cases a<;>simp only[Lq,bad] at hok<;>try (cases hok;done)
 case ref k i off=>
  obtain⟨hm,ho,hi,hev⟩:=hv;simp only[Lq,ho,jK] at hok ⊢;have hh:=h.home k hm ho;obtain⟨r,hcell⟩:=hh.cell;have hcl:=hh.cells i hi;obtain⟨u,hrun,hvv⟩:=pA (S:=AW F g s.ob) (b:=g.β k) (base:=i*hm.sz) (r:=r i) hagg hsz hcl.2 (fun j hj=>(hcell i j hi (by rw[hcl.1] at hj;exact hj)).1) (fun j hj=>(hcell i j hi (by rw[hcl.1] at hj;exact hj)).2) hok;exact⟨_,u,hev,hrun,hvv,RG _ _ _ _⟩
 case ptr sz0 els i off=>
  simp only[SR,MO] at hv;cases hv with
  | ptr b off0 r hsz0 hi hs hcl hw hr=>
   simp only[Lq] at hok ⊢;obtain⟨u,hrun,hvv⟩:=pA (S:=AW F g s.ob) (b:=b) (base:=off0+i*sz0) (r:=r i) hagg hsz (hcl i hi).2 (fun j hj=>by rw[Nat.add_assoc];exact hw i j hi (by rw[(hcl i hi).1] at hj;exact hj)) (fun j hj=>hr i j hi (by rw[(hcl i hi).1] at hj;exact hj)) hok;exact⟨_,u,rfl,by rw[Nat.add_assoc] at hrun;exact hrun,hvv,RG _ _ _ _⟩
theorem AGe(h:FR F g w tmps vm ss s){agg:Bool}{sz:Nat}{x:Src}(hc:AAN P vm ss agg sz x o.op=true)(hok:(Lq s.ob agg sz (rd s x)).ok=true):
  BD (AW F g s.ob) w g s.ob key (Lq s.ob agg sz (rd s x)) ((execOp ({ tmps:=tmps,defers:=ds }:Act).eval o).run P w):=by
 unfold AAN at hc;split at hc
 ·rename_i t y he;simp only[baT,beq_iff_eq] at hc;obtain⟨hs,hagg,hsz⟩:=hc;obtain⟨ad,u,hev,hrun,hvv,hhs⟩:=jL h hagg hsz (h.src (ds:=ds) hs) hok;exact .val (v:=u) (by simp[execOp,he,Instr.loadAt,Instr.sureAddr,hev,hrun]) hhs hvv.toSR
 ·cases hc
theorem ABd(h:FR F g w tmps vm ss s){x:Src}(hc:nk vm ss x o.op=true)(hok:(MG (rd s x)).ok=true):
  BD (AW F g s.ob) w g s.ob key (MG (rd s x)) ((execOp ({ tmps:=tmps,defers:=ds }:Act).eval o).run P w):=by
 unfold nk at hc;split at hc
 ·rename_i y he;have hv:=h.src (ds:=ds) hc;revert hok;generalize rd s x=a at hv;intro hok;cases a<;>simp only[MG,bad] at hok<;>try (cases hok;done)
  case ref k i off=>
   obtain⟨hm,ho,hi,hev⟩:=id hv;exact .val (v:=.pointer (some ⟨g.β k,i*hm.sz+off,none⟩)) (by simp[execOp,he,hev]) rfl (by rw[hev] at hv;exact hv)
  case ptr sz0 els i off=>
   have hv2:=hv;simp only[SR,MO] at hv;generalize hev:({ tmps:=tmps,defers:=ds }:Act).eval y=v at hv hv2;cases hv
   exact .val (by simp[execOp,he,hev]) rfl hv2
  case fn f a1 a2=>
   cases f<;>simp only[MG,bad] at hok<;>try (cases hok;done)
   rename_i ff;obtain⟨v1,v2,hev,_⟩:=id hv;exact .val (v:=.func (.func ff) v1 v2) (by simp[execOp,he,hev]) rfl (by rw[hev] at hv;exact hv)
 ·cases hc
theorem wM(h:FR F g w tmps vm ss s){sz:Nat}{x i:Src}(hc:gZ P vm ss sz x i o.op=true)(hok:(JY s.ob sz (bJ (rd s i)) (rd s x)).ok=true):
  BD (AW F g s.ob) w g s.ob key (JY s.ob sz (bJ (rd s i)) (rd s x)) ((execOp ({ tmps:=tmps,defers:=ds }:Act).eval o).run P w):=by
 unfold gZ at hc;split at hc
 ·rename_i t y j he;simp only[baT] at hc;obtain⟨hs,hj,hty⟩:=hc;cases hsl:oc P t with
  | none=>rw[hsl] at hty;cases hty
  | some e=>
   rw[hsl] at hty;simp only[beq_iff_eq] at hty;have hu:=MA hsl;have hv:=h.src (ds:=ds) hs;have hvi:=h.src (ds:=ds) hj;revert hok;generalize rd s x=a at hv;intro hok;cases a<;>simp only[JY,bad] at hok<;>try (cases hok;done)
   case own k=>
    obtain⟨hm,ho,hev⟩:=hv;simp only[JY,ho,pD,ET,BC,baT,beq_iff_eq,dtE] at hok ⊢;obtain⟨hsz,h0,h1⟩:=hok;obtain⟨kk,hiv⟩:=YX hvi h0;have hlt:(bJ (rd s i)).toNat<hm.els.length:=by omega
    rcases hev with hev|⟨hz,hev⟩
    rotate_left
    ·rw[h.nil_els ho hz] at hlt;cases hlt
    refine .val (v:=.pointer (some ⟨g.β k,(bJ (rd s i)).toNat*sz,none⟩)) ?_ rfl ⟨hm,ho,hlt,by simp[hsz]⟩;simp[execOp,he,Instr.indexAt,hev,hiv,asIntOf,run_underlying hu,EJ hty,h0,h1,Fg]
   case sl sz0 els=>
    simp only[SR,MO] at hv;generalize hev:({ tmps:=tmps,defers:=ds }:Act).eval y=v at hv;cases hv with
    | @sl ad n cap _ _ b off r hn hcap hsz0 ha hcl hw hr=>
     simp only[JY,ET,BC,baT,beq_iff_eq,dtE] at hok ⊢;obtain⟨hsz,h0,h1⟩:=hok;obtain⟨kk,hiv⟩:=YX hvi h0;have hlt:(bJ (rd s i)).toNat<els.length:=by omega
     obtain⟨rfl,hns⟩:=ha (by omega);subst hn;refine .val (v:=.pointer (some ⟨b,off+((bJ (rd s i)).toNat*sz0+0),none⟩)) ?_ rfl (VR.toSR (VR.narrow (.ptr b off r hsz0 hlt hns hcl hw hr)));simp[execOp,he,Instr.indexAt,hev,hiv,asIntOf,run_underlying hu,EJ hty,h0,h1,Fg,hsz]
 ·cases hc
theorem ABe(h:FR F g w tmps vm ss s){x i:Src}(hc:nl P vm ss x i o.op=true)(hok:(OR (bJ (rd s i)) (rd s x)).ok=true):
  BD (AW F g s.ob) w g s.ob key (OR (bJ (rd s i)) (rd s x)) ((execOp ({ tmps:=tmps,defers:=ds }:Act).eval o).run P w):=by
 unfold nl at hc;split at hc
 ·rename_i t y j he;simp only[baT] at hc;obtain⟨hs,hj,hty⟩:=hc;have hu:=Qr hty;have hv:=h.src (ds:=ds) hs;have hvi:=h.src (ds:=ds) hj;revert hok;generalize rd s x=a at hv;intro hok;cases a<;>simp only[OR,bad] at hok<;>try (cases hok;done)
  case str l=>
   have hev:=QH hv;simp only[OR,ET,BC,baT,dtE] at hok ⊢;obtain⟨h0,h1⟩:=hok;obtain⟨kk,hiv⟩:=YX hvi h0;have hlt:(bJ (rd s i)).toNat<l.length:=by omega
   refine .val (v:=.int .u8 ((l.getD (bJ (rd s i)).toNat 0).toNat:Int)) ?_ rfl (VR.toSR (by unfold Dv;exact .int));have hg:=vF hlt;simp[execOp,he,Instr.index,hev,hiv,asIntOf,run_underlying hu,h0,hg]
 ·cases hc
theorem qJ(h:FR F g w tmps vm ss s){off:Nat}{x:Src}(hc:aU P vm ss off x o.op=true)(hok:(KQ off (rd s x)).ok=true):
  BD (AW F g s.ob) w g s.ob key (KQ off (rd s x)) ((execOp ({ tmps:=tmps,defers:=ds }:Act).eval o).run P w):=by
 unfold aU at hc;split at hc
 ·rename_i t y f he;simp only[baT] at hc;obtain⟨hs,hty⟩:=hc;cases hf:PQ P t f with
  | none=>rw[hf] at hty;cases hty
  | some fd=>
   rw[hf] at hty;simp only[baT,beq_iff_eq] at hty;obtain⟨hoff,hz⟩:=hty;cases hsz:UE P fd.type with
   | none=>rw[hsz] at hz;cases hz
   | some n=>
    rw[hsz] at hz;have hn:n≠0:=by simpa using hz
    obtain⟨fs,hu,hfs⟩:=aF hf;have hv:=h.src (ds:=ds) hs;have hrun:∀ ad:Addr,(fieldPlace ad fd).run P w = .ok (ad.add off) w:=fun ad=>by simp[fieldPlace,EJ hsz,hn,hoff]
    revert hok;generalize rd s x=a at hv;intro hok;cases a<;>simp only[KQ,bad] at hok<;>try (cases hok;done)
    case ref k i o0=>
     obtain⟨hm,ho,hi,hev⟩:=hv;refine .val (v:=.pointer (some ⟨g.β k,i*hm.sz+(o0+off),none⟩)) ?_ rfl ⟨hm,ho,hi,rfl⟩;simp[execOp,he,Instr.fieldAt,hev,run_underlying hu,hfs,Instr.sureAddr,hrun,Fg,Nat.add_assoc]
    case ptr sz0 els i o0=>
     simp only[SR,MO] at hv;generalize hev:({ tmps:=tmps,defers:=ds }:Act).eval y=v at hv;cases hv with
     | ptr b off0 r hsz0 hi hns hcl hw hr=>
      refine .val (v:=.pointer (some ⟨b,off0+(i*sz0+(o0+off)),none⟩)) ?_ rfl (VR.toSR (.ptr b off0 r hsz0 hi hns hcl hw hr));simp[execOp,he,Instr.fieldAt,hev,run_underlying hu,hfs,Instr.sureAddr,hrun,Fg,Nat.add_assoc]
 ·cases hc
theorem AMR(h:FR F g w tmps vm ss s){x:Src}{i:Nat}(hc:AJO vm ss x i o.op=true)(hok:(jx i (rd s x)).ok=true):
  BD (AW F g s.ob) w g s.ob key (jx i (rd s x)) ((execOp ({ tmps:=tmps,defers:=ds }:Act).eval o).run P w):=by
 unfold AJO at hc;split at hc
 ·rename_i y j he;simp only[baT,beq_iff_eq] at hc;obtain⟨hs,hij⟩:=hc;subst hij;have hv:=h.src (ds:=ds) hs;revert hok;generalize rd s x=a at hv;intro hok;cases a<;>simp only[jx,bad] at hok<;>try (cases hok;done)
  case tup as=>
   obtain⟨vs,hev,hn,h1⟩:=hv;simp only[jx,ET,dtE] at hok ⊢;obtain⟨u,hget,hgu⟩:=TF (cs:=vs) (j:=i) (by rw[hn];exact hok);have h1:=h1 i hok;rw[hgu] at h1;exact .val (v:=u) (by simp[execOp,he,hev,Instr.extract,hget]) rfl h1.toSR
 ·cases hc
theorem s_un(h:FR F g w tmps vm ss s){u:UnOp}{x:Src}(hc:cUn vm ss u x o.op=true)(hok:(unA u (rd s x)).ok=true):
  BD (AW F g s.ob) w g s.ob key (unA u (rd s x)) ((execOp ({ tmps:=tmps,defers:=ds }:Act).eval o).run P w):=by
 unfold cUn at hc;split at hc
 ·rename_i u' t y he;simp only[baT,beq_iff_eq] at hc;obtain⟨hs,rfl⟩:=hc;have hv:=h.src (ds:=ds) hs;revert hok;generalize rd s x=a at hv;intro hok;cases a<;>simp only[unA,bad] at hok<;>try (cases hok;done)
  case int k n=>
   have hev:=NJ hv;cases u<;>simp only[DB] at hok<;>try (cases hok;done)
   exact .val (v:=.int k (k.wrap (0-n))) (by simp[execOp,he,hev,Op.unary,Op.intArith]) rfl (VR.toSR .int)
  case bool b=>
   have hev:=Lj hv;cases u<;>simp only[DB] at hok<;>try (cases hok;done)
   exact .val (v:=.bool (!b)) (by simp[execOp,he,hev,Op.unary]) rfl (VR.toSR .bool)
 ·cases hc
theorem AGh(h:FR F g w tmps vm ss s){k:IntKind}{x:Src}(hc:AAO P vm ss k x o.op=true)(hok:(aL k (rd s x)).ok=true):
  BD (AW F g s.ob) w g s.ob key (aL k (rd s x)) ((execOp ({ tmps:=tmps,defers:=ds }:Act).eval o).run P w):=by
 unfold AAO at hc;split at hc
 ·rename_i sT dT y he;simp only[baT] at hc;obtain⟨hs,hty⟩:=hc;cases hi:nG P sT with
  | none=>rw[hi] at hty;cases hty
  | some k0=>
   rw[hi] at hty;simp only[beq_iff_eq] at hty;have hv:=h.src (ds:=ds) hs;revert hok;generalize rd s x=a at hv;intro hok;cases a<;>simp only[aL,bad] at hok<;>try (cases hok;done)
   case int k1 n=>
    have hev:=NJ hv;exact .val (v:=.int k (k.wrap n)) (by simp[execOp,he,hev,convert,run_underlying (XO hi),run_underlying (XO hty),Conv.intToInt]) rfl (VR.toSR .int)
 ·cases hc
theorem Lm(l:List UInt8):(⟨l.toArray⟩:ByteArray).size=l.length:=by simp[ByteArray.size]
theorem AMP(h:FR F g w tmps vm ss s){st:Bool}{x:Src}(hc:AJM P vm ss st x o.op=true)(hok:(Vp s.ob st (rd s x)).ok=true):
  BD (AW F g s.ob) w g s.ob key (Vp s.ob st (rd s x)) ((execOp ({ tmps:=tmps,defers:=ds }:Act).eval o).run P w):=by
 unfold AJM at hc;split at hc
 ·rename_i args tys he;split at hc
  ·rename_i y t hargs htys;simp only[baT] at hc;obtain⟨hs,hty⟩:=hc;obtain rfl:args = #[y]:=by cases args;simp_all
   obtain rfl:tys = #[t]:=by cases tys;simp_all
   have hv:=h.src (ds:=ds) hs;revert hok;generalize rd s x=a at hv;intro hok;cases a<;>simp only[Vp,bad] at hok<;>try (cases hok;done)
   case str l=>
    have hev:=QH hv;simp only[ET] at hok;subst hok;have hu:=Qr (by simpa using hty);exact .val (v:=.int .i64 (l.length:Int)) (by simp[execOp,he,resolve,invoke,builtin,Builtin.len_,run_underlying hu,hev,goInt,Lm]) rfl (VR.toSR .int)
   all_goals
    obtain rfl:st=false:=by cases st<;>simp_all [ET,FQ]
    simp only[bfT,if_false,Option.isSome_iff_exists] at hty;obtain⟨e,hsl⟩:=hty;have hu:=MA hsl
   case sl sz els=>
    simp only[SR,MO] at hv;generalize hev:({ tmps:=tmps,defers:=ds }:Act).eval y=v at hv;cases hv with
    | @sl ad n cap _ _ b off r hn hcap hsz0 ha hcl hw hr=>
     exact .val (v:=.int .i64 (els.length:Int)) (by simp[execOp,he,resolve,invoke,builtin,Builtin.len_,run_underlying hu,hev,goInt,hn]) rfl (VR.toSR .int)
   case nilsl=>
    have hev:=QI hv;exact .val (v:=.int .i64 0) (by simp[execOp,he,resolve,invoke,builtin,Builtin.len_,run_underlying hu,hev,goInt]) rfl (VR.toSR .int)
   case own k=>
    obtain⟨hm,ho,hev⟩:=hv;simp only[Vp,ho,pB];rcases hev with hev|⟨hz,hev⟩
    rotate_left
    ·rw[h.nil_els ho hz];exact .val (v:=.int .i64 0) (by simp[execOp,he,resolve,invoke,builtin,Builtin.len_,run_underlying hu,hev,goInt]) rfl (VR.toSR .int)
    exact .val (v:=.int .i64 (hm.els.length:Int)) (by simp[execOp,he,resolve,invoke,builtin,Builtin.len_,run_underlying hu,hev,goInt]) rfl (VR.toSR .int)
  ·cases hc
 ·cases hc
theorem AMT(h:FR F g w tmps vm ss s){x:Src}(hc:AJQ vm ss x o.op=true)(hok:(Vx (Bd key) (rd s x)).ok=true):
  BD (AW F g s.ob) w g s.ob key (Vx (Bd key) (rd s x)) ((execOp ({ tmps:=tmps,defers:=ds }:Act).eval o).run P w):=by
 unfold AJQ at hc;split at hc
 ·rename_i e y he;have hv:=h.src (ds:=ds) hc;have hat:(rd s x).atoms=true:=by simp only[Vx,baT] at hok;exact hok.2
  exact cB (P:=P) (t:=e) (hv.atoms hat) hok (by simp[execOp,he,Instr.box,newVar,newRow])
 ·cases hc
theorem ABh(h:FR F g w tmps vm ss s){z:AV}(hc:nq P z o.op=true)(hok:(Vx (Bd key) z).ok=true):
  BD (AW F g s.ob) w g s.ob key (Vx (Bd key) z) ((execOp ({ tmps:=tmps,defers:=ds }:Act).eval o).run P w):=by
 unfold nq at hc;split at hc
 ·rename_i e he;split at hc
  ·rename_i zv hz;exact cB (P:=P) (t:=e) (gM hc) hok (by simp[execOp,he,Instr.alloc,PI hz,newVar,newRow])
  ·cases hc
 ·cases hc
theorem AMQ(h:FR F g w tmps vm ss s){agg:Bool}{off sz:Nat}{x:Src}(hc:AJN P vm ss agg off sz x o.op=true)(hok:(part agg sz off (rd s x)).ok=true)(hag:(rd s x).isAgg=true):
  BD (AW F g s.ob) w g s.ob key (part agg sz off (rd s x)) ((execOp ({ tmps:=tmps,defers:=ds }:Act).eval o).run P w):=by
 unfold AJN at hc;split at hc
 ·rename_i t y f he;simp only[baT] at hc;obtain⟨hs,hty⟩:=hc;cases hf:PQ P t f with
  | none=>rw[hf] at hty;cases hty
  | some fd=>
   rw[hf] at hty;simp only[baT,beq_iff_eq] at hty;obtain⟨hoff,hagg,hsz⟩:=hty;obtain⟨fs,hu,hfs⟩:=aF hf;have hv:=h.src (ds:=ds) hs;revert hok hag;generalize rd s x=a at hv;intro hok hag;cases a<;>simp[AV.isAgg] at hag
   rename_i as;simp only[SR,MO] at hv;generalize hev:({ tmps:=tmps,defers:=ds }:Act).eval y=v at hv;cases hv with
   | @agg cs _ hn hat hr=>
    cases agg with
    | false=>
     have hok':off<as.length:=of_decide_eq_true hok;obtain⟨u,hg,hgu⟩:=TF (cs:=cs) (j:=off) (by rw[hn];exact hok');have hr':=hr off hok';rw[hgu] at hr';exact .val (v:=u) (by simp[execOp,he,Instr.field,hev,run_underlying hu,hfs,asAgg,Go.part,hoff,MU hagg,hg]) rfl hr'.toSR
    | true=>
     have hle:off+sz<=as.length:=of_decide_eq_true (Bool.and_eq_true_iff.1 (show ((AV.agg as).isAgg&&decide (off+sz<=(AV.agg as).cells.length))=true from hok)).2;simp only[part,AV.cells];refine .val (v:=.agg (cs.extract off (off+sz))) (by simp[execOp,he,Instr.field,hev,run_underlying hu,hfs,asAgg,Go.part,hoff,MU hagg,EJ hsz]) rfl (VR.toSR ?_)
     have hget:∀ j,j<sz->(cs.extract off (off+sz)).getD j undef=cs.getD (off+j) undef:=by
      intro j hj;rw[agD,agD,Array.getElem?_extract,if_pos (by omega)]
     have hxs:(cs.extract off (off+sz)).size=sz:=by simp;omega
     rw[AO];split
     ·rename_i he2;simp only[baT,beq_iff_eq] at he2;obtain⟨h0,h1⟩:=he2;subst h0;refine .agg (by rw[hxs,h1]) hat fun j hj=>?_
      rw[hget j (by omega),Nat.zero_add];exact hr j hj
     ·have hd:∀ j,j<sz->((as.drop off).take sz).getD j .any=as.getD (off+j) .any:=by
       intro j hj;simp[gdE,List.getElem?_take,List.getElem?_drop,hj]
      have hlen:((as.drop off).take sz).length=sz:=by simp;omega
      refine .agg (by rw[hxs,hlen]) (fun j hj=>?_) fun j hj=>?_
      ·rw[hd j (by omega)];exact hat _ (by omega)
      ·rw[hd j (by omega),hget j (by omega)];exact hr _ (by omega)
 ·cases hc
end
section
variable {F:Nat->Prop}{g:Gh}{w:World}{tmps:Array Value}{ds:List Deferred}{vm ss:List Nat}{s:St}{P:Program}{o:Oper}{key:Nat}
theorem Va(P:Program)(w:World)(op:BinOp)(t:TypeId)(x y:Operand)(k j:IntKind)(a b:Int):(eqGuard op t x y (.int k a) (.int j b)).run P w = .ok () w:=by
 unfold eqGuard;cases op<;>simp
theorem TC(P:Program)(w:World)(op:BinOp)(t:TypeId)(x y:Operand)(a b:Bool):(eqGuard op t x y (.bool a) (.bool b)).run P w = .ok () w:=by
 unfold eqGuard;cases op<;>simp
theorem kE(P:Program)(w:World)(op:BinOp)(t:TypeId)(x y:Operand)(a b:ByteArray):(eqGuard op t x y (.string a) (.string b)).run P w = .ok () w:=by
 unfold eqGuard;cases op<;>simp
theorem zY(P:Program)(w:World)(t:TypeId)(op:BinOp)(k:IntKind)(x y:Int)(hok:(Le op k x y).ok=true):
  ∃ v,(binOp op t (.int k x) (.int k y)).run P w = .ok v w∧∀ S,VR S w v (Le op k x y).v:=by
 cases op<;>simp only[Le,DB,ET,bad] at hok ⊢<;>try (cases hok;done)
 case add=>exact⟨.int k (k.wrap (x+y)),by simp[binOp,Op.intArith],fun _=>.int⟩
 case sub=>exact⟨.int k (k.wrap (x-y)),by simp[binOp,Op.intArith],fun _=>.int⟩
 case mul=>exact⟨.int k (k.wrap (x*y)),by simp[binOp,Op.intArith],fun _=>.int⟩
 case quo=>
  have h0:y≠0:=by simpa[nz] using hok
  exact⟨.int k (k.wrap (x.tdiv y)),by simp[binOp,Op.intDiv,h0],fun _=>.int⟩
 case rem=>
  have h0:y≠0:=by simpa[nz] using hok
  exact⟨.int k (x.tmod y),by simp[binOp,Op.intDiv,h0],fun _=>.int⟩
 case and=>exact⟨_,by simp only[binOp,Op.intBits];simp only[ne_eq,not_true,if_false];rfl,fun _=>.int⟩
 case or=>exact⟨_,by simp only[binOp,Op.intBits];simp only[ne_eq,not_true,if_false];rfl,fun _=>.int⟩
 case xor=>exact⟨_,by simp only[binOp,Op.intBits];simp only[ne_eq,not_true,if_false];rfl,fun _=>.int⟩
 case andNot=>exact⟨_,by simp only[binOp,Op.intBits];simp only[ne_eq,not_true,if_false];rfl,fun _=>.int⟩
 case eql=>exact⟨.bool (x==y),by simp[binOp,Op.intCmp],fun _=>.bool⟩
 case neq=>exact⟨.bool (!(x==y)),by simp[binOp,Op.intCmp,bne],fun _=>.bool⟩
 case lss=>exact⟨.bool (decide (x<y)),by simp[binOp,Op.intCmp],fun _=>.bool⟩
 case leq=>exact⟨.bool (decide (x<=y)),by simp[binOp,Op.intCmp],fun _=>.bool⟩
 case gtr=>exact⟨.bool (decide (y<x)),by simp[binOp,Op.intCmp],fun _=>.bool⟩
 case geq=>exact⟨.bool (decide (y<=x)),by simp[binOp,Op.intCmp],fun _=>.bool⟩
theorem ABZ(P:Program)(w:World)(t:TypeId)(op:BinOp)(k j:IntKind)(x y:Int)(hok:(shB op k x y).ok=true):
  ∃ v,(binOp op t (.int k x) (.int j y)).run P w = .ok v w∧∀ S,VR S w v (shB op k x y).v:=by
 cases op<;>simp only[shB,DB,ET,bad,UT,dtE] at hok ⊢<;>try (cases hok;done)
 case shl=>
  have h0:¬ y<0:=by omega
  exact⟨.int k (k.wrap (x*2^(min y.toNat k.bits))),by simp[binOp,Op.shift,h0],fun _=>.int⟩
 case shr=>
  have h0:¬ y<0:=by omega
  exact⟨.int k (x.fdiv (2^(min y.toNat k.bits))),by simp[binOp,Op.shift,h0],fun _=>.int⟩
theorem vG(x y:List UInt8):(⟨x.toArray⟩:ByteArray)++⟨y.toArray⟩=⟨(x++y).toArray⟩:=by
 apply ByteArray.ext;simp
theorem wB(P:Program)(w:World)(t:TypeId)(op:BinOp)(x y:List UInt8)(hok:(UL op x y).ok=true):
  ∃ v,(binOp op t (.string ⟨x.toArray⟩) (.string ⟨y.toArray⟩)).run P w = .ok v w∧∀ S,VR S w v (UL op x y).v:=by
 cases op<;>simp only[UL,DB,ET,bad] at hok ⊢<;>try (cases hok;done)
 case add=>
  have hle:x.length+y.length<=9223372036854775807:=of_decide_eq_true hok
  have hn:¬ (((⟨x.toArray⟩:ByteArray).size+(⟨y.toArray⟩:ByteArray).size:Nat):Int)>IntKind.i64.max:=by
   rw[Lm,Lm];have:IntKind.i64.max=9223372036854775807:=by decide
   omega
  refine⟨.string ⟨(x++y).toArray⟩,?_,fun _=>.str⟩;simp only[binOp,Op.stringOp];rw[if_neg hn,vG];rfl
 case eql=>exact⟨.bool (x==y),by simp[binOp,Op.stringOp],fun _=>.bool⟩
 case neq=>exact⟨.bool (!(x==y)),by simp[binOp,Op.stringOp],fun _=>.bool⟩
 case lss=>exact⟨.bool (Op.bytesLess x y),by simp[binOp,Op.stringOp],fun _=>.bool⟩
 case leq=>exact⟨.bool (Op.bytesLess x y||x==y),by simp[binOp,Op.stringOp],fun _=>.bool⟩
 case gtr=>exact⟨.bool (!(Op.bytesLess x y||x==y)),by simp[binOp,Op.stringOp],fun _=>.bool⟩
 case geq=>exact⟨.bool (!Op.bytesLess x y),by simp[binOp,Op.stringOp],fun _=>.bool⟩
def AAV(P:Program)(t:TypeId):Bool :=
 match P.underlying t with
 | some .bool=>true
 | _=>false
theorem AAU{P:Program}{t:TypeId}(h:AAV P t=true):P.underlying t=some .bool:=by
 unfold AAV at h;split at h
 ·assumption
 ·cases h
def AJR(P:Program)(vm ss:List Nat)(bl:Bool)(u:BinOp)(x y:Src):Op->Bool
 | .binOp u' t a b _=>BL vm ss a x&&(BL vm ss b y&&(u==u'&&(!bl||AAV P t)))
 | _=>false
theorem zp(P:Program)(w:World)(t:TypeId)(hu:P.underlying t=some .bool)(x y:Bool)(n:Nat):(Op.equalIn (n+1) t (.bool x) (.bool y)).run P w = .ok (x==y) w:=by
 simp[Op.equalIn,run_underlying hu]
theorem AMU(h:FR F g w tmps vm ss s){bl:Bool}{u:BinOp}{x y:Src}(hc:AJR P vm ss bl u x y o.op=true)(hok:(aX bl u (rd s x) (rd s y)).ok=true):
  BD (AW F g s.ob) w g s.ob key (aX bl u (rd s x) (rd s y)) ((execOp ({ tmps:=tmps,defers:=ds }:Act).eval o).run P w):=by
 unfold AJR at hc;split at hc
 ·rename_i u' t a b yt he;simp only[baT,beq_iff_eq] at hc;obtain⟨hsx,hsy,hu,hty⟩:=hc;subst hu;have hvx:=h.src (ds:=ds) hsx;have hvy:=h.src (ds:=ds) hsy;revert hok;generalize rd s x=ax at hvx;generalize rd s y=ay at hvy;intro hok;cases ax<;>cases ay<;>simp only[aX,bad] at hok<;>try (cases hok;done)
  case int.int k n j m=>
   have e1:=NJ hvx;have e2:=NJ hvy;rw[AO] at hok;simp only[aX,AO];split
   ·rename_i hsh;rw[if_pos hsh] at hok;obtain⟨v,hr,hv⟩:=ABZ P w t u k j n m hok;exact .val (v:=v) (by simp[execOp,he,e1,e2,Va,hr]) (by cases u<;>rfl) (hv _).toSR
   ·rename_i hsh;rw[if_neg hsh] at hok;simp only[FQ,baT,beq_iff_eq] at hok;obtain⟨hk,hok⟩:=hok;subst hk;obtain⟨v,hr,hv⟩:=zY P w t u k n m hok;exact .val (v:=v) (by simp[execOp,he,e1,e2,Va,hr]) (by cases u<;>rfl) (hv _).toSR
  case str.str l m=>
   have e1:=QH hvx;have e2:=QH hvy;obtain⟨v,hr,hv⟩:=wB P w t u l m hok;exact .val (v:=v) (by simp[execOp,he,e1,e2,kE,hr]) (by cases u<;>rfl) (hv _).toSR
  case bool.bool p q=>
   have e1:=Lj hvx;have e2:=Lj hvy;simp only[FQ,baT] at hok;obtain⟨hbl,hok⟩:=hok;subst hbl;have hbt:=AAU (by simpa using hty);have hq:=zp P w t hbt p q 9999;simp only[aX,FQ,Bool.true_and];cases u<;>simp only[eh,bad] at hok<;>try (cases hok;done)
   case eql=>exact .val (v:=.bool (p==q)) (by simp[execOp,he,e1,e2,TC,binOp,Op.equal,Op.maxDepth,hq]) rfl (VR.toSR .bool)
   case neq=>exact .val (v:=.bool (!(p==q))) (by simp[execOp,he,e1,e2,TC,binOp,Op.equal,Op.maxDepth,hq]) rfl (VR.toSR .bool)
 ·cases hc
theorem PJ(P:Program)(w:World){k:IntKind}{n:Int}{y:Nat}(c:BoundsCode)(h0:0<=n)(h1:n<=(y:Int)):(Instr.sliceBound (.int k n) y c).run P w = .ok n.toNat w:=by
 simp[Instr.sliceBound,asIntOf,h0,h1]
theorem bU{α:Type}(l:List α)(a b:Nat):(l.take b).drop a=(l.drop a).take (b-a):=by
 rw[List.drop_take]
theorem Nn(P:Program)(w:World){isS:Bool}{len cap:Nat}{lo hi:Option Value}{a b:Int}(hlo:match lo with|some v=>∃ k,v = .int k a|none=>a=0)
  (hhi:match hi with|some v=>∃ k,v = .int k b|none=>b=(len:Int)) (h0:0<=a) (hab:a<=b) (hb:b<=(cap:Int)) :
  (Instr.sliceBounds isS len cap lo hi none).run P w = .ok (a.toNat,b.toNat,cap) w:=by
 have e:((b.toNat:Nat):Int)=b:=by omega
 cases lo with
 | none=>
  simp only at hlo;subst hlo;cases hi with
  | none=>simp only at hhi;subst hhi;simp[Instr.sliceBounds]
  | some v=>
   obtain⟨k,rfl⟩:=hhi;cases isS<;>simp[Instr.sliceBounds,PJ P w _ (by omega:(0:Int)<=b) hb]
 | some u=>
  obtain⟨j,rfl⟩:=hlo;cases hi with
  | none=>
   simp only at hhi;subst hhi;simp[Instr.sliceBounds,PJ P w _ h0 hab]
  | some v=>
   obtain⟨k,rfl⟩:=hhi;have hb2:a<=((b.toNat:Nat):Int):=by omega
   cases isS<;>simp[Instr.sliceBounds,PJ P w _ (by omega:(0:Int)<=b) hb,PJ P w _ h0 hb2]
theorem LB(h:FR F g w tmps vm ss s){l:Option Operand}{lo:Option Src}(hc:AEI vm ss l lo=true){d:Int}(h0:0<=Id d (lo.map (rd s))):
  match l.map ({ tmps:=tmps,defers:=ds }:Act).eval with|some v=>∃ k,v = .int k (Id d (lo.map (rd s)))|none=>Id d (lo.map (rd s))=d:=by
 cases l<;>cases lo<;>simp[AEI] at hc
 ·rfl
 ·simp only[Option.map_some,Id] at h0 ⊢;exact YX (h.src (ds:=ds) hc) h0
theorem Oj{els:List AV}{a b i:Nat}(hi:i<b-a):((els.take b).drop a).getD i .any=els.getD (a+i) .any:=by
 rw[gdE,gdE,List.getElem?_drop,List.getElem?_take,if_pos (by omega)]
theorem ABc(h:FR F g w tmps vm ss s){sz:Nat}{x:Src}{lo hi:Option Src}(hc:nj P vm ss sz x lo hi o.op=true)(hok:(LK sz (lo.map (rd s)) (hi.map (rd s)) (rd s x)).ok=true):
  BD (AW F g s.ob) w g s.ob key (LK sz (lo.map (rd s)) (hi.map (rd s)) (rd s x)) ((execOp ({ tmps:=tmps,defers:=ds }:Act).eval o).run P w):=by
 unfold nj at hc;split at hc
 ·rename_i t y l hh he;simp only[baT] at hc;obtain⟨hs,hl,hhh,hty⟩:=hc;have hv:=h.src (ds:=ds) hs;revert hok;generalize rd s x=a at hv;intro hok;cases a<;>simp only[LK,bad] at hok<;>try (cases hok;done)
  case str cs=>
   have hev:=QH hv;simp only[LK,ET,JG,baT,beq_iff_eq,dtE] at hok ⊢;obtain⟨hz,h0,hab,hb⟩:=hok
   have hstr:iQ P t=true:=by
    simp only[Bool.or_eq_true,baT] at hty;rcases hty with hty|hty
    ·exact hty.1
    ·split at hty
     ·simp[hz] at hty
     ·cases hty
   have hu:=Qr hstr;have hb1:=LB (ds:=ds) h hl h0;have hb2:=LB (ds:=ds) h hhh (d:=(cs.length:Int)) (by omega);refine .val (v:=.string ⟨(cut cs (Id 0 (lo.map (rd s))) (Id cs.length (hi.map (rd s)))).toArray⟩) ?_ rfl (VR.toSR .str);have hrun:=Nn P w (isS:=false) (len:=cs.length) (cap:=cs.length) hb1 hb2 h0 hab hb;simp[execOp,he,Instr.sliceAt,Instr.slice,run_underlying hu,hev,Lm,hrun,ByteArray.extract_mk,cut,bU]
  case sl sz0 els=>
   simp only[SR,MO] at hv;generalize hev:({ tmps:=tmps,defers:=ds }:Act).eval y=v at hv;cases hv with
   | @sl ad n cap _ _ b off r hn hcap hsz0 ha hcl hw hr=>
    simp only[LK,ET,JG,baT,beq_iff_eq,dtE] at hok ⊢;obtain⟨hz,h0,hab,hb⟩:=hok;subst hz
    have hslt:∃ e,oc P t=some e∧UE P e=some sz0:=by
     simp only[Bool.or_eq_true,baT,beq_iff_eq] at hty;rcases hty with hty|hty
     ·omega
     ·split at hty
      ·rename_i e he2;simp only[baT,beq_iff_eq] at hty;exact⟨e,he2,hty.1⟩
      ·cases hty
    obtain⟨e,hsl,hsz⟩:=hslt;have hu:=MA hsl;have hb1:=LB (ds:=ds) h hl h0;have hb2:=LB (ds:=ds) h hhh (d:=(els.length:Int)) (by omega);subst hn;have hrun:=Nn P w (isS:=true) (len:=els.length) (cap:=cap) hb1 hb2 h0 hab (by omega);generalize hA:Id 0 (lo.map (rd s))=A at *;generalize hB:Id (els.length:Int) (hi.map (rd s))=B at *;refine .val (v:=.slice (if cap=A.toNat then ad else ad.map (·.add (A.toNat*sz0))) (B.toNat-A.toNat) (cap-A.toNat)) ?_ rfl (VR.toSR ?_)
    ·simp[execOp,he,Instr.sliceAt,Instr.slice,run_underlying hu,hev,hrun,EJ hsz]
    ·have hlen:((els.take B.toNat).drop A.toNat).length=B.toNat-A.toNat:=by simp;omega
     refine .sl b (off+A.toNat*sz0) (fun i j=>r (A.toNat+i) j) (by rw[cut];exact hlen.symm) (by omega) hsz0 (fun hp=>?_) (fun i hi=>?_) (fun i j hi hj=>?_) fun i j hi hj=>?_
     ·rw[cut,hlen] at hp;obtain⟨rfl,hns⟩:=ha (by omega);rw[if_neg (by omega)];exact⟨by simp[Fg],hns⟩
     ·rw[cut,hlen] at hi;rw[cut,Oj hi];exact hcl _ (by omega)
     ·rw[cut,hlen] at hi;have:=hw (A.toNat+i) j (by omega) hj;rw[show off+A.toNat*sz0+(i*sz0+j)=off+((A.toNat+i)*sz0+j) by rw[Nat.add_mul];omega];exact this
     ·rw[cut,hlen] at hi;rw[cut,Oj hi];exact hr _ _ (by omega) hj
  case nilsl=>
   have hev:=QI hv;simp only[LK,ET,JG,baT,Bool.not_eq_true',beq_eq_false_iff_ne,dtE] at hok ⊢;obtain⟨hz,h0,hab,hb⟩:=hok
   have hslt:∃ e,oc P t=some e∧UE P e=some sz:=by
    simp only[Bool.or_eq_true,baT,beq_iff_eq] at hty;rcases hty with hty|hty
    ·exact absurd hty.2 hz
    ·split at hty
     ·rename_i e he2;simp only[baT,beq_iff_eq] at hty;exact⟨e,he2,hty.1⟩
     ·cases hty
   obtain⟨e,hsl,hsz⟩:=hslt;have hu:=MA hsl;have hb1:=LB (ds:=ds) h hl h0;have hb2:=LB (ds:=ds) h hhh (d:=0) (by omega);have hrun:=Nn P w (isS:=true) (len:=0) (cap:=0) hb1 hb2 h0 hab hb;have hA:Id 0 (lo.map (rd s))=0:=by omega
   have hB:Id 0 (hi.map (rd s))=0:=by omega
   rw[hA,hB] at hrun;exact .val (v:=.slice none 0 0) (by simp[execOp,he,Instr.sliceAt,Instr.slice,run_underlying hu,hev,hrun,EJ hsz]) rfl (VR.toSR .nilsl)
 ·cases hc
end
open Go Go.RowKit
section
variable {F:Nat->Prop}{g:Gh}{w:World}{tmps:Array Value}{ds:List Deferred}{vm ss:List Nat}{s:St}{P:Program}{o:Oper}{key:Nat}
theorem Ot{vm ss:List Nat}:∀ {xs:List Operand} {ys:List Src},OD vm ss xs ys=true->xs.length=ys.length
 | [],[],_=>rfl
 | [],_::_,h=>by simp[OD] at h
 | _::_,[],h=>by simp[OD] at h
 | a::r,b::q,h=>by
  simp only[OD,baT] at h;simp[Ot h.2]
theorem Ou(h:FR F g w tmps vm ss s):∀ {xs:List Operand} {ys:List Src} (j:Nat),OD vm ss xs ys=true->j<ys.length ->
  SR (AW F g s.ob) w g s.ob ((xs.map ({ tmps:=tmps,defers:=ds }:Act).eval).getD j undef) ((ys.map (rd s)).getD j .any)
 | [],[],j,_,hj=>by simp at hj
 | [],_::_,_,hc,_=>by simp[OD] at hc
 | _::_,[],_,hc,_=>by simp[OD] at hc
 | a::r,b::q,0,hc,_=>by
  simp only[OD,baT] at hc;exact h.src hc.1
 | a::r,b::q,j+1,hc,hj=>by
  simp only[OD,baT] at hc;simpa using Ou h j hc.2 (by simpa using hj)
theorem SR.simple{S:Nat->Prop}{w:World}{g:Gh}{ob:CI}{v:Value}{a:AV}(h:SR S w g ob v a)(ha:a.simple=true):MO S w g ob v a:=by
 cases a<;>first|exact h|(simp[AV.simple] at ha)
theorem MZ{l:List AV}{j:Nat}(hj:j<l.length):l.getD j .any∈l:=by
 rw[gdE,geE hj];exact List.getElem_mem hj
theorem NH(l:List Value)(j:Nat):l.toArray.getD j undef=l.getD j undef:=by
 rw[← Dk]
theorem AGc(h:FR F g w tmps vm ss s){f:Fn}{fi ca:List Src}(hc:AAL vm ss f fi ca o.op=true)(hok:((fi.map (rd s)++ca.map (rd s)).all AV.simple)=true):
  BD (AW F g s.ob) w g s.ob key (ET ((fi.map (rd s)++ca.map (rd s)).all AV.simple) (.fn f (fi.map (rd s)) (ca.map (rd s)))) ((execOp ({ tmps:=tmps,defers:=ds }:Act).eval o).run P w):=by
 unfold AAL at hc;split at hc
 ·rename_i f' a b he;simp only[baT,dtE] at hc;obtain⟨hf,h1,h2⟩:=hc;subst hf;simp only[List.all_append,baT,List.all_eq_true] at hok;refine .val (v:=.func f (a.map ({ tmps:=tmps,defers:=ds }:Act).eval) (b.map ({ tmps:=tmps,defers:=ds }:Act).eval)) (by simp[execOp,he,Instr.makeFunc]) rfl ?_;refine⟨_,_,rfl,by simpa using Ot h1,by simpa using Ot h2,fun j hj=>?_,fun j hj=>?_⟩
  ·rw[← Dk,Array.toList_map];exact (Ou h j h1 (by simpa using hj)).simple (hok.1 _ (MZ hj))
  ·rw[← Dk,Array.toList_map];exact (Ou h j h2 (by simpa using hj)).simple (hok.2 _ (MZ hj))
 ·cases hc
theorem AGd(h:FR F g w tmps vm ss s){sz bytes:Nat}{z:AV}{l c:Src}(hc:AAM P vm ss sz bytes z l c o.op=true)(hok:(Yz (Bd key) sz bytes z (rd s l) (rd s c)).ok=true)(hp:1<=sz):
  BD (AW F g s.ob) w g s.ob key (Yz (Bd key) sz bytes z (rd s l) (rd s c)) ((execOp ({ tmps:=tmps,defers:=ds }:Act).eval o).run P w):=by
 unfold AAM at hc;split at hc
 ·rename_i t a b he;simp only[baT] at hc;obtain⟨hs1,hs2,hty⟩:=hc;split at hty
  ·rename_i e hsl;simp only[baT,beq_iff_eq] at hty;obtain⟨hsz,hby,hty⟩:=hty;split at hty
   ·rename_i zv hz;simp only[baT,beq_iff_eq] at hty;obtain⟨hzz,hzl,hza⟩:=hty;have hu:=MA hsl;obtain⟨i,hi,hib⟩:=ki hby;have hv1:=h.src (ds:=ds) hs1;have hv2:=h.src (ds:=ds) hs2;revert hok;generalize rd s l=al at hv1;generalize rd s c=ac at hv2;intro hok;cases al<;>cases ac<;>simp only[Yz,bad] at hok<;>try (cases hok;done)
    case int.int k n k2 m=>
     simp only[Yz,ANc,baT,beq_iff_eq,dtE] at hok ⊢;obtain⟨hnm,h0,hb1,hb2⟩:=hok;subst hnm;have e1:=NJ hv1;have e2:=NJ hv2
     have hn48:n<=281474976710656:=by
      have:n*1<=n*bytes:=Int.mul_le_mul_of_nonneg_left (by omega) h0;omega
     have hw:i64.wrap n=n:=IntWalk.i64_in n ⟨by omega,by omega⟩;have hvc:=(gM (S:=AW F g s.ob) (w:=w) hzz).cells hza;have hzs:zv.cells.size=sz:=by rw[hvc.1,hzl]
     have harr:∃ arr:Array Value,arr.size=n.toNat*sz∧(∀ i j,i<n.toNat->j<sz->arr.getD (i*sz+j) undef=zv.cells.getD j undef) ∧
       (Instr.makeSlice t (.int k n) (.int k2 n)).run P w = .ok (.slice (some ⟨w.heap.size,0,none⟩) n.toNat n.toNat) (w.alloc (.cells arr e)):=by
      have hc2:¬ (n*(bytes:Int)>281474976710656):=by omega
      have hc3:¬ ((bytes:Int)*n>281474976710656):=by rw[Int.mul_comm];exact hc2
      refine⟨(Array.range (n.toNat*sz)).map ((if n.toNat*sz=0 then #[] else zv.cells)[· % (if n.toNat*sz=0 then (#[]:Array Value) else zv.cells).size]!),by simp,fun i j hi hj=>?_,?_⟩
      ·have hlt:i*sz+j<n.toNat*sz:=by
        have:(i+1)*sz<=n.toNat*sz:=Nat.mul_le_mul_right _ (by omega);rw[Nat.add_mul] at this;omega
       have hne:n.toNat*sz≠0:=by omega
       have hmod:(i*sz+j)%sz=j:=by rw[Nat.mul_comm,Nat.mul_add_mod];exact Nat.mod_eq_of_lt hj
       rw[agD,Array.getElem?_eq_getElem (by simpa using hlt)];simp only[Array.getElem_map,Array.getElem_range,Option.getD_some,if_neg hne,hzs,hmod];rw[getElem!_pos zv.cells j (by omega),agD,Array.getElem?_eq_getElem (by omega)];rfl
      ·by_cases hz0:n.toNat*sz=0
       ·simp[Instr.makeSlice,run_underlying hu,asInt,asIntOf,Qw hi,hib,hw,h0,hc3,EJ hsz,hz0,newRow];omega
       ·simp[Instr.makeSlice,run_underlying hu,asInt,asIntOf,Qw hi,hib,hw,h0,hc3,EJ hsz,hz0,newRow,PI hz];omega
     obtain⟨arr,hasz,hget,hrun⟩:=harr;refine⟨.slice (some ⟨w.heap.size,0,none⟩) n.toNat n.toNat,w.alloc (.cells arr e),by simp[execOp,he,e1,e2,hrun],AR.alloc _ _ _,.inr ⟨_,_,w.heap.size,n.toNat,rfl,by simp[Bd],Nat.le_refl _,fun S' hS=>?_,.inl ⟨rfl,.inl (by simp)⟩⟩⟩;refine⟨hp,by simp,fun i hi=>?_,fun _=>⟨arr,e,(0,0),heap_alloc_new _ _,.inl rfl,hasz,fun i j hi hj=>?_⟩⟩
     ·have:(List.replicate n.toNat z).getD i .any=z:=by
       rw[gdE,List.getElem?_replicate,if_pos (by simpa using hi)];rfl
      rw[this];exact⟨hzl,hza⟩
     ·have hi':i<n.toNat:=by simpa using hi
      have:(List.replicate n.toNat z).getD i .any=z:=by
       rw[gdE,List.getElem?_replicate,if_pos hi'];rfl
      rw[this,hget i j hi' hj];refine (hvc.2 j (by rw[hzl];exact hj)).mono (AR.alloc _ _ _) fun b hb hc=>?_
      rcases hS b hc with e|e
      ·exact e
      ·omega
   ·cases hty
  ·cases hty
 ·cases hc
theorem aC(P:Program)(w:World)(mx:Bool)(k:IntKind):∀ (r:List AV) (vs:List Value) (n:Int),vs.length=r.length->(∀ j,j<r.length->∃ m,r.getD j .any = .int k m∧vs.getD j undef = .int k m) ->
  ∃ m,Uq mx (.int k n) r = .int k m∧(vs.foldlM (bif mx then Builtin.max2 else Builtin.min2) (.int k n)).run P w = .ok (.int k m) w
 | [],[],n,_,_=>⟨n,rfl,rfl⟩
 | [],_::_,_,hl,_=>by simp at hl
 | _::_,[],_,hl,_=>by simp at hl
 | a::r,v::vs,n,hl,h=>by
  obtain⟨m,ha,hv⟩:=h 0 (by simp);simp only[List.getD_cons_zero] at ha hv;subst ha hv;have ih:=aC P w mx k r vs (bif mx then (if n<m then m else n) else (if m<n then m else n)) (by simpa using hl) (fun j hj=>by simpa using h (j+1) (by simpa using hj));obtain⟨q,e1,e2⟩:=ih;refine⟨q,by simp only[Uq,mm2];exact e1,?_⟩;rw[List.foldlM_cons,Sem.run_bind];cases mx
  ·simp only[cond_false] at e2 ⊢;simp only[Builtin.min2,Sem.run_pure,Result.andThen_ok];exact e2
  ·simp only[cond_true] at e2 ⊢;simp only[Builtin.max2,Sem.run_pure,Result.andThen_ok];exact e2
theorem s_mm(h:FR F g w tmps vm ss s){mx:Bool}{xs:List Src}(hc:cMM vm ss mx xs o.op=true)(hok:(mmA mx (xs.map (rd s))).ok=true):
  BD (AW F g s.ob) w g s.ob key (mmA mx (xs.map (rd s))) ((execOp ({ tmps:=tmps,defers:=ds }:Act).eval o).run P w):=by
 unfold cMM at hc;split at hc
 ·rename_i b args tys he;simp only[baT] at hc;obtain⟨hl,hb⟩:=hc;cases xs with
  | nil=>simp[mmA,bad] at hok
  | cons x xs=>
   obtain⟨args⟩:=args;simp only at hl;cases args with
   | nil=>simp[OD] at hl
   | cons a args=>
    simp only[OD,baT] at hl;have hv:=h.src (ds:=ds) hl.1;simp only[List.map_cons] at hok ⊢;revert hok;generalize rd s x=ax at hv;intro hok;cases ax<;>simp only[mmA,bad] at hok<;>try (cases hok;done)
    case int k n=>
     have e1:=NJ hv;simp only[mmA,ET,List.all_eq_true] at hok ⊢;have hlen:=Ot hl.2
     obtain⟨m,e2,e3⟩:=aC P w mx k (xs.map (rd s)) (args.map ({ tmps:=tmps,defers:=ds }:Act).eval) n (by simpa using hlen) (fun j hj=>by
      have hsr:=Ou (ds:=ds) h j hl.2 (by simpa using hj);have hk:=hok _ (MZ hj);revert hk hsr;generalize (xs.map (rd s)).getD j .any=q;intro hsr hk;cases q<;>simp[fO] at hk
      subst hk;exact⟨_,rfl,NJ hsr⟩)
     rw[e2];refine .val (v:=.int k m) ?_ rfl (VR.toSR .int);cases mx<;>cases b<;>simp at hb<;>simp[execOp,he,resolve,invoke,builtin,Builtin.min_,Builtin.max_,e1]<;>simp only[cond_false,cond_true] at e3<;>simp[e3]
 ·cases hc
def pC(P:Program)(t:TypeId):Nat :=
 match P.underlying t with
 | some .bool=>0
 | some (.int _)=>1
 | some .string=>2
 | _=>9
def dK(P:Program):Nat->List Nat->List Field->Bool
 | n,k::ks,f::fs=>(f.name != "_")&&((f.offset==n)&&((k==pC P f.type)&&(Nat.ble k 2&&(kn P f.type==some false&&dK P (n+1) ks fs))))
 | _,[],[]=>true
 | _,_,_=>false
def eqT(P:Program)(ks:List Nat)(t:TypeId):Bool :=
 (match P.underlying t with|some (.struct _)=>true|_=>false)&&(!P.stoodInHeld t&&(!P.eqGuardType P.depth t&&dK P 0 ks (P.fieldsOf t).toList))
def AJP(P:Program)(vm ss:List Nat)(neg:Bool)(ks:List Nat)(x y:Src):Op->Bool
 | .binOp u t a b _=>BL vm ss a x&&(BL vm ss b y&&((match u with | .eql=>!neg | .neq=>neg|_=>false)&&eqT P ks t))
 | _=>false
theorem TD(P:Program)(w:World)(S:Nat->Prop)(d:Nat)(xs ys:Array Value):∀ (n:Nat) (ks:List Nat) (fs:List Field) (a b:List AV),dK P n ks fs=true->Hg ks a b=true ->
  (∀ j,j<a.length->n+j<xs.size∧VR S w (xs.getD (n+j) undef) (a.getD j .any))->(∀ j,j<b.length->n+j<ys.size∧VR S w (ys.getD (n+j) undef) (b.getD j .any)) ->
  (Op.eqFields (d+1) xs ys fs).run P w = .ok (KF a b) w
 | _,[],[],a,b,_,hok,_,_=>by
  cases a<;>cases b<;>simp[Hg] at hok
  simp[Op.eqFields,KF]
 | _,[],_::_,_,_,hf,_,_,_=>by simp[dK] at hf
 | _,_::_,[],_,_,hf,_,_,_=>by simp[dK] at hf
 | n,k::ks,f::fs,a,b,hf,hok,hx,hy=>by
  cases a with
  | nil=>simp[Hg] at hok
  | cons p r=>
   cases b with
   | nil=>simp[Hg] at hok
   | cons q t=>
    simp only[dK,baT,bne_iff_ne,beq_iff_eq] at hf;obtain⟨hname,hoff,hk,hk2,hagg,hrest⟩:=hf;simp only[Hg,baT] at hok;have ih:=TD P w S d xs ys (n+1) ks fs r t hrest hok.2 (fun j hj=>by have:=hx (j+1) (by simpa using hj);rw[Nat.add_assoc,Nat.add_comm 1 j];simpa using this) (fun j hj=>by have:=hy (j+1) (by simpa using hj);rw[Nat.add_assoc,Nat.add_comm 1 j];simpa using this);have h1:=hx 0 (by simp);have h2:=hy 0 (by simp);simp only[Nat.add_zero,List.getD_cons_zero] at h1 h2;obtain⟨u1,g1,gu1⟩:=TF h1.1;obtain⟨u2,g2,gu2⟩:=TF h2.1;rw[gu1] at h1;rw[gu2] at h2;have hp1:(Go.part f.type xs f.offset).run P w = .ok u1 w:=by simp[Go.part,MU hagg,hoff,g1]
    have hp2:(Go.part f.type ys f.offset).run P w = .ok u2 w:=by simp[Go.part,MU hagg,hoff,g2]
    have heq:(Op.equalIn (d+1) f.type u1 u2).run P w = .ok (eq1 p q) w:=by
     have hok1:=hok.1;cases p<;>cases q<;>simp only[dQ] at hok1<;>try (cases hok1;done)
     case int.int k1 x1 k2 x2=>
      simp only[baT,beq_iff_eq] at hok1;obtain⟨rfl,rfl⟩:=hok1;cases h1.2;cases h2.2
      have:∃ kk,P.underlying f.type=some (.int kk):=by
       unfold pC at hk;split at hk<;>simp at hk;exact⟨_,by assumption⟩
      obtain⟨kk,hu⟩:=this;exact run_equalIn_int w d f.type k1 kk x1 x2 hu
     case bool.bool x1 x2=>
      simp only[beq_iff_eq] at hok1;subst hok1;cases h1.2;cases h2.2
      have hu:P.underlying f.type=some .bool:=by
       unfold pC at hk;split at hk<;>simp at hk;assumption
      exact run_equalIn_bool' w d f.type x1 x2 hu
     case str.str x1 x2=>
      simp only[beq_iff_eq] at hok1;subst hok1;cases h1.2;cases h2.2
      have hu:P.underlying f.type=some .string:=by
       unfold pC at hk;split at hk<;>simp at hk;assumption
      have:=run_equalIn_string w d f.type (⟨x1.toArray⟩:ByteArray) ⟨x2.toArray⟩ hu;simpa[eq1] using this
    simp only[Op.eqFields,Sem.run_ite,Sem.run_bind,if_pos hname,hp1,hp2,heq,Result.andThen_ok,KF];cases hE:eq1 p q
    ·simp
    ·simp[ih]
theorem AMS(h:FR F g w tmps vm ss s){neg:Bool}{ks:List Nat}{x y:Src}(hc:AJP P vm ss neg ks x y o.op=true)(hok:(Oq neg ks (rd s x) (rd s y)).ok=true):
  BD (AW F g s.ob) w g s.ob key (Oq neg ks (rd s x) (rd s y)) ((execOp ({ tmps:=tmps,defers:=ds }:Act).eval o).run P w):=by
 unfold AJP at hc;split at hc
 ·rename_i u t a b yt he;simp only[baT] at hc;obtain⟨hs1,hs2,hu,hty⟩:=hc;have hv1:=h.src (ds:=ds) hs1;have hv2:=h.src (ds:=ds) hs2;revert hok;generalize rd s x=ax at hv1;generalize rd s y=ay at hv2;intro hok;cases ax<;>cases ay<;>simp only[Oq,bad] at hok<;>try (cases hok;done)
  case agg.agg p q=>
   simp only[SR,MO] at hv1 hv2;generalize e1:({ tmps:=tmps,defers:=ds }:Act).eval a=v1 at hv1;generalize e2:({ tmps:=tmps,defers:=ds }:Act).eval b=v2 at hv2;cases hv1 with
   | @agg xs _ n1 _ r1=>
    cases hv2 with
    | @agg ys _ n2 _ r2=>
     simp only[Oq,ET] at hok ⊢;simp only[eqT,baT,Bool.not_eq_true'] at hty;obtain⟨hst,hsh,hg,hf⟩:=hty
     have hst':P.underlying t=some (.struct (P.fieldsOf t)):=by
      unfold Program.fieldsOf;split at hst
      ·rename_i fs hfs;rw[hfs]
      ·cases hst
     have hrun:=TD P w (AW F g s.ob) 9998 xs ys 0 ks _ p q hf hok (fun j hj=>by rw[Nat.zero_add];exact⟨by omega,r1 j hj⟩) (fun j hj=>by rw[Nat.zero_add];exact⟨by omega,r2 j hj⟩);have hall:=run_equalIn_struct (P:=P) w 9999 t xs ys hst' hsh;rw[hrun] at hall;cases u<;>simp at hu
     ·subst hu;exact .val (v:=.bool (KF p q)) (by simp[execOp,he,e1,e2,run_eqGuard_agg w .eql t a b xs ys hg,run_eql_struct,hall]) rfl (VR.toSR .bool)
     ·subst hu;exact .val (v:=.bool (!KF p q)) (by simp[execOp,he,e1,e2,run_eqGuard_agg w .neq t a b xs ys hg,run_neq_struct,hall]) rfl (VR.toSR .bool)
 ·cases hc
end
section
variable {F:Nat->Prop}{g:Gh}{w:World}{tmps:Array Value}{ds:List Deferred}{vm ss:List Nat}{s:St}{P:Program}{o:Oper}{key:Nat}
def AJS(P:Program)(vm ss:List Nat)(x:Src):Op->Bool
 | .convert s d y=>BL vm ss y x&&(iQ P d&&(match oc P s with
  | some e=>nG P e==some .u8
  | none=>false))
 | _=>false
theorem AAQ{S:Nat->Prop}{v:Value}{a:AV}(ha:Gu a=true)(h:VR S w v a):∃ n,a = .int .u8 n∧v = .int .u8 n:=by
 cases a<;>try (simp[Gu] at ha;done)
 rename_i k n;cases k<;>simp[Gu] at ha
 cases h;exact⟨n,rfl,rfl⟩
theorem oY(P:Program){els:List AV}(hb:els.all Gu=true){b off cap:Nat}{r:Nat->Value}{S:Nat->Prop}(hw:∀ i,i<els.length->w.cell? ⟨b,off+i,none⟩=some (r i))(hr:∀ i,i<els.length->VR S w (r i) (els.getD i .any)):
  (Conv.bytesToString (.slice (some ⟨b,off,none⟩) els.length cap)).run P w = .ok (.string ⟨(els.map Nm).toArray⟩) w:=by
 have hall:∀ i,i<els.length->∃ n,els.getD i .any = .int .u8 n∧r i = .int .u8 n:=fun i hi=>by
  simp only[List.all_eq_true] at hb;exact AAQ (hb _ (MZ hi)) (hr i hi)
 have hns:∃ ns:List Int,els=ns.map (AV.int .u8):=by
  clear hw hr
  induction els with
  | nil=>exact⟨[],rfl⟩
  | cons a t ih=>
   simp only[List.all_cons,baT] at hb
   obtain⟨n,hn⟩:∃ n,a=AV.int .u8 n:=by
    cases a<;>try (simp[Gu] at hb;done)
    rename_i k n;cases k<;>simp[Gu] at hb;exact⟨n,rfl⟩
   have hx:∃ ns:List Int,t=ns.map (AV.int .u8):=by
    have:∀ l:List AV,l.all Gu=true->∃ ns:List Int,l=ns.map (AV.int .u8):=by
     intro l
     induction l with
     | nil=>intro _;exact⟨[],rfl⟩
     | cons c l ih2=>
      intro h2;simp only[List.all_cons,baT] at h2
      obtain⟨m,hm⟩:∃ n,c=AV.int .u8 n:=by
       cases c<;>try (simp[Gu] at h2;done)
       rename_i k n;cases k<;>simp[Gu] at h2;exact⟨n,rfl⟩
      obtain⟨ms,hms⟩:=ih2 h2.2;exact⟨m::ms,by rw[hm,hms];rfl⟩
    exact this t hb.2
   obtain⟨ns,hns⟩:=hx;exact⟨n::ns,by rw[hn,hns];rfl⟩
 obtain⟨ns,rfl⟩:=hns;have hl:=run_loadCells (P:=P) w ⟨b,off,none⟩ ns.length r (fun j hj=>by rw[Fg];exact hw j (by simpa using hj))
 have hrn:((List.range ns.length).map r)=ns.map (Value.int .u8):=by
  apply List.ext_getElem
  ·simp
  ·intro i h1 h2;have hi:i<ns.length:=by simpa using h1
   obtain⟨n,e1,e2⟩:=hall i (by simpa using hi);simp only[List.getElem_map,List.getElem_range,e2];rw[gdE,List.getElem?_map,geE hi] at e1;simp only[Option.map_some,Option.getD_some,AV.int.injEq,true_and] at e1;rw[e1]
 rw[hrn] at hl;have:=run_bytesToString (P:=P) w ⟨b,off,none⟩ ns.length cap ns hl;rw[List.length_map,this,foldl_push_bytes]
 congr 2
 apply ByteArray.ext;simp[Nm]
theorem AMV(h:FR F g w tmps vm ss s){x:Src}(hc:AJS P vm ss x o.op=true)(hok:(Vy s.ob (rd s x)).ok=true):
  BD (AW F g s.ob) w g s.ob key (Vy s.ob (rd s x)) ((execOp ({ tmps:=tmps,defers:=ds }:Act).eval o).run P w):=by
 unfold AJS at hc;split at hc
 ·rename_i sT dT y he;simp only[baT] at hc;obtain⟨hs,hd,hty⟩:=hc;split at hty
  ·rename_i e hsl;simp only[beq_iff_eq] at hty;have hu:=MA hsl;have hue:=XO hty;have hud:=Qr hd
   have hconv:∀ v:Value,(∃ a l c,v = .slice a l c)->(convert sT dT v).run P w=(Conv.bytesToString v).run P w:=by
    rintro v ⟨a,l,c,rfl⟩;cases a<;>simp[convert,run_underlying hu,run_underlying hud,run_underlying hue]
   have hv:=h.src (ds:=ds) hs;revert hok;generalize rd s x=a at hv;intro hok;cases a<;>simp only[Vy,bad] at hok<;>try (cases hok;done)
   case nilsl=>
    have hev:=QI hv;exact .val (v:=.string ⟨([]:List UInt8).toArray⟩) (by simp[execOp,he,hev,hconv,Conv.bytesToString];rfl) rfl (VR.toSR .str)
   case sl sz els=>
    simp only[SR,MO] at hv;generalize hev:({ tmps:=tmps,defers:=ds }:Act).eval y=v at hv;cases hv with
    | @sl ad n cap _ _ b off r hn hcap hsz0 ha hcl hw hr=>
     simp only[Vy,iT,ET] at hok ⊢;subst hn
     by_cases hp:0<els.length
     ·obtain⟨rfl,hns⟩:=ha hp
      have hone:∀ i,i<els.length->(els.getD i .any).cells=[els.getD i .any]:=fun i hi=>by
       simp only[List.all_eq_true] at hok;have:=hok _ (MZ hi);revert this;generalize els.getD i .any=q;intro this;cases q<;>first|rfl|(simp[Gu] at this)
      have hsz1:sz=1:=by have:=(hcl 0 hp).1;rw[hone 0 hp] at this;simpa using this.symm
      subst hsz1;have hrun:=oY (w:=w) P hok (cap:=cap) (r:=fun i=>r i 0) (S:=AW F g s.ob) (fun i hi=>by have:=hw i 0 hi (by omega);simpa using this) (fun i hi=>by have:=hr i 0 hi (by omega);rw[hone i hi] at this;simpa using this);exact .val (v:=.string ⟨(els.map Nm).toArray⟩) (by simp[execOp,he,hev,hconv,hrun]) rfl (VR.toSR .str)
     ·have h0:els=[]:=List.length_eq_zero_iff.1 (by omega);subst h0;refine .val (v:=.string ⟨([]:List UInt8).toArray⟩) ?_ rfl (VR.toSR .str);cases ad<;>simp[execOp,he,hev,hconv,Conv.bytesToString,loadCells,loadCellsFrom]<;>rfl
   case own k=>
    obtain⟨hm,ho,hev⟩:=hv;simp only[Vy,ho,oZ,iT,ET] at hok ⊢;have hh:=h.home k hm ho;rcases hev with hev|⟨hz,hev⟩
    rotate_left
    ·rw[h.nil_els ho hz];refine .val (v:=.string ⟨([]:List UInt8).toArray⟩) ?_ rfl (VR.toSR .str);simp[execOp,he,hev,hconv,Conv.bytesToString,loadCells,loadCellsFrom];rfl
    obtain⟨r,hcell⟩:=hh.cell
    by_cases hp:0<hm.els.length
    ·have hone:∀ i,i<hm.els.length->(hm.els.getD i .any).cells=[hm.els.getD i .any]:=fun i hi=>by
      simp only[List.all_eq_true] at hok;have:=hok _ (MZ hi);revert this;generalize hm.els.getD i .any=q;intro this;cases q<;>first|rfl|(simp[Gu] at this)
     have hsz1:hm.sz=1:=by have:=(hh.cells 0 hp).1;rw[hone 0 hp] at this;simpa using this.symm
     rw[hsz1] at hcell;have hrun:=oY (w:=w) P hok (b:=g.β k) (off:=0) (cap:=g.cap k) (r:=fun i=>r i 0) (S:=AW F g s.ob) (fun i hi=>by have:=(hcell i 0 hi (by omega)).1;simpa using this) (fun i hi=>by have:=(hcell i 0 hi (by omega)).2;rw[hone i hi] at this;simpa using this);exact .val (v:=.string ⟨(hm.els.map Nm).toArray⟩) (by simp[execOp,he,hev,hconv,hrun]) rfl (VR.toSR .str)
    ·have h0:hm.els=[]:=List.length_eq_zero_iff.1 (by omega);rw[h0] at hev ⊢;refine .val (v:=.string ⟨([]:List UInt8).toArray⟩) ?_ rfl (VR.toSR .str);simp[execOp,he,hev,hconv,Conv.bytesToString,loadCells,loadCellsFrom];rfl
  ·cases hty
 ·cases hc
def AJK(P:Program)(vm ss:List Nat)(x:Src):Op->Bool
 | .convert s d y=>BL vm ss y x&&(iQ P s&&(match oc P d with
  | some e=>nG P e==some .u8
  | none=>false))
 | _=>false
theorem AMN(h:FR F g w tmps vm ss s){x:Src}(hc:AJK P vm ss x o.op=true)(hok:(lR (Bd key) (rd s x)).ok=true):
  BD (AW F g s.ob) w g s.ob key (lR (Bd key) (rd s x)) ((execOp ({ tmps:=tmps,defers:=ds }:Act).eval o).run P w):=by
 unfold AJK at hc;split at hc
 ·rename_i sT dT y he;simp only[baT] at hc;obtain⟨hs,hst,hty⟩:=hc;split at hty
  ·rename_i e hsl;simp only[beq_iff_eq] at hty;have hrun:=run_bytes_of_string (P:=P) w sT dT e;have hv:=h.src (ds:=ds) hs;revert hok;generalize rd s x=a at hv;intro hok;cases a<;>simp only[lR,bad] at hok<;>try (cases hok;done)
   case str l=>
    have hev:=QH hv;have hr:=hrun ⟨l.toArray⟩ (Qr hst) (MA hsl) (XO hty);simp only[lR];generalize hcap:grownCap w (⟨l.toArray⟩:ByteArray).size 0 e=cap at hr
    have hle:l.length<=cap:=by
     have:(⟨l.toArray⟩:ByteArray).size<=cap:=by rw[← hcap];unfold grownCap;simp[Question.cut]
     rwa [Lm] at this
    have hbs:(bytesRow ⟨l.toArray⟩ cap).size=cap:=by
     simp[bytesRow,Lm];omega
    refine⟨.slice (some ⟨w.heap.size,0,none⟩) l.length cap,_,by simp[execOp,he,hev,hr,Lm];rfl,?_,.inr ⟨_,_,w.heap.size,cap,rfl,by simp[Bd],Nat.le_refl _,fun S' hS=>?_,.inl ⟨rfl,.inl (by simp)⟩⟩⟩
    ·exact (AR.drew _ _).trans (AR.alloc _ _ _)
    ·refine⟨Nat.le_refl _,by simpa using hle,fun i hi=>?_,fun _=>⟨bytesRow ⟨l.toArray⟩ cap,e,_,heap_alloc_new _ _,.inr ⟨rfl,Nat.le_refl _⟩,by rw[hbs,Nat.mul_one],fun i j hi hj=>?_⟩⟩
     ·have hi':i<l.length:=by simpa using hi
      have:(l.map Dv).getD i .any=Dv (l.getD i 0):=by
       rw[gdE,List.getElem?_map,geE hi',gdE,geE hi'];rfl
      rw[this];exact⟨rfl,rfl⟩
     ·have hi':i<l.length:=by simpa using hi
      have hj1:j<1:=hj;have hj0:j=0:=by omega
      subst hj0
      have:(l.map Dv).getD i .any=Dv (l.getD i 0):=by
       rw[gdE,List.getElem?_map,geE hi',gdE,geE hi'];rfl
      rw[this];have hb:=bytesRow_at ⟨l.toArray⟩ cap i (by simpa using hi')
      have hg:(bytesRow ⟨l.toArray⟩ cap).getD (i*1+0) undef = .int .u8 ((l.getD i 0).toNat:Int):=by
       rw[agD,Nat.mul_one,Nat.add_zero,hb,gdE,geE hi'];rfl
      rw[hg];exact .int
  ·cases hty
 ·cases hc
theorem IL:∀ (xs:List AV) (as:List AV) (off:Nat),(DQ as off xs).length=as.length
 | [],as,off=>rfl
 | x::r,as,off=>by simp only[DQ];rw[IL r];simp
theorem JT:∀ (xs:List AV) (as:List AV) (off x:Nat),(DQ as off xs).getD x .any=if off<=x∧x<off+xs.length∧x<as.length then xs.getD (x-off) .any else as.getD x .any
 | [],as,off,x=>by simp only[DQ,List.length_nil];rw[if_neg (by omega)]
 | q::r,as,off,x=>by
  simp only[DQ];rw[JT r];simp only[List.length_set,List.length_cons]
  by_cases h1:off+1<=x∧x<off+1+r.length∧x<as.length
  ·rw[if_pos h1,if_pos (by omega)];rw[show x-off=(x-(off+1))+1 by omega,List.getD_cons_succ]
  ·rw[if_neg h1]
   by_cases h2:off=x
   ·subst h2
    by_cases h3:off<as.length
    ·rw[if_pos (by omega),Nat.sub_self,List.getD_cons_zero,gdE,List.getElem?_set_self h3];rfl
    ·rw[if_neg (by omega),gdE,gdE,List.getElem?_eq_none (by simp;omega),List.getElem?_eq_none (by omega)]
   ·rw[if_neg (by omega),gdE,List.getElem?_set_ne h2,gdE]
theorem aB:∀ (l:List Value) (k off:Nat) (cs:Array Value),((l.zipIdx k).foldl (fun cs p=>cs.setIfInBounds (off+p.2) p.1) cs).size=cs.size ∧
  ∀ x,((l.zipIdx k).foldl (fun cs p=>cs.setIfInBounds (off+p.2) p.1) cs).getD x undef=if off+k<=x∧x<off+k+l.length∧x<cs.size then l.getD (x-(off+k)) undef else cs.getD x undef
 | [],k,off,cs=>⟨rfl,fun x=>by simp only[List.zipIdx_nil,List.foldl_nil,List.length_nil];rw[if_neg (by omega)]⟩
 | v::l,k,off,cs=>by
  have ih:=aB l (k+1) off (cs.setIfInBounds (off+k) v);refine⟨by simp only[List.zipIdx_cons,List.foldl_cons];rw[ih.1];simp,fun x=>?_⟩;simp only[List.zipIdx_cons,List.foldl_cons];rw[ih.2 x];simp only[Array.size_setIfInBounds,List.length_cons]
  by_cases h1:off+(k+1)<=x∧x<off+(k+1)+l.length∧x<cs.size
  ·rw[if_pos h1,if_pos (by omega),show x-(off+k)=(x-(off+(k+1)))+1 by omega,List.getD_cons_succ]
  ·rw[if_neg h1]
   by_cases h2:off+k=x
   ·subst h2
    by_cases h3:off+k<cs.size
    ·rw[if_pos (by omega),Nat.sub_self,List.getD_cons_zero,IE h3]
    ·rw[if_neg (by omega),agD,agD,Array.getElem?_eq_none (by simp;omega),Array.getElem?_eq_none (by omega)]
   ·rw[if_neg (by omega),Df h2]
theorem Qn(cs0:Array Value)(cs:Array Value)(off:Nat):cs0.zipIdx.foldl (fun cs (c,j)=>cs.setIfInBounds (off+j) c) cs=(cs0.toList.zipIdx 0).foldl (fun cs p=>cs.setIfInBounds (off+p.2) p.1) cs:=by
 rw[← Array.foldl_toList,Array.toList_zipIdx]
structure vL(S:Nat->Prop)(w:World)(cs:Array Value)(as:List AV):Prop where
 n:cs.size=as.length
 at_:∀ j,j<as.length->(as.getD j .any).atom=true
 r:∀ j,j<as.length->VR S w (cs.getD j undef) (as.getD j .any)
theorem vL.put{S:Nat->Prop}{cs:Array Value}{as:List AV}(h:vL S w cs as){v:Value}{a:AV}(hv:VR S w v a)(ha:a.atoms=true){off:Nat}(hle:off+a.cells.length<=as.length):
  vL S w (v.cells.zipIdx.foldl (fun cs (c,j)=>cs.setIfInBounds (off+j) c) cs) (DQ as off a.cells):=by
 have hc:=hv.cells ha;have hf:=aB v.cells.toList 0 off cs;rw[Qn];refine⟨by rw[hf.1,IL,h.n],fun j hj=>?_,fun j hj=>?_⟩
 ·rw[IL] at hj;rw[JT];split
  ·exact Fu ha (by omega)
  ·exact h.at_ j hj
 ·rw[IL] at hj;rw[JT,hf.2 j];simp only[Array.length_toList,hc.1,Nat.add_zero,h.n];split
  ·rw[Dk];exact hc.2 _ (by omega)
  ·exact h.r j hj
theorem jI(P:Program)(w:World){α β:Type}(f:α->Sem β)(q:α->β):∀ (l:List α),(∀ x,x∈l->(f x).run P w = .ok (q x) w)->(l.mapM f).run P w = .ok (l.map q) w
 | [],_=>by simp
 | x::l,h=>by
  rw[List.mapM_cons,Sem.run_bind,h x (by simp)];simp only[Result.andThen_ok,Sem.run_bind,jI P w f q l (fun y hy=>h y (by simp[hy])),Sem.run_pure,List.map_cons]
theorem gj(P:Program)(w:World){α β:Type}(f:α->Sem β)(q:α->β)(xs:Array α)(h:∀ x,x∈xs->(f x).run P w = .ok (q x) w):(xs.mapM f).run P w = .ok (xs.map q) w:=by
 rw[Array.mapM_eq_mapM_toList,Sem.run_map,jI P w f q xs.toList (fun x hx=>h x (by simpa using hx))];cases xs;simp
def Mz(P:Program)(vm ss:List Nat)(fs:Array Field):List (Nat×Operand)->List (Nat×Nat×Src)->Bool
 | [],[]=>true
 | p::r,q::t=>BL vm ss p.2 q.2.2&&((match fs[p.1]? with
   | some f=>f.offset==q.1&&UE P f.type==some q.2.1
   | none=>false)&&Mz P vm ss fs r t)
 | _,_=>false
def nn(P:Program)(vm ss:List Nat)(z:List AV)(ps:List (Nat×Nat×Src)):Op->Bool
 | .build t parts=>(match P.underlying t with
  | some (.struct fs)=>fs.toList.all (fun f=>(UE P f.type).isSome)&&((match zeT P t with
   | some (.agg cs)=>Vt cs.toList z
   | _=>false)&&Mz P vm ss fs parts.toList ps)
  | _=>false)
 | _=>false
theorem jv(h:FR F g w tmps vm ss s)(fs:Array Field)(hsome:∀ f,f∈fs->(UE P f.type).isSome=true):∀ (parts:List (Nat×Operand)) (ps:List (Nat×Nat×Src)) (cs:Array Value) (z:List AV),
  Mz P vm ss fs parts ps=true->Om z.length (ps.map fun p=>(p.1,p.2.1,rd s p.2.2))=true->vL (AW F g s.ob) w cs z ->
  ∃ cs',Instr.fill (((fs.map fun f=>(f.offset,(UE P f.type).getD 0)))[·]?) cs (parts.map fun p=>(p.1,({ tmps:=tmps,defers:=ds }:Act).eval p.2))=some cs'∧vL (AW F g s.ob) w cs' (aE z (ps.map fun p=>(p.1,p.2.1,rd s p.2.2)))
 | [],[],cs,z,_,_,hr=>⟨cs,rfl,hr⟩
 | [],_::_,_,_,hc,_,_=>by simp[Mz] at hc
 | _::_,[],_,_,hc,_,_=>by simp[Mz] at hc
 | p::r,q::t,cs,z,hc,hok,hr=>by
  simp only[Mz,baT] at hc;obtain⟨hs,hf,hrest⟩:=hc;simp only[List.map_cons,Om,baT,beq_iff_eq,dtE] at hok;obtain⟨hl,hle,hat,hok⟩:=hok;split at hf
  ·rename_i f hfs;simp only[baT,beq_iff_eq] at hf;have hv:=(h.src (ds:=ds) hs).atoms hat;have hc2:=hv.cells hat;have hput:=hr.put hv hat (off:=q.1) (by omega);have hz:(DQ z q.1 (rd s q.2.2).cells).length=z.length:=IL _ _ _;obtain⟨cs',e,hr'⟩:=jv h fs hsome r t _ _ hrest (by rw[hz];exact hok) hput;refine⟨cs',?_,by simp only[List.map_cons,aE];exact hr'⟩;have hpl:(fs.map fun f=>(f.offset,(UE P f.type).getD 0))[p.1]? = some (q.1,q.2.1):=by rw[Array.getElem?_map,hfs];simp[hf.1,hf.2]
   rw[List.map_cons,Instr.fill];simp only[hpl];have k0:=hf.1;have k1:(({ tmps:=tmps,defers:=ds }:Act).eval p.2).cells.size=q.2.1:=by rw[hc2.1,hl]
   have k2:q.1+(({ tmps:=tmps,defers:=ds }:Act).eval p.2).cells.size<=cs.size:=by rw[k1,hr.n];exact hle
   rw[if_neg (by simp only[Bool.or_eq_true,dtE];omega)];exact e
  ·cases hf
theorem ABg(h:FR F g w tmps vm ss s){z:List AV}{ps:List (Nat×Nat×Src)}(hc:nn P vm ss z ps o.op=true)(hok:Om z.length (ps.map fun p=>(p.1,p.2.1,rd s p.2.2))=true):
  BD (AW F g s.ob) w g s.ob key (ET (Om z.length (ps.map fun p=>(p.1,p.2.1,rd s p.2.2))) (.agg (aE z (ps.map fun p=>(p.1,p.2.1,rd s p.2.2))))) ((execOp ({ tmps:=tmps,defers:=ds }:Act).eval o).run P w):=by
 unfold nn at hc;split at hc
 ·rename_i t parts he;split at hc
  ·rename_i fs hu;simp only[baT,List.all_eq_true] at hc;obtain⟨hsome,hz,hp⟩:=hc;split at hz
   ·rename_i cs hze;have hrel:vL (AW F g s.ob) w cs z:=⟨by simpa using aG _ _ hz,fun j hj=>(On _ _ j hz hj).2,fun j hj=>by rw[← Dk];exact nQ (On _ _ j hz hj).1⟩;obtain⟨cs',e,hr⟩:=jv (ds:=ds) h fs (fun f hf=>hsome f (by simpa using hf)) parts.toList ps cs z hp hok hrel
    have hpl:=gj P w (fun f:Field=>(do pure (f.offset,← sizeOf f.type):Sem (Nat×Nat))) (fun f=>(f.offset,(UE P f.type).getD 0)) fs (fun f hf=>by
     have:=hsome f (by simpa using hf);cases hs:UE P f.type with
     | none=>rw[hs] at this;cases this
     | some n=>simp[EJ hs])
    refine .val (v:=.agg cs') ?_ rfl (VR.toSR (.agg hr.n hr.at_ hr.r));have hmap:(parts.map fun p=>(p.1,({ tmps:=tmps,defers:=ds }:Act).eval p.2)).toList=parts.toList.map fun p=>(p.1,({ tmps:=tmps,defers:=ds }:Act).eval p.2):=by simp
    simp only[execOp,he,Instr.build,Sem.run_bind,PI hze,Result.andThen_ok,run_underlying hu,hpl,Value.cells];rw[hmap,e];simp
   ·cases hz
  ·cases hc
 ·cases hc
def Uv(vm ss:List Nat):List (Nat×Operand)->List (Nat×Src)->Bool
 | [],[]=>true
 | p::r,q::t=>BL vm ss p.2 q.2&&((p.1==q.1)&&Uv vm ss r t)
 | _,_=>false
def AAK(P:Program)(vm ss:List Nat)(sz:Nat)(z:AV)(n:Nat)(ps:List (Nat×Src)):Op->Bool
 | .buildSlice t m parts=>(m==n)&&(decide (n*sz<=16777216)&&(decide (1<=sz)&&((match oc P t with
  | some e=>UE P e==some sz&&(match zeT P e with
   | some zv=>eqv zv z&&(z.cells.length==sz&&z.atoms)
   | none=>false)
  | none=>false)&&Uv vm ss parts.toList ps)))
 | _=>false
structure vK(S:Nat->Prop)(w:World)(sz:Nat)(cs:Array Value)(els:List AV):Prop where
 n:cs.size=els.length*sz
 c:∀ i,i<els.length->(els.getD i .any).cells.length=sz∧(els.getD i .any).atoms=true
 r:∀ i j,i<els.length->j<sz->VR S w (cs.getD (i*sz+j) undef) ((els.getD i .any).cells.getD j .any)
theorem Oo{i j sz n:Nat}(hi:i<n)(hj:j<sz):i*sz+j<n*sz:=by
 have:(i+1)*sz<=n*sz:=Nat.mul_le_mul_right _ (by omega);rw[Nat.add_mul] at this;omega
theorem vK.put{S:Nat->Prop}{sz:Nat}{cs:Array Value}{els:List AV}(h:vK S w sz cs els){v:Value}{a:AV}(hv:VR S w v a)(ha:a.atoms=true)(hl:a.cells.length=sz){k:Nat}(hk:k<els.length):
  vK S w sz (v.cells.zipIdx.foldl (fun cs (c,j)=>cs.setIfInBounds (k*sz+j) c) cs) (els.set k a):=by
 have hc:=hv.cells ha;have hf:=aB v.cells.toList 0 (k*sz) cs
 have hset:∀ i,i<els.length->(els.set k a).getD i .any=if k=i then a else els.getD i .any:=by
  intro i hi;rw[gdE,List.getElem?_set]
  by_cases e:k=i
  ·simp[e,hi]
  ·simp[e,gdE]
 rw[Qn];refine⟨by rw[hf.1,h.n];simp,fun i hi=>?_,fun i j hi hj=>?_⟩
 ·have hi':i<els.length:=by simpa using hi
  rw[hset i hi'];split
  ·exact⟨hl,ha⟩
  ·exact h.c i hi'
 ·have hi':i<els.length:=by simpa using hi
  rw[hset i hi',hf.2];simp only[Array.length_toList,hc.1,hl,Nat.add_zero,h.n];have hb:=Oo hi' hj
  by_cases e:k=i
  ·subst e;rw[if_pos rfl,if_pos (by omega),Nat.add_sub_cancel_left,Dk];exact hc.2 j (by omega)
  ·rw[if_neg e,if_neg]
   ·exact h.r i j hi' hj
   ·rintro⟨h1,h2,_⟩;rcases Nat.lt_or_gt_of_ne e with hlt|hlt
    ·have:(k+1)*sz<=i*sz:=Nat.mul_le_mul_right _ (by omega);rw[Nat.add_mul] at this;omega
    ·have:(i+1)*sz<=k*sz:=Nat.mul_le_mul_right _ (by omega);rw[Nat.add_mul] at this;omega
theorem dP(h:FR F g w tmps vm ss s)(sz:Nat):∀ (parts:List (Nat×Operand)) (ps:List (Nat×Src)) (cs:Array Value) (els:List AV) (n:Nat),els.length=n ->
  Uv vm ss parts ps=true->setOk sz n (ps.map fun p=>(p.1,rd s p.2))=true->vK (AW F g s.ob) w sz cs els ->
  ∃ cs',Instr.fill (fun i=>some (i*sz,sz)) cs (parts.map fun p=>(p.1,({ tmps:=tmps,defers:=ds }:Act).eval p.2))=some cs'∧vK (AW F g s.ob) w sz cs' (MB els (ps.map fun p=>(p.1,rd s p.2)))
 | [],[],cs,els,n,_,_,_,hr=>⟨cs,rfl,hr⟩
 | [],_::_,_,_,_,_,hc,_,_=>by simp[Uv] at hc
 | _::_,[],_,_,_,_,hc,_,_=>by simp[Uv] at hc
 | p::r,q::t,cs,els,n,hn,hc,hok,hr=>by
  simp only[Uv,baT,beq_iff_eq] at hc;obtain⟨hs,hpq,hrest⟩:=hc;simp only[List.map_cons,setOk,baT,beq_iff_eq,dtE] at hok;obtain⟨hlt,hl,hat,hok⟩:=hok;have hv:=(h.src (ds:=ds) hs).atoms hat;have hc2:=hv.cells hat;have hput:=hr.put hv hat hl (k:=q.1) (by omega);obtain⟨cs',e,hr'⟩:=dP h sz r t _ _ n (by simpa using hn) hrest hok hput;refine⟨cs',?_,by simp only[List.map_cons,MB];exact hr'⟩;have k1:(({ tmps:=tmps,defers:=ds }:Act).eval p.2).cells.size=sz:=by rw[hc2.1,hl]
  have k2:q.1*sz+(({ tmps:=tmps,defers:=ds }:Act).eval p.2).cells.size<=cs.size:=by
   rw[k1,hr.n];have:(q.1+1)*sz<=els.length*sz:=Nat.mul_le_mul_right _ (by omega);rw[Nat.add_mul] at this;omega
  rw[List.map_cons,Instr.fill];simp only[hpq];rw[if_neg (by simp only[Bool.or_eq_true,dtE];omega)];exact e
theorem Yb:∀ (ps:List (Nat×AV)) (els:List AV),(MB els ps).length=els.length
 | [],_=>rfl
 | p::r,els=>by simp only[MB];rw[Yb r];simp
theorem AGb(h:FR F g w tmps vm ss s){sz:Nat}{z:AV}{n:Nat}{ps:List (Nat×Src)}(hc:AAK P vm ss sz z n ps o.op=true)(hok:setOk sz n (ps.map fun p=>(p.1,rd s p.2))=true):
  BD (AW F g s.ob) w g s.ob key ⟨setOk sz n (ps.map fun p=>(p.1,rd s p.2)),.own (Bd key),[(Bd key,⟨sz,MB (List.replicate n z) (ps.map fun p=>(p.1,rd s p.2))⟩)]⟩ ((execOp ({ tmps:=tmps,defers:=ds }:Act).eval o).run P w):=by
 unfold AAK at hc;split at hc
 ·rename_i t m parts he;simp only[baT,beq_iff_eq,dtE] at hc;obtain⟨hm,hle,hp,hty,hpar⟩:=hc;subst hm;split at hty
  ·rename_i e hsl;simp only[baT,beq_iff_eq] at hty;obtain⟨hsz,hty⟩:=hty;split at hty
   ·rename_i zv hz;simp only[baT,beq_iff_eq] at hty;obtain⟨hzz,hzl,hza⟩:=hty;have hu:=MA hsl;have hvc:=(gM (S:=AW F g s.ob) (w:=w) hzz).cells hza;have hzs:zv.cells.size=sz:=by rw[hvc.1,hzl]
    let zc:Array Value:=if m*sz=0 then #[] else zv.cells
    let arr:Array Value:=(Array.range (m*sz)).map (zc[· % zc.size]!)
    have hrep:∀ i,i<m->(List.replicate m z).getD i .any=z:=fun i hi=>by
     rw[gdE,List.getElem?_replicate,if_pos hi];rfl
    have hrel:vK (AW F g s.ob) w sz arr (List.replicate m z):=by
     refine⟨by simp[arr],fun i hi=>?_,fun i j hi hj=>?_⟩
     ·rw[hrep i (by simpa using hi)];exact⟨hzl,hza⟩
     ·have hi':i<m:=by simpa using hi
      have hlt:=Oo hi' hj;have hne:m*sz≠0:=by omega
      have hmod:(i*sz+j)%sz=j:=by rw[Nat.mul_comm,Nat.mul_add_mod];exact Nat.mod_eq_of_lt hj
      have hzc:zc=zv.cells:=if_neg hne
      have:arr.getD (i*sz+j) undef=zv.cells.getD j undef:=by
       rw[agD,Array.getElem?_eq_getElem (by simpa[arr] using hlt)];simp only[arr,Array.getElem_map,Array.getElem_range,Option.getD_some,hzc,hzs,hmod];rw[getElem!_pos zv.cells j (by omega),agD,Array.getElem?_eq_getElem (by omega)];rfl
      rw[hrep i hi',this];exact hvc.2 j (by omega)
    obtain⟨cs',ef,hr⟩:=dP (ds:=ds) h sz parts.toList ps arr (List.replicate m z) m (by simp) hpar hok hrel;have hmap:(parts.map fun p=>(p.1,({ tmps:=tmps,defers:=ds }:Act).eval p.2)).toList=parts.toList.map fun p=>(p.1,({ tmps:=tmps,defers:=ds }:Act).eval p.2):=by simp
    have hn:¬ (m*sz>2^24):=by omega
    have hel:(MB (List.replicate m z) (ps.map fun p=>(p.1,rd s p.2))).length=m:=by rw[Yb];simp
    refine⟨.slice (some ⟨w.heap.size,0,none⟩) m m,w.alloc (.cells cs' e),?_,AR.alloc _ _ _,.inr ⟨_,_,w.heap.size,m,rfl,by simp[Bd],Nat.le_refl _,fun S' hS=>?_,.inl ⟨rfl,.inl (by rw[hel])⟩⟩⟩
    ·have ef':Instr.fill (fun i=>some (i*sz,sz)) ((Array.range (m*sz)).map fun x=>zc[x%zc.size]!) (parts.toList.map fun p=>(p.1,({ tmps:=tmps,defers:=ds }:Act).eval p.2))=some cs':=ef;simp only[execOp,he,Instr.buildSlice,Sem.run_bind,run_underlying hu,Result.andThen_ok,EJ hsz];rw[if_neg hn]
     by_cases h0:m*sz=0
     ·have hzc:zc = #[]:=if_pos h0;rw[hzc] at ef';rw[if_pos h0];simp only[Sem.run_bind,Sem.run_pure,Result.andThen_ok,hmap,ef'];simp[newRow]
     ·have hzc:zc=zv.cells:=if_neg h0;rw[hzc] at ef';rw[if_neg h0];simp only[Sem.run_bind,Sem.run_pure,Result.andThen_ok,PI hz,hmap,ef'];simp[newRow]
    ·refine⟨hp,by rw[hel];exact Nat.le_refl _,hr.c,fun _=>⟨cs',e,(0,0),heap_alloc_new _ _,.inl rfl,by rw[hr.n,hel],fun i j hi hj=>?_⟩⟩;refine (hr.r i j hi hj).mono (AR.alloc _ _ _) fun b hb hc=>?_
     rcases hS b hc with e|e
     ·exact e
     ·omega
   ·cases hty
  ·cases hty
 ·cases hc
end
def oC(g0:Gh)(o0:CI)(g:Gh)(ob:CI):Prop:=∀ k h,k%32=31->AK k ob=some h ->
 ∃ h0,AK k o0=some h0∧h.sz=h0.sz∧h0.els.length<=h.els.length∧(h.els.length=h0.els.length->g.β k=g0.β k∧g.cap k=g0.cap k)
theorem oC.sub{g0 g:Gh}{o0 ob ob':CI}(h:oC g0 o0 g ob)(hs:∀ k h,AK k ob'=some h->AK k ob=some h):oC g0 o0 g ob' :=
 fun k hm hk hg=>h k hm hk (hs k hm hg)
theorem oC.new{g0 g:Gh}{o0 ob:CI}(h:oC g0 o0 g ob){k b cap:Nat}{hm:Hm}(hk:k%32≠31):oC g0 o0 ⟨fun j=>if j=k then b else g.β j,fun j=>if j=k then cap else g.cap j⟩ (CR k hm ob):=by
 intro j h' hj hg;have hne:j≠k:=fun e=>hk (e▸hj)
 rw[BF,if_neg (Ne.symm hne)] at hg;simpa[hne] using h j h' hj hg
theorem oC.set{g0 g:Gh}{o0 ob:CI}(h:oC g0 o0 g ob){k b cap:Nat}{hm h2:Hm}(hk:AK k ob=some hm)(hz:h2.sz=hm.sz)(hl:hm.els.length<=h2.els.length)(hb:h2.els.length=hm.els.length->b=g.β k∧cap=g.cap k):
  oC g0 o0 ⟨fun j=>if j=k then b else g.β j,fun j=>if j=k then cap else g.cap j⟩ (CR k h2 ob):=by
 intro j h' hj hg;rw[BF] at hg
 by_cases hne:k=j
 ·subst hne;rw[if_pos rfl] at hg;cases hg;obtain⟨h0,e0,e1,e2,e3⟩:=h k hm hj hk;refine⟨h0,e0,by rw[hz,e1],Nat.le_trans e2 hl,fun e=>?_⟩;obtain⟨a1,a2⟩:=hb (by omega);obtain⟨b1,b2⟩:=e3 (by omega);simp[a1,a2,b1,b2]
 ·rw[if_neg hne] at hg;simpa[Ne.symm hne] using h j h' hj hg
theorem oC.setSame{g0 g:Gh}{o0 ob:CI}(h:oC g0 o0 g ob){k:Nat}{hm h2:Hm}(hk:AK k ob=some hm)(hz:h2.sz=hm.sz)(hl:h2.els.length=hm.els.length):oC g0 o0 g (CR k h2 ob):=by
 intro j h' hj hg;rw[BF] at hg
 by_cases hne:k=j
 ·subst hne;rw[if_pos rfl] at hg;cases hg;obtain⟨h0,e0,e1,e2,e3⟩:=h k hm hj hk;exact⟨h0,e0,by rw[hz,e1],by omega,fun e=>e3 (by omega)⟩
 ·rw[if_neg hne] at hg;exact h j h' hj hg
structure FX(F Iow:Nat->Prop)(w0:World)(g0:Gh)(o0:CI)(g:Gh)(w:World)(tmps:Array Value)(vm ss:List Nat)(s:St):Prop extends FR F g w tmps vm ss s where
 same:AR Iow w0 w
 hio:∀ k,KW g s.ob k->w0.heap.size<=g.β k∨Iow (g.β k)
 fio:∀ b,F b->¬ Iow b
 par:oC g0 o0 g s.ob
section
variable {F Iow:Nat->Prop}{w0:World}{g0:Gh}{o0:CI}{g:Gh}{w w':World}{tmps:Array Value}{ds:List Deferred}{vm ss ss':List Nat}{s:St}{P:Program}{o:Oper}{key:Nat}
theorem FR.setLt(h:FR F g w tmps vm ss s){b:Nat}(hb:AW F g s.ob b):b<w.heap.size:=by
 rcases hb with hb|⟨k,⟨⟨hm,hk⟩,hp⟩,rfl⟩
 ·exact h.fb b hb
 ·exact (h.home k hm hk).lt hp
theorem AR.into(h0:AR Iow w0 w)(hw:AR (fun b=>w0.heap.size<=b∨Iow b) w w'):AR Iow w0 w':=by
 refine⟨hw.os.trans h0.os,hw.tape.trans h0.tape,hw.output.trans h0.output,Nat.le_trans h0.size hw.size,fun b hb hn=>?_⟩
 have hc:¬ (w0.heap.size<=b∨Iow b):=by
  rintro (c|c)
  ·omega
  ·exact hn c
 exact (hw.block b (Nat.lt_of_lt_of_le hb h0.size) hc).trans (h0.block b hb hn)
theorem FX.mk'(h:FR F g w' tmps vm ss s){w:World}(h0:AR Iow w0 w)(hw:AR (fun b=>w0.heap.size<=b∨Iow b) w w')(hio:∀ k,KW g s.ob k->w0.heap.size<=g.β k∨Iow (g.β k))(fio:∀ b,F b->¬ Iow b)(par:oC g0 o0 g s.ob):FX F Iow w0 g0 o0 g w' tmps vm ss s :=
 ⟨h,h0.into hw,hio,fio,par⟩
theorem dX{k d:Nat}{hm:Hm}(hg:AK k (clear s d).ob=some hm):AK k s.ob=some hm:=by
 unfold Go.Proofs.YteaicgcfpcklkaaGreatDoor.clear at hg;rw[AO] at hg;split at hg
 ·simp only[Fi] at hg;split at hg
  ·cases hg
  ·exact hg
 ·exact hg
theorem kN{k d:Nat}(hk:Ih (clear s d).ob k):Ih s.ob k:=by
 obtain⟨hm,hg⟩:=hk;unfold Go.Proofs.YteaicgcfpcklkaaGreatDoor.clear at hg;rw[AO] at hg;split at hg
 ·simp only[Fi] at hg;split at hg
  ·cases hg
  ·exact⟨hm,hg⟩
 ·exact⟨hm,hg⟩
theorem FR.addNew(h:FR F g w tmps vm ss s)(hw:AR (fun _=>False) w w'){k b cap:Nat}{hm:Hm}(hk:¬ Ih s.ob k)(hb:w.heap.size<=b)
  (hnew:∀ S':Nat->Prop,(∀ c,S' c->AW F g s.ob c∨c=b)->GL S' w' b cap hm.sz hm.els) :
  FR F ⟨fun j=>if j=k then b else g.β j,fun j=>if j=k then cap else g.cap j⟩ w' tmps vm ss { s with ob:=CR k hm s.ob }:=by
 have hsame:AR (AW F g s.ob) w w':=hw.mono fun _ _ c=>c.elim
 have hS:∀ c,c<w.heap.size->(AW F g s.ob c∨c=b)->AW F g s.ob c:=fun c hc hcc=>by
  rcases hcc with e|e
  ·exact e
  ·omega
 refine (h.grow hw).add hk (fun _ c hc e=>?_) hnew (fun k' h' hg=>?_) (fun i hi=>?_) (fun i hi=>?_) (h.tab.mono hsame hS)
 ·have:=h.setLt hc;omega
 ·exact (h.home k' h' hg).mono hsame (fun hp=>hw.block _ ((h.home k' h' hg).lt hp) (fun c=>c)) hS
 ·exact (h.vs i hi).mono hsame hS fun k _ hm hk=>⟨hm,hk,rfl,rfl,rfl,rfl⟩
 ·exact (h.st i hi).mono hsame hS fun k _ hm hk=>⟨hm,hk,rfl,rfl,rfl,rfl⟩
theorem FX.still(h:FX F Iow w0 g0 o0 g w tmps vm ss s)(hnd:Ns vm){dst:Option Nat}{D:Hv}(hd:Dt vm ss dst D=some ss')(hfit:∀ d,dst=some d->d<tmps.size){m:Mk}{r:Result Next}
  (hp:BD (AW F g s.ob) w g s.ob key m r):∃ v w' g',r = .ok (.value v) w'∧FX F Iow w0 g0 o0 g' w' (Gt tmps dst v) vm ss' (DA s key D m):=by
 obtain⟨v,w',hr,hw,hcase⟩:=hp;have hw2:AR (fun b=>w0.heap.size<=b∨Iow b) w w':=hw.mono fun _ _ c=>c.elim
 rcases hcase with⟨hhs,hv⟩|⟨k,hm,b,cap,hhs,hk,hb,hnew,hval⟩
 ·refine⟨v,w',g,hr,?_⟩;unfold DA;rw[hhs];simp only[RE];have h1:=(h.toFR.grow hw).put hnd hd hfit m.ok (v:=v) (a:=m.v) (fun _=>hv);have this:(Ay s m.ok m.v D).ob=s.ob:=by cases D<;>rfl
  refine FX.mk' (w:=w) h1 h.same hw2 (fun k hk=>?_) h.fio (by rw[this];exact h.par);rw[this] at hk;exact h.hio k hk
 ·have h1:=h.toFR.clear key;have hsub:∀ c,AW F g (clear s key).ob c->AW F g s.ob c:=fun c hc=>Gn (fun k hk=>kN hk) hc
  have h2:=h1.addNew hw (k:=k) (b:=b) (cap:=cap) (hm:=hm) (nW h.toFR hk.1) hb (fun S' hS=>hnew S' fun c hc=>by
   rcases hS c hc with e|e
   ·exact .inl (hsub c e)
   ·exact .inr e)
  refine⟨v,w',⟨fun j=>if j=k then b else g.β j,fun j=>if j=k then cap else g.cap j⟩,hr,?_⟩;unfold DA;rw[hhs];simp only[RE,QC,ES]
  have h3:=h2.put hnd hd hfit m.ok (v:=v) (a:=m.v) (fun _=>by
   rcases hval with⟨e1,e3⟩|⟨e1,e2,rfl⟩
   ·rw[e1];exact⟨hm,by simp[BF],by simpa using e3⟩
   ·rw[e1];exact⟨hm,by simp[BF],e2,by simp⟩)
  have hcl:∀ j h',AK j (clear s key).ob=some h'->AK j s.ob=some h':=fun j h' hg=>dX hg
  refine FX.mk' (w:=w) h3 h.same hw2 (fun j hj=>?_) h.fio (by
   have:(Ay { clear s key with ob:=CR k hm (clear s key).ob } m.ok m.v D).ob=CR k hm (clear s key).ob:=by cases D<;>rfl
   rw[this];exact (h.par.sub hcl).new hk.2)
  have:(Ay { clear s key with ob:=CR k hm (clear s key).ob } m.ok m.v D).ob=CR k hm (clear s key).ob:=by cases D<;>rfl
  rw[this] at hj
  by_cases hjk:j=k
  ·subst hjk;simp only[if_true];exact .inl (Nat.le_trans h.same.size hb)
  ·simp only[hjk,if_false];obtain⟨⟨hm',hg⟩,hp⟩:=hj;rw[BF,if_neg (Ne.symm hjk)] at hg;simp only[hjk,if_false] at hp;exact h.hio j ⟨kN ⟨hm',hg⟩,hp⟩
theorem GL.sl{S S':Nat->Prop}{b cap sz:Nat}{els:List AV}(hh:GL S w b cap sz els){r:Nat->Nat->Value}
  (hcell:∀ i j,i<els.length->j<sz->w.cell? ⟨b,i*sz+j,none⟩=some (r i j)∧VR S w (r i j) ((els.getD i .any).cells.getD j .any)) (hS:∀ c,S' c->S c) (hn:0<cap->¬ S' b) :
  VR S' w (.slice (some ⟨b,0,none⟩) els.length cap) (.sl sz els)∧(cap=0->VR S' w (.slice none 0 0) (.sl sz els)) ∧
  ∀ i off,i<els.length->VR S' w (.pointer (some ⟨b,i*sz+off,none⟩)) (.ptr sz els i off):=by
 have hns:0<els.length->¬ S' b:=fun hp=>hn (by have:=hh.len;omega)
 have hr:∀ i j,i<els.length->j<sz->VR S' w (r i j) ((els.getD i .any).cells.getD j .any):=fun i j hi hj=>
  (hcell i j hi hj).2.mono (AR.refl _ _) fun b _ hb=>hS b hb
 refine⟨.sl b 0 r rfl hh.len hh.pos (fun hp=>⟨rfl,hns hp⟩) hh.cells (fun i j hi hj=>by rw[Nat.zero_add];exact (hcell i j hi hj).1) hr,fun h0=>?_,fun i off hi=>?_⟩
 ·have he:els=[]:=by have:=hh.len;rw[h0] at this;exact List.length_eq_zero_iff.1 (by omega)
  subst he;exact .sl 0 0 (fun _ _=>undef) rfl (Nat.le_refl _) hh.pos (fun hp=>by simp at hp) (fun i hi=>by simp at hi) (fun i j hi _=>by simp at hi) (fun i j hi _=>by simp at hi)
 ·have:=VR.ptr (S:=S') (w:=w) (i0:=i) (o0:=off) b 0 r hh.pos hi (hns (by omega)) hh.cells (fun i j hi hj=>by rw[Nat.zero_add];exact (hcell i j hi hj).1) hr
  rwa [Nat.zero_add] at this
theorem FR.sl_of(h:FR F g w tmps vm ss s){k:Nat}{hm:Hm}(hk:AK k s.ob=some hm){S':Nat->Prop}(hS:∀ b,S' b->AW F g s.ob b∧(0<g.cap k->b≠g.β k)):
  VR S' w (.slice (some ⟨g.β k,0,none⟩) hm.els.length (g.cap k)) (.sl hm.sz hm.els) ∧
  ∀ i off,i<hm.els.length->VR S' w (.pointer (some ⟨g.β k,i*hm.sz+off,none⟩)) (.ptr hm.sz hm.els i off):=by
 have hh:=h.home k hm hk;obtain⟨r,hcell⟩:=hh.cell;have hns:0<hm.els.length->¬ S' (g.β k):=fun hp c=>(hS _ c).2 (by have:=hh.len;omega) rfl
 have hr:∀ i j,i<hm.els.length->j<hm.sz->VR S' w (r i j) ((hm.els.getD i .any).cells.getD j .any):=fun i j hi hj=>
  (hcell i j hi hj).2.mono (AR.refl _ _) fun b _ hb=>(hS b hb).1
 refine⟨.sl (g.β k) 0 r rfl hh.len hh.pos (fun hp=>⟨rfl,hns hp⟩) hh.cells (fun i j hi hj=>by rw[Nat.zero_add];exact (hcell i j hi hj).1) hr,fun i off hi=>?_⟩;have:=VR.ptr (S:=S') (w:=w) (i0:=i) (o0:=off) (g.β k) 0 r hh.pos hi (hns (by omega)) hh.cells (fun i j hi hj=>by rw[Nat.zero_add];exact (hcell i j hi hj).1) hr
 rwa [Nat.zero_add] at this
theorem Qd(h:FR F g w tmps vm ss s){k:Nat}{hm:Hm}(hk:AK k s.ob=some hm){v:Value}{a:AV}(ha:MO (AW F g s.ob) w g s.ob v a):MO (AW F g (JU k s.ob)) w g (JU k s.ob) v (a.fz1 k hm):=by
 have hS:∀ b,AW F g (JU k s.ob) b->AW F g s.ob b∧(0<g.cap k->b≠g.β k):=by
  intro b hb;rcases hb with hb|⟨j,⟨⟨hm',hg⟩,hp⟩,e⟩
  ·exact⟨.inl hb,fun hp e=>h.nF k ⟨⟨hm,hk⟩,hp⟩ (e▸hb)⟩
  ·rw[DF] at hg;split at hg
   ·cases hg
   ·rename_i hne;exact⟨.inr ⟨j,⟨⟨hm',hg⟩,hp⟩,e⟩,fun hp2 e2=>hne (h.inj k j ⟨⟨hm,hk⟩,hp2⟩ ⟨⟨hm',hg⟩,hp⟩ (by rw[e,e2]))⟩
 have keep:∀ j hm',j≠k->AK j s.ob=some hm'->AK j (JU k s.ob)=some hm':=fun j hm' hne hg=>by rw[DF,if_neg (Ne.symm hne)];exact hg
 cases a
 case own j=>
  obtain⟨hm',ho,e⟩:=ha;simp only[AV.fz1,AO,beq_iff_eq];split
  ·rename_i hj;subst hj;rw[hk] at ho;cases ho;rcases e with e|⟨hz,e⟩
   ·rw[e];exact (h.sl_of hk hS).1
   ·rw[e,h.nil_els hk hz];exact .sl 0 0 (fun _ _=>undef) rfl (Nat.le_refl _) (h.home j hm hk).pos (fun hp=>by simp at hp) (fun i hi=>by simp at hi) (fun i j hi _=>by simp at hi) (fun i j hi _=>by simp at hi)
  ·rename_i hj;exact⟨hm',keep j hm' hj ho,e⟩
 case ref j i off=>
  obtain⟨hm',ho,hi,e⟩:=ha;simp only[AV.fz1,AO,beq_iff_eq];split
  ·rename_i hj;subst hj;rw[hk] at ho;cases ho;rw[e];exact (h.sl_of hk hS).2 i off hi
  ·rename_i hj;exact⟨hm',keep j hm' hj ho,hi,e⟩
 all_goals
  simp only[MO,AV.fz1] at ha ⊢;exact ha.mono (AR.refl _ _) fun b _ hb=>(hS b hb).1
theorem AFS(h:FR F g w tmps vm ss s){k:Nat}{hm:Hm}(hk:AK k s.ob=some hm){v:Value}{a:AV}(ha:SR (AW F g s.ob) w g s.ob v a):SR (AW F g (JU k s.ob)) w g (JU k s.ob) v (a.fz k hm):=by
 have hl:∀ (l:List AV) j,(l.map (AV.fz1 k hm)).getD j .any=(l.getD j .any).fz1 k hm:=fun l j=>Bg _ rfl l j
 cases a
 case fn f a1 a2=>
  obtain⟨v1,v2,e,n1,n2,h1,h2⟩:=ha;exact⟨v1,v2,e,by simpa using n1,by simpa using n2,fun j hj=>by rw[hl];exact Qd h hk (h1 j (by simpa using hj)),fun j hj=>by rw[hl];exact Qd h hk (h2 j (by simpa using hj))⟩
 case tup as=>
  obtain⟨vs,e,n,h1⟩:=ha;exact⟨vs,e,by simpa using n,fun j hj=>by rw[hl];exact Qd h hk (h1 j (by simpa using hj))⟩
 case opt b a=>
  simp only[SR,AV.fz] at ha ⊢;split at ha
  ·rename_i hb;rw[if_pos hb];exact Qd h hk ha
  ·rename_i hb;rw[if_neg hb];exact ha
 case own j=>exact (Qd h hk (a:=.own j) ha).toSR
 case ref j i off=>exact (Qd h hk (a:=.ref j i off) ha).toSR
 all_goals
  simp only[SR] at ha;exact (Qd h hk ha).toSR
theorem FX.freezeH(h:FX F Iow w0 g0 o0 g w tmps vm ss s)(k:Nat):FX F Iow w0 g0 o0 g w tmps vm ss (freezeH s k (AK k s.ob)):=by
 cases hk:AK k s.ob with
 | none=>exact h
 | some hm=>
  have hin:∀ j,Ih (JU k s.ob) j->Ih s.ob j:=fun j ⟨hm',hg⟩=>by
   rw[DF] at hg;split at hg
   ·cases hg
   ·exact⟨hm',hg⟩
  have hfr:FR F g w tmps vm ss (Go.Proofs.YteaicgcfpcklkaaGreatDoor.freezeH s k (some hm)):=by
   refine⟨fun j hm' hg=>?_,fun j j' a b=>h.inj j j' ⟨hin j a.1,a.2⟩ ⟨hin j' b.1,b.2⟩,fun j a=>h.nF j ⟨hin j a.1,a.2⟩,h.fb,by simpa[Go.Proofs.YteaicgcfpcklkaaGreatDoor.freezeH] using h.vl,by simpa[Go.Proofs.YteaicgcfpcklkaaGreatDoor.freezeH] using h.sl,fun i hi=>?_,fun i hi=>?_,h.fit,h.tab.mono (AR.refl _ _) fun b _ hb=>Gn hin hb⟩
   ·simp only[Go.Proofs.YteaicgcfpcklkaaGreatDoor.freezeH] at hg ⊢;rw[DF] at hg;split at hg
    ·cases hg
    ·exact (h.home j hm' hg).mono (AR.refl _ _) (fun _=>rfl) fun b _ hb=>Gn hin hb
   ·simp only[Go.Proofs.YteaicgcfpcklkaaGreatDoor.freezeH];rw[Bg _ rfl];exact AFS h.toFR hk (h.vs i hi)
   ·simp only[Go.Proofs.YteaicgcfpcklkaaGreatDoor.freezeH];rw[Bg _ rfl];exact AFS h.toFR hk (h.st i hi)
  exact⟨hfr,h.same,fun j hj=>h.hio j ⟨hin j hj.1,hj.2⟩,h.fio,h.par.sub fun j hm' hg=>by
   simp only[Go.Proofs.YteaicgcfpcklkaaGreatDoor.freezeH] at hg;rw[DF] at hg;split at hg
   ·cases hg
   ·exact hg⟩
theorem FX.freezeAll(ks:List Nat):∀ {s:St},FX F Iow w0 g0 o0 g w tmps vm ss s->FX F Iow w0 g0 o0 g w tmps vm ss (freezeAll s ks):=by
 induction ks with
 | nil=>intro s h;exact h
 | cons k r ih=>intro s h;exact ih (h.freezeH k)
end
open Go Go.RowKit
section
variable {F Iow:Nat->Prop}{w0:World}{g0:Gh}{o0:CI}{g:Gh}{w w':World}{tmps:Array Value}{ds:List Deferred}{vm ss ss':List Nat}{s:St}{P:Program}{o:Oper}{key:Nat}
theorem iX{b off:Nat}{arr:Array Value}{T:TypeId}{fz:Nat×Nat}{v:Value}(hb:w.heap[b]? = some (.cells arr T fz)):
  (w.setCell ⟨b,off,none⟩ v).heap[b]? = some (.cells (arr.setIfInBounds off v) T fz)∧AR (fun c=>c=b) w (w.setCell ⟨b,off,none⟩ v):=by
 refine⟨by simp[World.setCell,Array.getElem?_modify,hb],⟨rfl,rfl,rfl,by simp,fun c hc hn=>?_⟩⟩;exact Below.heap_setCell w _ _ c hn
theorem MC(b:Nat)(T:TypeId)(fz:Nat×Nat):∀ (vs:List Value) (o i:Nat) (arr:Array Value) (w:World),w.heap[b]? = some (.cells arr T fz)->(fz=(0,0)∨arr.size<=fz.1)->o+i+vs.length<=arr.size->(∀ v,v∈vs->v.oneCell'=true) ->
  ∃ w' arr',(storeCells ⟨b,o,none⟩ vs i).run P w = .ok () w'∧AR (fun c=>c=b) w w'∧w'.heap[b]? = some (.cells arr' T fz)∧arr'.size=arr.size ∧
   ∀ x,arr'.getD x undef=if o+i<=x∧x<o+i+vs.length then vs.getD (x-(o+i)) undef else arr.getD x undef
 | [],o,i,arr,w,hb,_,_,_=>⟨w,arr,rfl,AR.refl _ _,hb,rfl,fun x=>by simp only[List.length_nil];rw[if_neg (by omega)]⟩
 | v::vs,o,i,arr,w,hb,hfz,hle,h1=>by
  have hlt:o+i<arr.size:=by simp at hle;omega
  have hcell:w.cell? ⟨b,o+i,none⟩=some arr[o+i]:=by simp[World.cell?,hb,hlt]
  have hfro:w.frozen? ⟨b,o+i,none⟩=false:=by
   simp only[World.frozen?,hb];rcases hfz with e|e
   ·subst e;simp
   ·simp;omega
  have hst:(store ((⟨b,o,none⟩:Addr).add i) v).run P w = .ok () (w.setCell ⟨b,o+i,none⟩ v):=by
   rw[Fg,run_store P w _ v _ (h1 v (by simp)),hcell];simp[hfro]
  obtain⟨hb',hsame⟩:=iX (off:=o+i) (v:=v) hb;obtain⟨w',arr',hr,hs,hbb,hsz,hget⟩:=MC b T fz vs o (i+1) (arr.setIfInBounds (o+i) v) (w.setCell ⟨b,o+i,none⟩ v) hb' (by simpa using hfz) (by simp at hle ⊢;omega) (fun x hx=>h1 x (by simp[hx]));refine⟨w',arr',by simp only[storeCells,Sem.run_bind,hst,Result.andThen_ok,hr],hsame.trans hs,hbb,by simpa using hsz,fun x=>?_⟩;rw[hget x];simp only[List.length_cons]
  by_cases c1:o+(i+1)<=x∧x<o+(i+1)+vs.length
  ·rw[if_pos c1,if_pos (by omega),show x-(o+i)=(x-(o+(i+1)))+1 by omega,List.getD_cons_succ]
  ·rw[if_neg c1]
   by_cases c2:o+i=x
   ·subst c2;rw[if_pos (by omega),Nat.sub_self,List.getD_cons_zero,IE hlt]
   ·rw[if_neg (by omega),Df c2]
def ni(P:Program)(vm ss:List Nat)(sz:Nat)(p x:Src):Op->Bool
 | .store t a b=>BL vm ss a p&&(BL vm ss b x&&UE P t==some sz)
 | _=>false
theorem kl{a:AV}(h:a.atom=true):a.isAgg=false:=by cases a<;>first|rfl|(simp[AV.atom] at h)
theorem ts(l:List AV)(j:Nat)(h:j<l.length):l[j]=l.getD j .any:=by
 rw[gdE,geE h];rfl
theorem mg{el:AV}{xs:List AV}{off:Nat}(hat:∀ j,j<xs.length->(xs.getD j .any).atom=true)(hle:off+xs.length<=el.cells.length):(el.like (DQ el.cells off xs)).cells=DQ el.cells off xs:=by
 by_cases hg:el.isAgg=true
 ·cases el<;>simp[AV.isAgg] at hg
  rfl
 ·have hc:=Uw (by simpa using hg:el.isAgg=false);rw[hc] at hle ⊢;simp only[List.length_singleton] at hle;have hlike:∀ y,el.like [y]=y:=fun y=>by cases el<;>first|rfl|(simp[AV.isAgg] at hg)
  match xs,hat,hle with
  | [],_,_=>simp only[DQ];rw[hlike,hc]
  | [y],hat,hle=>
   have h0:off=0:=by simp at hle;omega
   subst h0;simp only[DQ,List.set_cons_zero];rw[hlike];exact Uw (kl (by simpa using hat 0 (by simp)))
  | y::z::r,_,hle=>simp at hle;omega
theorem QA.set{k:Nat}{hm h2:Hm}(hk:AK k s.ob=some hm)(hl:h2.els.length=hm.els.length)(hz:h2.sz=hm.sz)(j:Nat):QA g g s.ob (CR k h2 s.ob) j:=by
 intro h' hg
 by_cases e:k=j
 ·subst e;rw[hk] at hg;cases hg;exact⟨h2,by rw[BF,if_pos rfl],hl,hz,rfl,rfl⟩
 ·exact⟨h',by rw[BF,if_neg e];exact hg,rfl,rfl,rfl,rfl⟩
theorem Mq{k j:Nat}{hm h2:Hm}{ob:CI}(hk:AK k ob=some hm)(hj:Ih (CR k h2 ob) j):Ih ob j:=by
 obtain⟨h',hg⟩:=hj;rw[BF] at hg;split at hg
 ·rename_i e;subst e;exact⟨hm,hk⟩
 ·exact⟨h',hg⟩
theorem FX.change(h:FX F Iow w0 g0 o0 g w tmps vm ss s){k:Nat}{hm h2:Hm}(hk:AK k s.ob=some hm)(hp:0<g.cap k)(hl:h2.els.length=hm.els.length)(hz:h2.sz=hm.sz)(hw:AR (fun c=>c=g.β k) w w')
  (hnew:GL (AW F g s.ob) w' (g.β k) (g.cap k) h2.sz h2.els) (ok:Bool):FX F Iow w0 g0 o0 g w' tmps vm ss { s with ob:=CR k h2 s.ob,ok:=ok }:=by
 have hset:∀ c,AW F g (CR k h2 s.ob) c->AW F g s.ob c:=fun c hc=>Gn (fun j hj=>Mq hk hj) hc
 have hsame:AR (AW F g s.ob) w w':=hw.mono fun c _ e=>.inr ⟨k,⟨⟨hm,hk⟩,hp⟩,e.symm⟩
 have hfr:=h.toFR.slots (w':=w') (g':=g) (ob':=CR k h2 s.ob) id rfl hsame (fun b _ c=>hset b c) (fun a v _=>.inr ⟨rfl,fun j _=>QA.set hk hl hz j⟩) (fun j h' hg=>by
  rw[BF] at hg;split at hg
  ·rename_i e;subst e;cases hg;exact hnew.mono (AR.refl _ _) (fun _=>rfl) fun b _ c=>hset b c
  ·rename_i e;exact (h.home j h' hg).mono hsame (fun hpj=>hw.block _ ((h.home j h' hg).lt hpj) fun e2=>e (h.inj k j ⟨⟨hm,hk⟩,hp⟩ ⟨⟨h',hg⟩,hpj⟩ e2.symm)) fun b _ c=>hset b c) (fun j j' a b=>h.inj j j' ⟨Mq hk a.1,a.2⟩ ⟨Mq hk b.1,b.2⟩) (fun j a=>h.nF j ⟨Mq hk a.1,a.2⟩) ok
 simp only[List.map_id] at hfr;refine FX.mk' (w:=w) hfr h.same (hw.mono fun c _ e=>?_) (fun j hj=>h.hio j ⟨Mq hk hj.1,hj.2⟩) h.fio (h.par.setSame hk hz hl);rw[e];exact h.hio k ⟨⟨hm,hk⟩,hp⟩
theorem FX.store(h:FX F Iow w0 g0 o0 g w tmps vm ss s){sz:Nat}{p x:Src}(hc:ni P vm ss sz p x o.op=true)(hok:(JK s sz (rd s x) (rd s p)).ok=true):
  ∃ w',(execOp ({ tmps:=tmps,defers:=ds }:Act).eval o).run P w = .ok .skip w'∧FX F Iow w0 g0 o0 g w' tmps vm ss (JK s sz (rd s x) (rd s p)):=by
 unfold ni at hc;split at hc
 ·rename_i t a b he;simp only[baT,beq_iff_eq] at hc;obtain⟨hs1,hs2,hsz⟩:=hc;have hvp:=h.toFR.src (ds:=ds) hs1;have hvx:=h.toFR.src (ds:=ds) hs2;revert hok;generalize rd s p=ap at hvp;generalize rd s x=ax at hvx;intro hok;cases ap<;>simp only[JK,fail] at hok<;>try (cases hok;done)
  case ref k i off=>
   obtain⟨hm,ho,hi,hev⟩:=hvp;simp only[JK,ho,QF] at hok ⊢;simp only[Qs,baT,beq_iff_eq,dtE] at hok;obtain⟨_,hilt,hxl,hle,hat⟩:=hok;have hh:=h.home k hm ho;obtain⟨arr,T,fz,hr,hf,hsize,hvr⟩:=hh.row (by have:=hh.len;omega);have hvv:=hvx.atoms hat;have hcx:=hvv.cells hat;have hcl:=hh.cells i hi
   have hbound:i*hm.sz+hm.sz<=arr.size:=by
    have h1:=hh.len;have:(i+1)*hm.sz<=g.cap k*hm.sz:=Nat.mul_le_mul_right _ (by omega);rw[Nat.add_mul] at this;omega
   obtain⟨w',arr',hrun,hsame,hb',hasz,hget⟩:=MC (P:=P) (g.β k) T fz (({ tmps:=tmps,defers:=ds }:Act).eval b).cells.toList (i*hm.sz+off) 0 arr w hr (hf.imp_right And.right) (by simp only[Array.length_toList,hcx.1,hxl];rw[hcl.1] at hle;omega) (fun u hu=>by
    obtain⟨j,hj,rfl⟩:=List.getElem_of_mem hu;have hj':j<ax.cells.length:=by rw[← hcx.1];simpa using hj
    have:=(hcx.2 j hj').oneCell (Fu hat hj');rw[← Dk,gdE,geE hj] at this;exact this)
   refine⟨w',?_,?_⟩
   ·have hcs:(({ tmps:=tmps,defers:=ds }:Act).eval b).cells.size=sz:=by rw[hcx.1,hxl]
    simp[execOp,he,Instr.storeAt,Instr.sureAddr,hev,storeVar,EJ hsz,hcs,hrun]
   ·have hlc:=mg (el:=hm.els.getD i .any) (xs:=ax.cells) (off:=off) (fun j hj=>Fu hat hj) (by omega);refine h.change (h2:=⟨hm.sz,hm.els.set i ((hm.els.getD i .any).like (DQ (hm.els.getD i .any).cells off ax.cells))⟩) ho (by have:=hh.len;omega) (by simp) rfl hsame ?_ _;have hmono:AR (AW F g s.ob) w w':=hsame.mono fun c _ e=>.inr ⟨k,⟨⟨hm,ho⟩,by have:=hh.len;omega⟩,e.symm⟩
    have hset:∀ i',i'<hm.els.length->(hm.els.set i ((hm.els.getD i .any).like (DQ (hm.els.getD i .any).cells off ax.cells))).getD i' .any=if i=i' then (hm.els.getD i .any).like (DQ (hm.els.getD i .any).cells off ax.cells) else hm.els.getD i' .any:=by
     intro i' hi';rw[gdE,List.getElem?_set]
     by_cases e:i=i'
     ·simp[e,hi']
     ·simp[e,gdE]
    have hplen:(DQ (hm.els.getD i .any).cells off ax.cells).length=hm.sz:=by rw[IL,hcl.1]
    refine⟨hh.pos,by simpa using hh.len,fun i' hi'=>?_,fun _=>⟨arr',T,fz,hb',by rw[hasz];exact hf,by rw[hasz,hsize],fun i' j hi' hj=>?_⟩⟩
    ·have hi2:i'<hm.els.length:=by simpa using hi'
     rw[hset i' hi2];split
     ·refine⟨by rw[hlc,hplen],?_⟩;simp only[AV.atoms,hlc,List.all_eq_true];intro q hq;obtain⟨j,hj,rfl⟩:=List.getElem_of_mem hq;rw[ts _ j hj,JT];split
      ·exact Fu hat (by omega)
      ·exact Fu hcl.2 (by rw[hcl.1];omega)
     ·exact hh.cells i' hi2
    ·have hi2:i'<hm.els.length:=by simpa using hi'
     have hj2:j<hm.sz:=hj;rw[hset i' hi2,hget];simp only[Array.length_toList,hcx.1,hxl,Nat.add_zero]
     by_cases e:i=i'
     ·subst e;rw[if_pos rfl,hlc,JT]
      by_cases c1:off<=j∧j<off+sz
      ·rw[if_pos (by omega),if_pos (by rw[hxl,hcl.1];omega),Dk,show i*hm.sz+j-(i*hm.sz+off)=j-off by omega];exact (hcx.2 (j-off) (by omega)).ext hmono
      ·rw[if_neg (by omega),if_neg (by rw[hxl];omega)];exact (hvr i j hi hj).ext hmono
     ·rw[if_neg e,if_neg]
      ·exact (hvr i' j hi2 hj).ext hmono
      ·rw[hcl.1] at hle;rintro⟨c1,c2⟩;rcases Nat.lt_or_gt_of_ne e with hlt|hlt
       ·have:(i+1)*hm.sz<=i'*hm.sz:=Nat.mul_le_mul_right _ (by omega);rw[Nat.add_mul] at this;omega
       ·have:(i'+1)*hm.sz<=i*hm.sz:=Nat.mul_le_mul_right _ (by omega);rw[Nat.add_mul] at this;omega
 ·cases hc
def Ub(P:Program)(t:TypeId):Bool :=
 match P.underlying t with
 | some (.slice _)=>true
 | some .string=>true
 | _=>false
def AEN(P:Program)(vm ss:List Nat)(sz bytes:Nat)(z:AV)(a x:Src):Op->Bool
 | .call { callee:=.builtin .append,args:=args,argTypes:=tys }=>(match args.toList,tys.toList with
  | [p,q],[t,u]=>BL vm ss p a&&(BL vm ss q x&&(Ub P u&&(decide (1<=sz)&&(match oc P t with
   | some e=>UE P e==some sz&&(byT P e==some bytes&&(match zeT P e with
    | some zv=>zv.cells.size==sz&&decide (1<=bytes)
    | none=>false))
   | none=>false))))
  | _,_=>false)
 | _=>false
structure TI(S:Nat->Prop)(w:World)(P:Program)(sz:Nat)(v:Value)(ys:List AV)(news:Array Value):Prop where
 n:(Builtin.lenOf v).run P w = .ok ys.length w
 c:(Builtin.firstCells sz ys.length v).run P w = .ok news w
 l:news.size=ys.length*sz
 e:∀ i,i<ys.length->(ys.getD i .any).cells.length=sz∧(ys.getD i .any).atoms=true
 r:∀ i j,i<ys.length->j<sz->VR S w (news.getD (i*sz+j) undef) ((ys.getD i .any).cells.getD j .any)
theorem Yn(f:Nat->Value)(n x:Nat)(h:x<n):((List.range n).map f).toArray.getD x undef=f x:=by
 rw[NH,gdE,List.getElem?_map,List.getElem?_range h];rfl
theorem eu{x n sz:Nat}(hsz:1<=sz)(h:x<n*sz):x/sz<n∧x%sz<sz∧x=x/sz*sz+x%sz :=
 ⟨Nat.div_lt_of_lt_mul (by rw[Nat.mul_comm];exact h),Nat.mod_lt _ (by omega),by rw[Nat.mul_comm];exact (Nat.div_add_mod x sz).symm⟩
theorem LD(h:FR F g w tmps vm ss s){sz:Nat}(hsz:1<=sz){v:Value}{a:AV}(hv:SR (AW F g s.ob) w g s.ob v a)(hok:(CM sz s.ob a).ok=true)(hs2:(CM sz s.ob a).sz=sz):
  ∃ news,TI (AW F g s.ob) w P sz v (CM sz s.ob a).els news:=by
 cases a<;>simp only[CM] at hok<;>try (cases hok;done)
 case str l=>
  have e:=QH hv;subst e;simp only[beq_iff_eq] at hok;subst hok;simp only[CM]
  have hg:∀ i,i<l.length->(l.map Dv).getD i .any=Dv (l.getD i 0):=fun i hi=>by
   rw[gdE,List.getElem?_map,geE hi,gdE,geE hi];rfl
  refine⟨(l.map fun b=>Value.int .u8 (b.toNat:Int)).toArray,⟨by simp[Builtin.lenOf,Lm],?_,by simp,fun i hi=>?_,fun i j hi hj=>?_⟩⟩
  ·simp only[Builtin.firstCells,List.length_map];rw[ByteArray.extract_mk];simp
  ·rw[hg i (by simpa using hi)];exact⟨rfl,rfl⟩
  ·have hi':i<l.length:=by simpa using hi
   have hj0:j=0:=by omega
   subst hj0;rw[hg i hi',Nat.mul_one,Nat.add_zero,NH]
   have:(l.map fun b=>Value.int .u8 (b.toNat:Int)).getD i undef = .int .u8 ((l.getD i 0).toNat:Int):=by
    rw[gdE,List.getElem?_map,geE hi',gdE,geE hi'];rfl
   rw[this];exact .int
 case nilsl=>
  have e:=QI hv;subst e;simp only[CM];exact⟨#[],⟨rfl,rfl,by simp,fun i hi=>by simp at hi,fun i j hi _=>by simp at hi⟩⟩
 case sl sz2 els=>
  simp only[SR,MO] at hv;simp only[beq_iff_eq] at hok;subst hok;simp only[CM];cases hv with
  | @sl ad n cap _ _ b off r hn hcap hsz0 ha hcl hw hr=>
   subst hn
   by_cases hp:0<els.length
   ·obtain⟨rfl,hns⟩:=ha hp
    have hl:=run_loadCells (P:=P) w ⟨b,off,none⟩ (els.length*sz2) (fun x=>r (x/sz2) (x%sz2)) (fun x hx=>by
     obtain⟨h1,h2,h3⟩:=eu hsz0 hx;rw[Fg];have:=hw (x/sz2) (x%sz2) h1 h2
     rwa [← h3] at this)
    refine⟨_,⟨rfl,by simp only[Builtin.firstCells];exact hl,by simp,hcl,fun i j hi hj=>?_⟩⟩;have hlt:=Oo hi hj;rw[Yn _ _ _ hlt,Nat.mul_comm i,Nat.mul_add_div (by omega),Nat.div_eq_of_lt hj,Nat.add_zero,Nat.mul_add_mod,Nat.mod_eq_of_lt hj];exact hr i j hi hj
   ·have h0:els=[]:=List.length_eq_zero_iff.1 (by omega);subst h0;refine⟨#[],⟨rfl,?_,by simp,fun i hi=>by simp at hi,fun i j hi _=>by simp at hi⟩⟩;cases ad<;>simp[Builtin.firstCells,loadCells,loadCellsFrom]
 case own k=>
  obtain⟨hm,ho,e⟩:=hv;rcases e with e|⟨hz,e⟩
  rotate_left
  ·subst e;simp only[CM,ho,cD];rw[h.nil_els ho hz];exact⟨#[],⟨rfl,rfl,by simp,fun i hi=>by simp at hi,fun i j hi _=>by simp at hi⟩⟩
  subst e;simp only[CM,ho,cD] at hok hs2 ⊢;subst hs2;have hh:=h.home k hm ho;obtain⟨r,hcell⟩:=hh.cell
  have hl:=run_loadCells (P:=P) w ⟨g.β k,0,none⟩ (hm.els.length*hm.sz) (fun x=>r (x/hm.sz) (x%hm.sz)) (fun x hx=>by
   obtain⟨h1,h2,h3⟩:=eu hh.pos hx;rw[Fg,Nat.zero_add];have:=(hcell (x/hm.sz) (x%hm.sz) h1 h2).1
   rwa [← h3] at this)
  refine⟨_,⟨rfl,by simp only[Builtin.firstCells];exact hl,by simp,hh.cells,fun i j hi hj=>?_⟩⟩;have hlt:=Oo hi hj;rw[Yn _ _ _ hlt,Nat.mul_comm i,Nat.mul_add_div (by omega),Nat.div_eq_of_lt hj,Nat.add_zero,Nat.mul_add_mod,Nat.mod_eq_of_lt hj];exact (hcell i j hi hj).2
end
section
variable {F Iow:Nat->Prop}{w0:World}{g0:Gh}{o0:CI}{g:Gh}{w w':World}{tmps:Array Value}{ds:List Deferred}{vm ss ss':List Nat}{s:St}{P:Program}{o:Oper}{key:Nat}
theorem jR(k:Nat):AV.kill k .any = .any:=by simp[AV.kill,AV.names,AV.keys]
theorem ZD(k:Nat)(a:AV):AV.kill k a = .any∨(AV.kill k a=a∧k ∉ a.keys):=by
 by_cases hc:a.names k=true
 ·exact .inl (by simp[AV.kill,hc])
 ·exact .inr ⟨by simp[AV.kill,hc],fun h=>hc (JW.2 h)⟩
theorem FX.reown'(h:FX F Iow w0 g0 o0 g w tmps vm ss s){k:Nat}{hm h2:Hm}{b cap:Nat}(hk:AK k s.ob=some hm)(hw:AR (fun c=>c=g.β k∧0<g.cap k) w w')
  (hb:0<cap->(b=g.β k∧0<g.cap k)∨w.heap.size<=b) (hnew:∀ S':Nat->Prop,(∀ c,S' c->AW F g s.ob c∨c=b)->GL S' w' b cap h2.sz h2.els) (hpar:oC g0 o0 ⟨fun j=>if j=k then b else g.β j,fun j=>if j=k then cap else g.cap j⟩ (CR k h2 s.ob)) (ok:Bool) :
  FX F Iow w0 g0 o0 ⟨fun j=>if j=k then b else g.β j,fun j=>if j=k then cap else g.cap j⟩ w' tmps vm ss { vs:=s.vs.map (AV.kill k),st:=s.st.map (AV.kill k),ob:=CR k h2 s.ob,ok:=ok }:=by
 have hsame:AR (AW F g s.ob) w w':=hw.mono fun c _ e=>.inr ⟨k,⟨⟨hm,hk⟩,e.2⟩,e.1.symm⟩
 have hin:∀ {j},Ih (CR k h2 s.ob) j->Ih s.ob j:=fun hj=>Mq hk hj
 have hset:∀ c,AW F ⟨fun j=>if j=k then b else g.β j,fun j=>if j=k then cap else g.cap j⟩ (CR k h2 s.ob) c->AW F g s.ob c∨(c=b∧0<cap):=by
  intro c hc;rcases hc with hc|⟨j,⟨hj,hp⟩,e⟩
  ·exact .inl (.inl hc)
  ·by_cases hjk:j=k
   ·subst hjk;exact .inr ⟨by simpa using e.symm,by simpa using hp⟩
   ·exact .inl (.inr ⟨j,⟨hin hj,by simpa[hjk] using hp⟩,by simpa[hjk] using e⟩)
 have hset2:∀ c,c<w.heap.size->AW F ⟨fun j=>if j=k then b else g.β j,fun j=>if j=k then cap else g.cap j⟩ (CR k h2 s.ob) c->AW F g s.ob c:=by
  intro c hc hs;rcases hset c hs with e|e
  ·exact e
  ·rcases hb e.2 with hb|hb
   ·exact .inr ⟨k,⟨⟨hm,hk⟩,hb.2⟩,by rw[e.1,hb.1]⟩
   ·omega
 have hne:0<cap->∀ j,j≠k->KW g s.ob j->g.β j≠b:=by
  intro hcp j hj hl e;rcases hb hcp with hb|hb
  ·exact hj (h.inj j k hl ⟨⟨hm,hk⟩,hb.2⟩ (by rw[e,hb.1]))
  ·obtain⟨⟨h',hg⟩,hp⟩:=hl;have:=(h.home j h' hg).lt hp;omega
 have hlv:∀ j,j≠k->KW ⟨fun j=>if j=k then b else g.β j,fun j=>if j=k then cap else g.cap j⟩ (CR k h2 s.ob) j->KW g s.ob j:=fun j hj hl=>⟨hin hl.1,by simpa[hj] using hl.2⟩
 have hfr:=h.toFR.slots (w':=w') (g':=⟨fun j=>if j=k then b else g.β j,fun j=>if j=k then cap else g.cap j⟩) (ob':=CR k h2 s.ob) (AV.kill k) (jR k) hsame hset2 (fun a v _=>by
   rcases ZD k a with e|⟨e,hn⟩
   ·exact .inl e
   ·refine .inr ⟨e,fun j hj h' hg=>?_⟩;have hjk:j≠k:=fun e=>hn (e▸hj)
    exact⟨h',by rw[BF,if_neg (Ne.symm hjk)];exact hg,rfl,rfl,by simp[hjk],by simp[hjk]⟩) (fun j h' hg=>by
  rw[BF] at hg
  by_cases hjk:k=j
  ·subst hjk;rw[if_pos rfl] at hg;cases hg;simp only[if_true];exact hnew _ fun c hc=>(hset c hc).imp id fun e=>e.1
  ·rw[if_neg hjk] at hg;simp only[if_neg (Ne.symm hjk)];refine (h.home j h' hg).mono hsame (fun hpj=>hw.block _ ((h.home j h' hg).lt hpj) fun e2=>?_) hset2;exact hjk (h.inj k j ⟨⟨hm,hk⟩,e2.2⟩ ⟨⟨h',hg⟩,hpj⟩ e2.1.symm)) (fun j j' a c e=>by
  by_cases e1:j=k
  ·by_cases e2:j'=k
   ·rw[e1,e2]
   ·simp only[e1,e2,if_true,if_false] at e;exact absurd e.symm (hne (by simpa[e1] using a.2) j' e2 (hlv j' e2 c))
  ·by_cases e2:j'=k
   ·simp only[e1,e2,if_true,if_false] at e;exact absurd e (hne (by simpa[e2] using c.2) j e1 (hlv j e1 a))
   ·simp only[e1,e2,if_false] at e;exact h.inj j j' (hlv j e1 a) (hlv j' e2 c) e) (fun j a=>by
  by_cases e1:j=k
  ·have hcp:0<cap:=by simpa[e1] using a.2
   simp only[e1,if_true];rcases hb hcp with hb|hb
   ·rw[hb.1];exact h.nF k ⟨⟨hm,hk⟩,hb.2⟩
   ·intro hf;have:=h.fb b hf;omega
  ·simp only[e1,if_false];exact h.nF j (hlv j e1 a)) ok
 refine FX.mk' (w:=w) hfr h.same (hw.mono fun c _ e=>?_) (fun j hj=>?_) h.fio hpar
 ·rw[e.1];exact h.hio k ⟨⟨hm,hk⟩,e.2⟩
 ·by_cases e1:j=k
  ·have hcp:0<cap:=by simpa[e1] using hj.2
   simp only[e1,if_true];rcases hb hcp with hb|hb
   ·rw[hb.1];exact h.hio k ⟨⟨hm,hk⟩,hb.2⟩
   ·exact .inl (Nat.le_trans h.same.size hb)
  ·simp only[e1,if_false];exact h.hio j (hlv j e1 hj)
theorem FX.reown(h:FX F Iow w0 g0 o0 g w tmps vm ss s){k:Nat}{hm h2:Hm}{b cap:Nat}(hk:AK k s.ob=some hm)(hw:AR (fun c=>c=g.β k∧0<g.cap k) w w')
  (hb:0<cap->(b=g.β k∧0<g.cap k)∨w.heap.size<=b) (hnew:∀ S':Nat->Prop,(∀ c,S' c->AW F g s.ob c∨c=b)->GL S' w' b cap h2.sz h2.els) (hz:h2.sz=hm.sz) (hl:hm.els.length<=h2.els.length) (hbl:h2.els.length=hm.els.length->b=g.β k∧cap=g.cap k) (ok:Bool) :
  FX F Iow w0 g0 o0 ⟨fun j=>if j=k then b else g.β j,fun j=>if j=k then cap else g.cap j⟩ w' tmps vm ss { vs:=s.vs.map (AV.kill k),st:=s.st.map (AV.kill k),ob:=CR k h2 s.ob,ok:=ok } :=
 h.reown' hk hw hb hnew (h.par.set hk hz hl hbl) ok
theorem Yu{u:TypeId}(h:Ub P u=true):(∃ e,P.underlying u=some (.slice e))∨P.underlying u=some .string:=by
 unfold Ub at h;split at h
 ·rename_i e hu;exact .inl ⟨e,hu⟩
 ·rename_i hu;exact .inr hu
 ·cases h
theorem Km{t u e ty:TypeId}{sz n cap m:Nat}{base:Option Addr}{x:Value}{news:Array Value}(ht:P.underlying t=some (.slice e))(hu:Ub P u=true)(hsz:UE P e=some sz)
  (hn:(Builtin.lenOf x).run P w = .ok m w) (hc:(Builtin.firstCells sz m x).run P w = .ok news w) (hle:n+m<=cap) (hst:∀ a,base=some a->(storeCells (a.add (n*sz)) news.toList).run P w = .ok () w') (hbn:base=none->w'=w) :
  (Builtin.append_ #[t,u] ty #[.slice base n cap,x]).run P w = .ok (.slice base (n+m) cap) w':=by
 rcases Yu hu with⟨d,hd⟩|hd
 ·cases base with
  | none=>have:=hbn rfl;subst this;simp[Builtin.append_,run_underlying ht,run_underlying hd,EJ hsz,hn,hc,hle]
  | some a=>have:=hst a rfl;simp[Builtin.append_,run_underlying ht,run_underlying hd,EJ hsz,hn,hc,hle,this]
 ·cases base with
  | none=>have:=hbn rfl;subst this;simp[Builtin.append_,run_underlying ht,run_underlying hd,EJ hsz,hn,hc,hle]
  | some a=>have:=hst a rfl;simp[Builtin.append_,run_underlying ht,run_underlying hd,EJ hsz,hn,hc,hle,this]
theorem Qx{t u e ty:TypeId}{sz bytes n cap m:Nat}{base:Option Addr}{x zv:Value}{olds news:Array Value}(ht:P.underlying t=some (.slice e))(hu:Ub P u=true)(hsz:UE P e=some sz)
  (hby:byT P e=some bytes) (hze:zeT P e=some zv) (hb1:1<=bytes)
  (hn:(Builtin.lenOf x).run P w = .ok m w) (hc:(Builtin.firstCells sz m x).run P w.drew = .ok news w.drew) (ho:(Builtin.firstCells sz n (.slice base n cap)).run P w.drew = .ok olds w.drew)
  (hg:cap<n+m) (hbytes:(n+m)*bytes<=140737488355328) :
  (Builtin.append_ #[t,u] ty #[.slice base n cap,x]).run P w =
   .ok (.slice (some ⟨w.heap.size,0,none⟩) (n+m) (grownCap w (n+m) cap e)) (w.drew.alloc (.cells (olds++news++Builtin.zeroCells zv.cells (grownCap w (n+m) cap e-(n+m))) e)):=by
 obtain⟨i,hi,hib⟩:=ki hby;have hle:¬ (n+m<=cap):=by omega
 have h0:i.bytes≠0:=by omega
 have h48:¬ (281474976710656<Builtin.nextslicecap (n+m) cap*i.bytes):=by have:=growslice_fits hg hbytes;rw[hib];omega
 rcases Yu hu with⟨d,hd⟩|hd
 ·simp[Builtin.append_,run_underlying ht,run_underlying hd,EJ hsz,hn,hc,ho,hle,Qw hi,h0,h48,Question.forced,PI hze,newRow,grownCap]
 ·simp[Builtin.append_,run_underlying ht,run_underlying hd,EJ hsz,hn,hc,ho,hle,Qw hi,h0,h48,Question.forced,PI hze,newRow,grownCap]
theorem ND{a b:Array Value}{x:Nat}:(a++b).getD x undef=if x<a.size then a.getD x undef else b.getD (x-a.size) undef:=by
 simp only[agD,Array.getElem?_append];split<;>rfl
theorem Gy{l r:List AV}{i:Nat}:(l++r).getD i .any=if i<l.length then l.getD i .any else r.getD (i-l.length) .any:=by
 simp only[gdE,List.getElem?_append];split<;>rfl
theorem TI.both{S:Nat->Prop}{sz:Nat}{u v:Value}{xs ys:List AV}{olds news:Array Value}(hx:TI S w P sz u xs olds)(hy:TI S w P sz v ys news){rest:Array Value}:
  (∀ i,i<(xs++ys).length->((xs++ys).getD i .any).cells.length=sz∧((xs++ys).getD i .any).atoms=true) ∧
  ∀ i j,i<(xs++ys).length->j<sz->VR S w ((olds++news++rest).getD (i*sz+j) undef) (((xs++ys).getD i .any).cells.getD j .any):=by
 refine⟨fun i hi=>?_,fun i j hi hj=>?_⟩
 ·rw[Gy];rw[List.length_append] at hi;split
  ·exact hx.e i (by omega)
  ·exact hy.e _ (by omega)
 ·rw[List.length_append] at hi
  have hlt:i*sz+j<(olds++news).size:=by
   rw[Array.size_append,hx.l,hy.l,← Nat.add_mul];exact Oo hi hj
  rw[ND,if_pos hlt,ND,hx.l,Gy]
  by_cases hc:i<xs.length
  ·rw[if_pos (Oo hc hj),if_pos hc];exact hx.r i j hc hj
  ·have hge:xs.length*sz<=i*sz:=Nat.mul_le_mul_right _ (by omega);rw[if_neg (by omega),if_neg hc];have:=hy.r (i-xs.length) j (by omega) hj
   rwa [Nat.sub_mul,show i*sz-xs.length*sz+j=i*sz+j-xs.length*sz by omega] at this
theorem wt{S:Nat->Prop}{sz:Nat}{v:Value}{ys:List AV}{news:Array Value}(hsz:1<=sz)(hy:TI S w P sz v ys news):∀ u,u∈news.toList->u.oneCell'=true:=by
 intro u hu;obtain⟨x,hx,rfl⟩:=List.getElem_of_mem hu;have hx':x<ys.length*sz:=by rw[← hy.l];simpa using hx
 obtain⟨h1,h2,h3⟩:=eu hsz hx';have hr:=hy.r (x/sz) (x%sz) h1 h2;have he:=hy.e (x/sz) h1;have:=hr.oneCell (Fu he.2 (by rw[he.1];exact h2));rw[← h3,← Dk,gdE,geE hx] at this;exact this
theorem TI.ext{S S':Nat->Prop}{sz:Nat}{v:Value}{ys:List AV}{news:Array Value}(hy:TI S w P sz v ys news)(hs:AR S w w')(hS:∀ b,b<w.heap.size->S' b->S b):
  (∀ i j,i<ys.length->j<sz->VR S' w' (news.getD (i*sz+j) undef) ((ys.getD i .any).cells.getD j .any)):=fun i j hi hj=>(hy.r i j hi hj).mono hs hS
theorem dF{S:Nat->Prop}{sz n cap:Nat}{u v zv:Value}{xs ys:List AV}{olds news:Array Value}{e:TypeId}(hsz:1<=sz)(hzs:zv.cells.size=sz)(hx:TI S w.drew P sz u xs olds)(hy:TI S w.drew P sz v ys news)
  (hcap:xs.length+ys.length<=cap) {S':Nat->Prop} (hS:∀ c,S' c->S c∨c=w.heap.size) :
  GL S' (w.drew.alloc (.cells (olds++news++Builtin.zeroCells zv.cells (cap-(xs.length+ys.length))) e)) w.heap.size cap sz (xs++ys):=by
 obtain⟨h1,h2⟩:=hx.both hy (rest:=Builtin.zeroCells zv.cells (cap-(xs.length+ys.length)));refine⟨hsz,by simpa using hcap,h1,fun _=>⟨_,e,(0,0),heap_alloc_new w.drew _,.inl rfl,?_,fun i j hi hj=>?_⟩⟩
 ·rw[Array.size_append,Array.size_append,size_zeroCells,hx.l,hy.l,hzs,← Nat.add_mul,← Nat.add_mul]
  congr 1;omega
 ·refine (h2 i j hi hj).mono (AR.alloc _ _ _) fun b hb hc=>?_
  rcases hS b hc with e|e
  ·exact e
  ·exact absurd hb (by rw[e];exact Nat.lt_irrefl _)
theorem AAP{sz bytes:Nat}{z:AV}{a x:Src}{op:Op}(hc:AEN P vm ss sz bytes z a x op=true):
  ∃ t u p q e zv ty args tys,op = .call { callee:=.builtin .append,args:=args,argTypes:=tys }∧args = #[p,q]∧tys = #[t,u]∧BL vm ss p a=true∧BL vm ss q x=true∧Ub P u=true∧1<=sz ∧
   P.underlying t=some (.slice e)∧UE P e=some sz∧byT P e=some bytes∧zeT P e=some zv∧zv.cells.size=sz∧1<=bytes∧ty=(0:TypeId):=by
 unfold AEN at hc;split at hc
 ·rename_i args tys;split at hc
  ·rename_i p q t u h1 h2;simp only[baT,dtE] at hc;obtain⟨c1,c2,c3,c4,c5⟩:=hc;split at c5
   ·rename_i e hsl;simp only[baT,beq_iff_eq] at c5;obtain⟨c6,c7,c8⟩:=c5;split at c8
    ·rename_i zv hz;simp only[baT,beq_iff_eq,dtE] at c8;exact⟨t,u,p,q,e,zv,0,args,tys,rfl,by rw[← Array.toArray_toList (xs:=args),h1],by rw[← Array.toArray_toList (xs:=tys),h2],c1,c2,c3,c4,MA hsl,c6,c7,hz,c8.1,c8.2,rfl⟩
    ·cases c8
   ·cases c5
  ·cases hc
 ·cases hc
theorem FX.app(h:FX F Iow w0 g0 o0 g w tmps vm ss s)(hnd:Ns vm){D:Hv}(hd:Dt vm ss o.dst D=some ss')(hfit:∀ d,o.dst=some d->d<tmps.size){sz bytes:Nat}{z:AV}{a x:Src}(hc:AEN P vm ss sz bytes z a x o.op=true)
  (hok:(Qi s key D sz bytes (CM sz s.ob (rd s x)) (rd s a)).ok=true) :
  ∃ v w' g',(execOp ({ tmps:=tmps,defers:=ds }:Act).eval o).run P w = .ok (.value v) w'∧FX F Iow w0 g0 o0 g' w' (Gt tmps o.dst v) vm ss' (Qi s key D sz bytes (CM sz s.ob (rd s x)) (rd s a)):=by
 obtain⟨t,u,p,q,e,zv,ty,args,tys,he,rfl,rfl,hs1,hs2,hu,hsz1,ht,hsz,hby,hze,hzs,hb1,-⟩:=AAP hc;have hva:=h.toFR.src (ds:=ds) hs1;have hvx:=h.toFR.src (ds:=ds) hs2
 have hexec:∀ r w',(Builtin.append_ #[t,u] o.type #[({ tmps:=tmps,defers:=ds }:Act).eval p,({ tmps:=tmps,defers:=ds }:Act).eval q]).run P w = .ok r w'->(execOp ({ tmps:=tmps,defers:=ds }:Act).eval o).run P w = .ok (.value r) w':=by
  intro r w' hr;unfold execOp;simp only[he,resolve,invoke,builtin,Sem.run_bind,Sem.run_pure,Result.andThen_ok,List.map_toArray,List.map_cons,List.map_nil,hr]
 have hdrew:AR (fun _=>False) w w.drew:=AR.drew _ _;have hfd:=h.toFR.grow hdrew;have hvad:=hfd.src (ds:=ds) hs1;have hvxd:=hfd.src (ds:=ds) hs2;revert hok;generalize rd s x=ax at hvx hvxd;generalize rd s a=aa at hva hvad;intro hok;cases aa<;>simp only[Qi,fail] at hok<;>try (cases hok;done)
 case nilsl=>
  have hev:=QI hva
  have hk:(DA s key D ⟨((CM sz s.ob ax).sz==sz)&&((CM sz s.ob ax).ok&&EY (CM sz s.ob ax).els.length bytes),.own (Bd key),[(Bd key,⟨sz,(CM sz s.ob ax).els⟩)]⟩).ok=true->((CM sz s.ob ax).sz=sz∧(CM sz s.ob ax).ok=true∧(CM sz s.ob ax).els.length*bytes<=140737488355328):=by
   intro h0;cases D<;>simpa[DA,RE,Ay,EY] using (by simpa[DA,RE,Ay,EY] using h0:_∧_).2
  obtain⟨hysz,hyok,hyb⟩:=hk hok;obtain⟨news,hy⟩:=LD (P:=P) h.toFR hsz1 hvx hyok hysz;obtain⟨newsd,hyd⟩:=LD (P:=P) hfd hsz1 hvxd hyok hysz;obtain⟨oldsd,hxd⟩:=LD (P:=P) hfd hsz1 (a:=.nilsl) (sz:=sz) hvad rfl rfl;refine FX.still h hnd hd hfit ?_;simp only[CM] at hxd;have hxc:=hxd.c;rw[hev] at hxc;simp only[List.length_nil] at hxc;rcases Nat.eq_zero_or_pos (CM sz s.ob ax).els.length with h0|h0
  ·have hys:(CM sz s.ob ax).els=[]:=List.length_eq_zero_iff.1 h0;rw[hys] at hy ⊢;have hr:=Km (P:=P) (w:=w) (w':=w) (ty:=o.type) (base:=none) (n:=0) (cap:=0) ht hu hsz hy.n hy.c (by simp) (fun a e=>by cases e) (fun _=>rfl);refine⟨.slice none 0 0,w,hexec _ _ (by rw[hev];exact hr),AR.refl _ _,.inr ⟨Bd key,⟨sz,[]⟩,w.heap.size,0,rfl,by simp[Bd],Nat.le_refl _,fun S' hS=>?_,.inl ⟨rfl,.inr ⟨rfl,rfl⟩⟩⟩⟩;exact⟨hsz1,Nat.le_refl _,fun i hi=>by simp at hi,fun hp=>absurd hp (Nat.lt_irrefl _)⟩
  ·have hg:=Qx (P:=P) (w:=w) (ty:=o.type) (base:=none) (n:=0) (cap:=0) (olds:=oldsd) (news:=newsd) ht hu hsz hby hze hb1 hy.n hyd.c hxc (by omega) (by rw[Nat.zero_add];exact hyb);refine⟨_,_,hexec _ _ (by rw[hev];exact hg),(AR.drew _ _).trans (AR.alloc _ _ _),.inr ⟨Bd key,⟨sz,(CM sz s.ob ax).els⟩,w.heap.size,grownCap w (0+(CM sz s.ob ax).els.length) 0 e,rfl,by simp[Bd],Nat.le_refl _,fun S' hS=>?_,.inl ⟨rfl,.inl (by rw[Nat.zero_add])⟩⟩⟩;have:=dF (w:=w) (P:=P) (e:=e) (n:=0) hsz1 hzs hxd hyd (cap:=grownCap w (0+(CM sz s.ob ax).els.length) 0 e) (by simpa using grownCap_ge w (0+(CM sz s.ob ax).els.length) 0 e) hS;simpa using this
 case own k=>
  obtain⟨hm,ho,hev⟩:=hva;simp only[Qi,ho,Uz] at hok ⊢
  have hk:hm.sz=sz∧(CM sz s.ob ax).sz=sz∧(CM sz s.ob ax).ok=true∧(hm.els.length+(CM sz s.ob ax).els.length)*bytes<=140737488355328:=by
   cases D<;>simpa[Ay,EY] using (by simpa[Ay,EY] using hok:_∧_).2
  obtain⟨hmsz,hysz,hyok,hyb⟩:=hk;obtain⟨news,hy⟩:=LD (P:=P) h.toFR hsz1 hvx hyok hysz;obtain⟨newsd,hyd⟩:=LD (P:=P) hfd hsz1 hvxd hyok hysz;have hoS:(CM sz s.ob (.own k))=⟨true,hm.sz,hm.els⟩:=by simp[CM,ho,cD]
  obtain⟨oldsd,hxd⟩:=LD (P:=P) hfd hsz1 (a:=.own k) (sz:=sz) hvad (by rw[hoS]) (by rw[hoS];exact hmsz);rw[hoS] at hxd;have hh:=h.home k hm ho;generalize hyy:(CM sz s.ob ax).els=ys at hy hyd hyb ⊢
  have fin:∀ (b cap:Nat) (v:Value) (w':World),(ys.length=0->b=g.β k∧cap=g.cap k)->(Builtin.append_ #[t,u] o.type #[({ tmps:=tmps,defers:=ds }:Act).eval p,({ tmps:=tmps,defers:=ds }:Act).eval q]).run P w = .ok v w' ->
    AR (fun c=>c=g.β k∧0<g.cap k) w w'->(0<cap->(b=g.β k∧0<g.cap k)∨w.heap.size<=b)->(∀ S':Nat->Prop,(∀ c,S' c->AW F g s.ob c∨c=b)->GL S' w' b cap sz (hm.els++ys)) ->
    (v = .slice (some ⟨b,0,none⟩) (hm.els.length+ys.length) cap∨(cap=0∧v = .slice none 0 0)) ->
    ∃ v w' g',(execOp ({ tmps:=tmps,defers:=ds }:Act).eval o).run P w = .ok (.value v) w'∧FX F Iow w0 g0 o0 g' w' (Gt tmps o.dst v) vm ss' (Ay { s with vs:=s.vs.map (AV.kill k),st:=s.st.map (AV.kill k),ob:=CR k ⟨sz,hm.els++ys⟩ s.ob }
     ((hm.sz==sz)&&(((CM sz s.ob ax).sz==sz)&&((CM sz s.ob ax).ok&&decide ((hm.els.length+ys.length)*bytes<=140737488355328)))) (.own k) D):=by
   intro b cap v w' hbl hr hsm hb hnew hv;have h1:=h.reown (h2:=⟨sz,hm.els++ys⟩) (b:=b) (cap:=cap) ho hsm hb hnew hmsz.symm (by simp) (fun e=>hbl (by simp at e;simp[e])) s.ok;refine⟨v,w',⟨fun j=>if j=k then b else g.β j,fun j=>if j=k then cap else g.cap j⟩,hexec _ _ hr,?_⟩;have h2:=h1.toFR.put hnd hd hfit ((hm.sz==sz)&&(((CM sz s.ob ax).sz==sz)&&((CM sz s.ob ax).ok&&decide ((hm.els.length+ys.length)*bytes<=140737488355328)))) (v:=v) (a:=.own k) (fun _=>⟨⟨sz,hm.els++ys⟩,by simp[BF],by simpa using hv⟩);refine⟨h2,h1.same,fun j hj=>h1.hio j ?_,h1.fio,?_⟩
   ·revert hj;cases D<;>exact id
   ·have:=h1.par;revert this;cases D<;>exact id
  by_cases hroom:hm.els.length+ys.length<=g.cap k
  ·rcases Nat.eq_zero_or_pos (g.cap k) with hz|hz
   ·have hx0:hm.els=[]:=h.nil_els ho hz;have hy0:ys=[]:=List.length_eq_zero_iff.1 (by omega);subst hy0;have hnw:news = #[]:=Array.eq_empty_of_size_eq_zero (by simpa using hy.l);subst hnw;have hH:∀ S':Nat->Prop,GL S' w (g.β k) 0 sz (hm.els++[]):=fun S'=>⟨hsz1,by simp[hx0],fun i hi=>by simp[hx0] at hi,fun hp=>absurd hp (Nat.lt_irrefl _)⟩
    rcases hev with hev|⟨_,hev⟩
    ·have hr:=Km (P:=P) (w:=w) (w':=w) (ty:=o.type) (base:=some ⟨g.β k,0,none⟩) (n:=0) (cap:=0) ht hu hsz hy.n hy.c (by simp) (fun a e=>by simp[storeCells]) (fun e=>by cases e);exact fin (g.β k) 0 _ w (fun _=>⟨rfl,hz.symm⟩) (by rw[hev,hx0,hz];exact hr) (AR.refl _ _) (fun hp=>absurd hp (Nat.lt_irrefl _)) (fun S' _=>hH S') (.inl (by simp[hx0]))
    ·have hr:=Km (P:=P) (w:=w) (w':=w) (ty:=o.type) (base:=none) (n:=0) (cap:=0) ht hu hsz hy.n hy.c (by simp) (fun a e=>by cases e) (fun _=>rfl);exact fin (g.β k) 0 _ w (fun _=>⟨rfl,hz.symm⟩) (by rw[hev];exact hr) (AR.refl _ _) (fun hp=>absurd hp (Nat.lt_irrefl _)) (fun S' _=>hH S') (.inr ⟨rfl,by simp⟩)
   ·rcases hev with hev|⟨hz2,_⟩
    rotate_left
    ·omega
    obtain⟨arr,T,fz,hr,hf,hsize,hvr⟩:=hh.row hz;rw[hmsz] at hf hsize hvr
    have hbound:hm.els.length*sz+ys.length*sz<=arr.size:=by
     rw[hsize,← Nat.add_mul];exact Nat.mul_le_mul_right _ hroom
    obtain⟨w',arr',hrun,hsame,hb',hasz,hget⟩:=MC (P:=P) (g.β k) T fz news.toList (hm.els.length*sz) 0 arr w hr (hf.imp_right And.right) (by simp only[Array.length_toList,hy.l];omega) (wt hsz1 hy);have hr2:=Km (P:=P) (w:=w) (w':=w') (ty:=o.type) (base:=some ⟨g.β k,0,none⟩) (n:=hm.els.length) (cap:=g.cap k) ht hu hsz hy.n hy.c hroom (fun a e=>by cases e;rw[Fg,Nat.zero_add];exact hrun) (fun e=>by cases e);refine fin (g.β k) (g.cap k) _ w' (fun _=>⟨rfl,rfl⟩) (by rw[hev];exact hr2) (hsame.mono fun c _ e=>⟨e,hz⟩) (fun _=>.inl ⟨rfl,hz⟩) (fun S' hS=>?_) (.inl rfl)
    have hS2:∀ c,S' c->AW F g s.ob c:=fun c hc=>by
     rcases hS c hc with e|e
     ·exact e
     ·exact .inr ⟨k,⟨⟨hm,ho⟩,hz⟩,e.symm⟩
    have hmono:AR (AW F g s.ob) w w':=hsame.mono fun c _ e=>.inr ⟨k,⟨⟨hm,ho⟩,hz⟩,e.symm⟩
    refine⟨hsz1,by simpa using hroom,fun i hi=>?_,fun _=>⟨arr',T,fz,hb',by rw[hasz];exact hf,by rw[hasz,hsize],fun i j hi hj=>?_⟩⟩
    ·rw[Gy];rw[List.length_append] at hi;split
     ·rename_i hc;rw[← hmsz];exact hh.cells i hc
     ·exact hy.e _ (by omega)
    ·rw[List.length_append] at hi;rw[hget,Gy];simp only[Nat.add_zero,Array.length_toList,hy.l]
     by_cases hc:i<hm.els.length
     ·rw[if_neg (by have:=Oo hc hj;omega),if_pos hc];exact (hvr i j hc hj).mono hmono fun b _ c=>hS2 b c
     ·have hge:hm.els.length*sz<=i*sz:=Nat.mul_le_mul_right _ (by omega);have hlt:i*sz+j<(hm.els.length+ys.length)*sz:=Oo hi hj;rw[Nat.add_mul] at hlt;rw[if_pos (by omega),if_neg hc,Dk];have:=hy.r (i-hm.els.length) j (by omega) hj;rw[Nat.sub_mul,show i*sz-hm.els.length*sz+j=i*sz+j-hm.els.length*sz by omega] at this;exact this.mono hmono fun b _ c=>hS2 b c
  ·have hbase:∃ base,({ tmps:=tmps,defers:=ds }:Act).eval p = .slice base hm.els.length (g.cap k):=by
    rcases hev with hev|⟨hz,hev⟩
    ·exact⟨_,hev⟩
    ·exact⟨none,by rw[hev,hz,h.nil_els ho hz];rfl⟩
   obtain⟨base,hbase⟩:=hbase;have hxc:=hxd.c;rw[hbase] at hxc;have hg:=Qx (P:=P) (w:=w) (ty:=o.type) (base:=base) (n:=hm.els.length) (cap:=g.cap k) (olds:=oldsd) (news:=newsd) ht hu hsz hby hze hb1 hy.n hyd.c hxc (by omega) hyb;have hge:=grownCap_ge w (hm.els.length+ys.length) (g.cap k) e;refine fin w.heap.size (grownCap w (hm.els.length+ys.length) (g.cap k) e) _ _ (fun e0=>absurd hh.len (by omega)) (by rw[hbase];exact hg) ?_ (fun _=>.inr (Nat.le_refl _)) (fun S' hS=>dF (w:=w) (P:=P) (e:=e) (n:=0) hsz1 hzs hxd hyd hge hS) (.inl rfl);exact AR.mono (S:=fun _=>False) ((AR.drew _ _).trans (AR.alloc _ _ _)) fun _ _ c=>c.elim
def nh(P:Program)(vm ss:List Nat)(sz:Nat)(x hi:Src):Op->Bool
 | .slice t y none (some h) none=>BL vm ss y x&&(BL vm ss h hi&&(match oc P t with
  | some e=>UE P e==some sz && !(sz==0)
  | none=>false))
 | _=>false
theorem dI{els:List AV}{n i:Nat}(hi:i<n):(els.take n).getD i .any=els.getD i .any:=by
 rw[gdE,gdE,List.getElem?_take,if_pos hi]
theorem wi{s:St}{c:Bool}{a:AV}{D:Hv}(h:(Ay s c a D).ok=true):c=true:=by
 have:s.ok=true∧c=true:=by cases D<;>simpa[Ay] using h
 exact this.2
theorem FX.trunc(h:FX F Iow w0 g0 o0 g w tmps vm ss s)(hnd:Ns vm){D:Hv}(hd:Dt vm ss o.dst D=some ss')(hfit:∀ d,o.dst=some d->d<tmps.size){sz:Nat}{x hi:Src}(hc:nh P vm ss sz x hi o.op=true)
  (hok:(JJ s D sz (bJ (rd s hi)) (rd s x)).ok=true) :
  ∃ v w' g',(execOp ({ tmps:=tmps,defers:=ds }:Act).eval o).run P w = .ok (.value v) w'∧FX F Iow w0 g0 o0 g' w' (Gt tmps o.dst v) vm ss' (JJ s D sz (bJ (rd s hi)) (rd s x)):=by
 unfold nh at hc;split at hc
 ·rename_i t y hh he;simp only[baT] at hc;obtain⟨hs,hhh,hty⟩:=hc;split at hty
  ·rename_i e hsl;simp only[baT,beq_iff_eq] at hty;have hsz:=hty.1;have hu:=MA hsl;have hv:=h.toFR.src (ds:=ds) hs;revert hok;generalize hn:bJ (rd s hi)=n;generalize rd s x=a at hv;intro hok;cases a<;>simp only[JJ,fail] at hok<;>try (cases hok;done)
   rename_i k;obtain⟨hm,ho,hev⟩:=hv;simp only[JJ,ho,UH] at hok ⊢
   have hk:hm.sz=sz∧k%32≠31∧0<=n∧n<=(hm.els.length:Int):=by
    have:=wi hok;simp only[JG,baT,beq_iff_eq,dtE,Bool.not_eq_true',beq_eq_false_iff_ne] at this;exact⟨this.1,this.2.1,this.2.2.2.1,this.2.2.2.2⟩
   obtain⟨hmsz,hk31,h0,hb⟩:=hk;have hH:=h.home k hm ho
   have hb2:∃ kk,({ tmps:=tmps,defers:=ds }:Act).eval hh = .int kk n:=by
    have:=YX (h.toFR.src (ds:=ds) hhh) (by rw[hn];exact h0)
    rwa [hn] at this
   have hlen:=hH.len;have hrun:=Nn P w (isS:=true) (len:=hm.els.length) (cap:=g.cap k) (lo:=none) (hi:=some (({ tmps:=tmps,defers:=ds }:Act).eval hh)) (a:=0) (b:=n) rfl hb2 (Int.le_refl 0) h0 (by omega)
   have hNew:∀ S':Nat->Prop,(∀ c,S' c->AW F g s.ob c∨c=g.β k)->GL S' w (g.β k) (g.cap k) hm.sz (hm.els.take n.toNat):=by
    intro S' hS;refine⟨hH.pos,by rw[List.length_take];omega,fun i hi'=>?_,fun hp=>?_⟩
    ·rw[List.length_take] at hi';rw[dI (by omega)];exact hH.cells i (by omega)
    ·obtain⟨arr,T,fz,hr,hf,hsize,hvr⟩:=hH.row hp;refine⟨arr,T,fz,hr,hf,hsize,fun i j hi' hj=>?_⟩;rw[List.length_take] at hi';rw[dI (by omega)];refine (hvr i j (by omega) hj).mono (AR.refl _ _) fun b _ hb'=>?_
     rcases hS b hb' with e1|e1
     ·exact e1
     ·exact .inr ⟨k,⟨⟨hm,ho⟩,hp⟩,e1.symm⟩
   have h1:=h.reown' (h2:=⟨hm.sz,hm.els.take n.toNat⟩) (b:=g.β k) (cap:=g.cap k) ho (AR.refl _ w) (fun hp=>.inl ⟨rfl,hp⟩) hNew (h.par.new (b:=g.β k) (cap:=g.cap k) hk31) s.ok
   have hfin:∀ v,(execOp ({ tmps:=tmps,defers:=ds }:Act).eval o).run P w = .ok (.value v) w->(v = .slice (some ⟨g.β k,0,none⟩) n.toNat (g.cap k)∨(g.cap k=0∧v = .slice none 0 0)) ->
     ∃ v w' g',(execOp ({ tmps:=tmps,defers:=ds }:Act).eval o).run P w = .ok (.value v) w'∧FX F Iow w0 g0 o0 g' w' (Gt tmps o.dst v) vm ss' (Ay { s with vs:=s.vs.map (AV.kill k),st:=s.st.map (AV.kill k),ob:=CR k ⟨hm.sz,hm.els.take n.toNat⟩ s.ob }
      ((hm.sz==sz)&&((!(k%32==31))&&JG 0 n hm.els.length)) (.own k) D):=by
    intro v hr hv;refine⟨v,w,⟨fun j=>if j=k then g.β k else g.β j,fun j=>if j=k then g.cap k else g.cap j⟩,hr,?_⟩
    have h2:=h1.toFR.put hnd hd hfit ((hm.sz==sz)&&((!(k%32==31))&&JG 0 n hm.els.length)) (v:=v) (a:=.own k) (fun _=>⟨⟨hm.sz,hm.els.take n.toNat⟩,by simp[BF],by
     have e:(hm.els.take n.toNat).length=n.toNat:=by rw[List.length_take];omega
     simpa[e] using hv⟩)
    refine⟨h2,h1.same,fun j hj=>h1.hio j ?_,h1.fio,?_⟩
    ·revert hj;cases D<;>exact id
    ·have:=h1.par;revert this;cases D<;>exact id
   rcases hev with hev|⟨hz,hev⟩
   ·refine hfin (.slice (some ⟨g.β k,0,none⟩) n.toNat (g.cap k)) ?_ (.inl rfl);simp[execOp,he,Instr.sliceAt,Instr.slice,run_underlying hu,hev,hrun,EJ hsz,Fg]
   ·have hx0:hm.els.length=0:=by omega
    have hn0:n=0:=by omega
    refine hfin (.slice none 0 0) ?_ (.inr ⟨hz,rfl⟩);rw[hx0,hz,hn0] at hrun;simp[execOp,he,Instr.sliceAt,Instr.slice,run_underlying hu,hev,hrun,EJ hsz]
  ·cases hty
 ·cases hc
end
