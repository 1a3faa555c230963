/- Lemmas and walks, several texts in one. No condition. -/
import Derived.Calls
import Derived.KernelRfl
import Derived.Attr
import Derived.WalkKit
open Array renaming getElem?_eq_getElem->e8,length_toList->ff,size_setIfInBounds->fA,getElem?_eq_none->gb,size_append->iI,eq_empty_of_size_eq_zero->iR,toArray_toList->kb,range->ke,getElem_range->kf,getElem_map->kA,toList_map->l0
open BitVec renaming ofInt->fx
open Bool renaming true->b7,false->b9,or_eq_true->gk,not_eq_true'->h8
open Decidable renaming decide->cL
open Go renaming run_underlying->b8,execOp->bN,Program->bR,World->bS,undef->cA,TypeId->c',IntKind->fy,Operand->gf,Act->gg,heap_alloc_new->hC,grownCap->hD,Deferred->hT,BinOp->hV,run_loadCells->j0,loadCellsFrom->j1,resolve->j3,builtin->j4,part->j8,newRow->j9,eqGuard->k4,asIntOf->k5,storeCells->k8,invoke->k9,loadCells->ku,typeInfo->l8,bytesRow->l9,loadVar->lv,Field->lU,run_eqGuard_agg->mn
open Go.Builtin renaming append_->e6,firstCells->e9,len_->hI,lenOf->hX,zeroCells->ik,min2->lb,max2->lf
open Go.Conv renaming bytesToString->fm
open Go.Instr renaming sliceBounds->ga,sliceAt->h7,sureAddr->hQ,slice->hR,fill->ic,makeSlice->j2,sliceBound->kR,indexAt->ln,fieldAt->lr,field->lz
open Go.Op renaming stringOp->gj,bytesLess->h5,intCmp->hZ,intArith->j5,intBits->k3,eqFields->kz,equalIn->l2
open Go.Result renaming andThen_ok->cS
open Go.Sem renaming run_bind->e7,run_pure->gv
open Go.World renaming block_lt_of_cell?->hG,cell?->ka
open List renaming length_eq_zero_iff->dX,replicate->e5,all_eq_true->et,getD_cons_zero->eu,getElem_mem->ev,getElem?_eq_none->ew,getElem?_map->eL,map_cons->e',getD_cons_succ->gn,length_append->gw,getElem?_take->h4,length_take->hJ,getElem?_replicate->hK,getElem?_set_self->hM,length_nil->hO,getElem?_set_ne->hW,getElem_of_mem->hY,getElem?_drop->ir,length_cons->iZ,range->j7,flatMap_append->kp,getElem?_set->kI,zipIdx_cons->l1,mem_append->l4,length_map->l5,foldl_cons->l6,all_append->l7,all_cons->lu
open Nat renaming mul_le_mul_right->bX,zero_add->cI,le_refl->df,add_mul->d',add_assoc->fa,add_zero->fu,mul_comm->gr,lt_or_ge->gu,lt_of_lt_of_le->h6,lt_irrefl->h9,mod_eq_of_lt->hL,le_trans->hN,mul_add_mod->hP,eq_zero_or_pos->iB,zero_mul->k6,sub_self->k7,mul_one->kn,lt_or_gt_of_ne->kB,div_eq_of_lt->l3,mul_add_div->lg,add_comm->l',sub_mul->me
open Ne renaming symm->fI
open Option renaming some->bI,none->b',getD_some->iN,map_some->iS,isSome_iff_exists->j6
open Option.some renaming injEq->en
set_option linter.defProp false
set_option linter.unusedSimpArgs false
set_option linter.unusedVariables false
open Go.IntKind (i64 u64)
noncomputable section
namespace Go.Proofs.YtegmpdmpgmpiaaaGreatDoor
open Go
def gdE:=@List.getD_eq_getElem?_getD
def obS:=@Option.bind_some
def baT:=@Bool.and_eq_true
def geE:=@List.getElem?_eq_getElem
def bfT:=@Bool.false_eq_true
def tnC:=@Int.toNat_natCast
def agD:=@Array.getD_eq_getD_getElem?
def dtE:=@decide_eq_true_eq
theorem zX{α : Type _}{x : Option α}(h : x.isSome=b7): ∃ a, x=bI a := j6.1 h
inductive AV where
  | int (k:fy) (n:Int)
  | bool (b:Bool)
  | str (l:List UInt8)
  | cv (v:Value)
  | agg (cs:List AV)
  | tup (cs:List AV)
  | sl (sz:Nat) (els:List AV)
  | nilsl
  | ptr (sz:Nat) (els:List AV) (i off:Nat)
  | fn (f:Fn) (first caps:List AV)
  | own (k:Nat)
  | ref (k i off:Nat)
  | fresh (sz:Nat) (els:List AV)
  | mem (sz:Nat) (els:List AV) (ix:Nat)
  | opt (b:Bool) (a:AV)
  | any
  deriving Inhabited
def jV:List (Nat×(Array Value->Prop)) :=
 (3,fun cs=>cs=((j7 20).map fun i=>Value.int .u64 ((10^i:Nat):Int)).toArray) ::
 (1,fun cs=>∃ j p,cs = #[.iface j p]) ::
 (2,fun cs=>∃ j p,cs = #[.iface j p]) ::
  (0,fun cs=>∃ m,cs = #[.int .i64 m]) ::
  []
structure Hm where
  sz:Nat
  els:List AV
  deriving Inhabited
abbrev Cp:=List (Nat×Hm)
structure St where
  vs:List AV
  st:List AV
  ob:Cp
  ok:Bool
  deriving Inhabited
inductive Src where
  | v (n:Nat)
  | s (n:Nat)
  | c (a:AV)
  deriving Inhabited
inductive Md where
  | bor|io|mov
  deriving DecidableEq,Inhabited
structure Rs where
  ok:Bool
  r:AV
  outs:List AV
  deriving Inhabited
def Rs.bad:Rs:=⟨b9,.any,[]⟩
structure Ar where
  modes:List Md
  flat:Bool
  F:List AV->Rs
abbrev Kc:=Nat->Option Ar
inductive Jc where
  | mov (x:Src)
  | newnil (sz:Nat)
  | pick (c a b:Src)
  | alloc (z:AV)
  | box (x:Src)
  | build (z:List AV) (parts:List (Nat×Nat×Src))
  | mkSl (sz:Nat) (z:AV) (n:Nat) (parts:List (Nat×Src))
  | load (agg:Bool) (sz:Nat) (p:Src)
  | store (sz:Nat) (p x:Src)
  | nilck (x:Src)
  | bin (bl:Bool) (op:hV) (x y:Src)
  | eqA (neg:Bool) (ks:List Nat) (x y:Src)
  | un (op:UnOp) (x:Src)
  | conv (k:fy) (x:Src)
  | s2b (x:Src)
  | b2s (x:Src)
  | mkFn (f:Fn) (first caps:List Src)
  | make (sz bytes:Nat) (z:AV) (len cap:Src)
  | slice (sz:Nat) (x:Src) (lo hi:Option Src)
  | fldAddr (off:Nat) (p:Src)
  | fld (agg:Bool) (off sz:Nat) (x:Src)
  | ixAddr (sz:Nat) (x i:Src)
  | ixStr (x i:Src)
  | ext (x:Src) (i:Nat)
  | call (f:Nat) (args:List Src)
  | callp (f:Nat) (args:List Src)
  | callv (f:Src) (args:List Src)
  | len (str:Bool) (x:Src)
  | app (sz bytes:Nat) (z:AV) (s x:Src)
  | minmax (mx:Bool) (xs:List Src)
  | pur (a:Jc)
  | callw (f:Nat) (args:List Src)
  | flat (a:Jc)
  | trunc (sz:Nat) (x hi:Src)
  | movz (x:Src)
  | safe (ds:List Nat) (a:Jc)
  deriving Inhabited
inductive Ji where
  | no|push|var (n:Nat)|slot (n:Nat)
  deriving DecidableEq,Inhabited
structure Mb where
  dst:Ji
  key:Nat
  guard:Option (Src×Bool)
  op:Jc
  deriving Inhabited
inductive IR where
  | skip
  | region (draw:Bool) (is:List Mb)
  | test (draw:Bool) (is:List Mb) (c:Src) (a b:IR)
  | anyo (k:Nat) (is:List Mb) (alts:List (List Nat)) (a:IR)
  | seq (a b:IR)
  | cond (c:Src) (a b:IR)
  | block (id:Nat) (a:IR)
  | loop (keep out rt:List Bool) (a:IR)
  | mask (m:List Bool) (a:IR)
  | exit (id:Nat)
  | ret
  deriving Inhabited
inductive Ex where
  | norm|exit (id:Nat)|ret
  deriving DecidableEq,Inhabited
inductive oh where
  | t (n:Nat)
  | cell (agg:Bool) (sz:Nat) (p:Nat)
  deriving Inhabited
structure Bl where
  np:Nat
  nv:Nat
  body:IR
  res:List oh
  deriving Inhabited
def AV.cells:AV->List AV
  | .agg cs=>cs
  | .int k n=>[.int k n]
  | .bool b=>[.bool b]
  | .str l=>[.str l]
  | .cv v=>[.cv v]
  | .tup cs=>[.tup cs]
  | .sl sz els=>[.sl sz els]
  | .nilsl=>[.nilsl]
  | .ptr sz els i off=>[.ptr sz els i off]
  | .fn f a b=>[.fn f a b]
  | .own k=>[.own k]
  | .ref k i off=>[.ref k i off]
  | .fresh sz els=>[.fresh sz els]
  | .mem sz els i=>[.mem sz els i]
  | .opt b a=>[.opt b a]
  | .any=>[.any]
def AV.isAgg:AV->Bool
  | .agg _=>b7
  | _=>b9
def rd(s:St):Src->AV
  | .v n=>s.vs.getD n .any
  | .s n=>s.st.getD n .any
  | .c a=>a
def AK(k:Nat):Cp->Option Hm
  | []=>b'
  | p::r=>bif p.1==k then bI p.2 else AK k r
def DA(k:Nat)(h:Hm):Cp->Cp
  | []=>[(k,h)]
  | p::r=>bif p.1==k then (k,h)::r else bif cL (k<p.1) then (k,h)::p::r else p::DA k h r
def LQ(k:Nat):Cp->Cp
  | []=>[]
  | p::r=>bif p.1==k then LQ k r else p::LQ k r
def AV.key1:AV->List Nat
  | .own k=>[k]
  | .ref k _ _=>[k]
  | .int _ _=>[]
  | .bool _=>[]
  | .str _=>[]
  | .cv _=>[]
  | .agg _=>[]
  | .tup _=>[]
  | .sl _ _=>[]
  | .nilsl=>[]
  | .ptr _ _ _ _=>[]
  | .fn _ _ _=>[]
  | .fresh _ _=>[]
  | .mem _ _ _=>[]
  | .opt _ _=>[]
  | .any=>[]
def AV.keys:AV->List Nat
  | .own k=>[k]
  | .ref k _ _=>[k]
  | .fn _ fi ca=>(fi++ca).flatMap AV.key1
  | .tup cs=>cs.flatMap AV.key1
  | .opt _ a=>a.key1
  | .int _ _=>[]
  | .bool _=>[]
  | .str _=>[]
  | .cv _=>[]
  | .agg _=>[]
  | .sl _ _=>[]
  | .nilsl=>[]
  | .ptr _ _ _ _=>[]
  | .fresh _ _=>[]
  | .mem _ _ _=>[]
  | .any=>[]
def AV.names(k:Nat)(a:AV):Bool:=a.keys.any (· == k)
def AV.kill(k:Nat)(a:AV):AV:=bif a.names k then .any else a
def AV.fz1(k:Nat)(h:Hm):AV->AV
  | .own j=>bif j==k then .sl h.sz h.els else .own j
  | .ref j i off=>bif j==k then .ptr h.sz h.els i off else .ref j i off
  | .int k n=>.int k n
  | .bool b=>.bool b
  | .str l=>.str l
  | .cv v=>.cv v
  | .agg cs=>.agg cs
  | .tup cs=>.tup cs
  | .sl sz els=>.sl sz els
  | .nilsl=>.nilsl
  | .ptr sz els i off=>.ptr sz els i off
  | .fn f a b=>.fn f a b
  | .fresh sz els=>.fresh sz els
  | .mem sz els i=>.mem sz els i
  | .opt b a=>.opt b a
  | .any=>.any
def AV.fz(k:Nat)(h:Hm):AV->AV
  | .own j=>bif j==k then .sl h.sz h.els else .own j
  | .ref j i off=>bif j==k then .ptr h.sz h.els i off else .ref j i off
  | .fn f fi ca=>.fn f (fi.map (AV.fz1 k h)) (ca.map (AV.fz1 k h))
  | .tup cs=>.tup (cs.map (AV.fz1 k h))
  | .opt b a=>.opt b (a.fz1 k h)
  | .int k n=>.int k n
  | .bool b=>.bool b
  | .str l=>.str l
  | .cv v=>.cv v
  | .agg cs=>.agg cs
  | .sl sz els=>.sl sz els
  | .nilsl=>.nilsl
  | .ptr sz els i off=>.ptr sz els i off
  | .fresh sz els=>.fresh sz els
  | .mem sz els i=>.mem sz els i
  | .any=>.any
def freezeH(s:St)(k:Nat):Option Hm->St
  | some h=>{ s with vs:=s.vs.map (AV.fz k h),st:=s.st.map (AV.fz k h),ob:=LQ k s.ob }
  | none=>s
def freezeAll(s:St):List Nat->St
  | []=>s
  | k::r=>freezeAll (freezeH s k (AK k s.ob)) r
def vH:Option Hm->AV
  | some h=>.sl h.sz h.els
  | none=>.any
def jy(i off:Nat):Option Hm->AV
  | some h=>.ptr h.sz [h.els.getD i .any] 0 off
  | none=>.any
def AV.dv1(ob:Cp):AV->AV
  | .own k=>vH (AK k ob)
  | .ref k i off=>jy i off (AK k ob)
  | .int k n=>.int k n
  | .bool b=>.bool b
  | .str l=>.str l
  | .cv v=>.cv v
  | .agg cs=>.agg cs
  | .tup cs=>.tup cs
  | .sl sz els=>.sl sz els
  | .nilsl=>.nilsl
  | .ptr sz els i off=>.ptr sz [els.getD i .any] 0 off
  | .fn f a b=>.fn f a b
  | .fresh _ _=>.any
  | .mem _ _ _=>.any
  | .opt _ _=>.any
  | .any=>.any
def AV.dv(ob:Cp):AV->AV
  | .own k=>vH (AK k ob)
  | .ref k i off=>jy i off (AK k ob)
  | .fn f fi ca=>.fn f (fi.map (AV.dv1 ob)) (ca.map (AV.dv1 ob))
  | .int k n=>.int k n
  | .bool b=>.bool b
  | .str l=>.str l
  | .cv v=>.cv v
  | .agg cs=>.agg cs
  | .tup _=>.any
  | .sl sz els=>.sl sz els
  | .nilsl=>.nilsl
  | .ptr sz els i off=>.ptr sz [els.getD i .any] 0 off
  | .fresh _ _=>.any
  | .mem _ _ _=>.any
  | .opt _ _=>.any
  | .any=>.any
def AV.atom:AV->Bool
  | .int _ _=>b7
  | .bool _=>b7
  | .str _=>b7
  | .nilsl=>b7
  | .sl _ _=>b7
  | .ptr _ _ _ _=>b7
  | .fn _ fi ca=>(fi++ca).all (fun a=>a.key1.isEmpty)
  | .cv _=>b9
  | .agg _=>b9
  | .tup _=>b9
  | .own _=>b9
  | .ref _ _ _=>b9
  | .fresh _ _=>b9
  | .mem _ _ _=>b9
  | .opt _ _=>b9
  | .any=>b9
def AV.simple:AV->Bool
  | .int _ _=>b7
  | .bool _=>b7
  | .str _=>b7
  | .nilsl=>b7
  | .sl _ _=>b7
  | .ptr _ _ _ _=>b7
  | .agg _=>b7
  | .own _=>b7
  | .ref _ _ _=>b7
  | .fn _ _ _=>b9
  | .cv _=>b9
  | .tup _=>b9
  | .fresh _ _=>b9
  | .mem _ _ _=>b9
  | .opt _ _=>b9
  | .any=>b9
def AV.atoms(a:AV):Bool:=a.cells.all AV.atom
structure Mk where
  ok:Bool
  v:AV
  hs:Cp
  deriving Inhabited
def bad:Mk:=⟨b9,.any,[]⟩
def Ds(a:AV):Mk:=⟨b7,a,[]⟩
def Fp(c:Bool)(a:AV):Mk:=⟨c,a,[]⟩
def part(agg:Bool)(sz off:Nat)(el:AV):Mk :=
  match agg with
  | true=>⟨el.isAgg&&cL (off+sz<=el.cells.length),bif off==0&&sz==el.cells.length then el else .agg ((el.cells.drop off).take sz),[]⟩
  | false=>⟨cL (off<el.cells.length),el.cells.getD off .any,[]⟩
def EH:List AV->Nat->List AV->List AV
  | cs,_,[]=>cs
  | cs,off,x::r=>EH (cs.set off x) (off+1) r
def AV.like:AV->List AV->AV
  | .agg _,cs=>.agg cs
  | _,[x]=>x
  | _,_=>.any
def Jd:AV->AV
  | .opt _ a=>a
  | .int k n=>.int k n
  | .bool b=>.bool b
  | .str l=>.str l
  | .cv v=>.cv v
  | .agg cs=>.agg cs
  | .tup cs=>.tup cs
  | .sl sz els=>.sl sz els
  | .nilsl=>.nilsl
  | .ptr sz els i off=>.ptr sz els i off
  | .fn f a b=>.fn f a b
  | .own k=>.own k
  | .ref k i off=>.ref k i off
  | .fresh sz els=>.fresh sz els
  | .mem sz els i=>.mem sz els i
  | .any=>.any
def DQ(w:Bool):AV->Bool
  | .opt b _=>!w||b
  | .int _ _=>b7
  | .bool _=>b7
  | .str _=>b7
  | .cv _=>b7
  | .agg _=>b7
  | .tup _=>b7
  | .sl _ _=>b7
  | .nilsl=>b7
  | .ptr _ _ _ _=>b7
  | .fn _ _ _=>b7
  | .own _=>b7
  | .ref _ _ _=>b7
  | .fresh _ _=>b7
  | .mem _ _ _=>b7
  | .any=>b7
def Yo(c:Bool):AV->AV->AV
  | .bool p,.bool q=>.bool (bif c then p else q)
  | .int k p,.int j q=>bif k==j then .int k (bif c then p else q) else .any
  | .str p,.str q=>.str (bif c then p else q)
  | x,y=>bif c then x else y
def NV(w:Bool)(a b:AV):AV->Mk
  | .bool c=>Fp (DQ (w&&c) a&&DQ (w && !c) b) (Yo c (Jd a) (Jd b))
  | _=>bad
def nz(y:Int):Bool:=!(y==0)
def SL(y:Int):Bool:=cL (0<=y)
def CN(m n:Nat):Bool:=cL (m+n<=9223372036854775807)
def DH(n b:Nat):Bool:=cL (n*b<=140737488355328)
def AJd(n:Int)(b:Nat):Bool:=cL (0<=n)&&(cL (1<=b)&&cL (n*b<=281474976710656))
def Nv(op:hV)(k:fy)(x y:Int):Mk :=
  match op with
  | .add=>Ds (.int k (k.wrap (x+y)))
  | .sub=>Ds (.int k (k.wrap (x-y)))
  | .mul=>Ds (.int k (k.wrap (x*y)))
  | .quo=>Fp (nz y) (.int k (k.wrap (x.tdiv y)))
  | .rem=>Fp (nz y) (.int k (x.tmod y))
  | .and=>Ds (.int k (k.wrap (fx k.bits x &&& fx k.bits y).toNat))
  | .or=>Ds (.int k (k.wrap (fx k.bits x ||| fx k.bits y).toNat))
  | .xor=>Ds (.int k (k.wrap (fx k.bits x ^^^ fx k.bits y).toNat))
  | .andNot=>Ds (.int k (k.wrap (fx k.bits x &&& ~~~fx k.bits y).toNat))
  | .eql=>Ds (.bool (x==y))
  | .neq=>Ds (.bool (!(x==y)))
  | .lss=>Ds (.bool (cL (x<y)))
  | .leq=>Ds (.bool (cL (x<=y)))
  | .gtr=>Ds (.bool (cL (y<x)))
  | .geq=>Ds (.bool (cL (y<=x)))
  | .shl=>bad
  | .shr=>bad
def Ve(op:hV)(x y:List UInt8):Mk :=
  match op with
  | .add=>Fp (CN x.length y.length) (.str (x++y))
  | .eql=>Ds (.bool (x==y))
  | .neq=>Ds (.bool (!(x==y)))
  | .lss=>Ds (.bool (h5 x y))
  | .leq=>Ds (.bool (h5 x y||x==y))
  | .gtr=>Ds (.bool (!(h5 x y||x==y)))
  | .geq=>Ds (.bool (!Op.bytesLess x y))
  | _=>bad
def fH(op:hV)(x y:Bool):Mk :=
  match op with
  | .eql=>Ds (.bool (x==y))
  | .neq=>Ds (.bool (!(x==y)))
  | _=>bad
def er(op:hV)(k:fy)(x y:Int):Mk :=
  match op with
  | .shl=>Fp (SL y) (.int k (k.wrap (x*2^(min y.toNat k.bits))))
  | .shr=>Fp (SL y) (.int k (x.fdiv (2^(min y.toNat k.bits))))
  | _=>bad
def AJk:hV->Bool
  | .shl=>b7
  | .shr=>b7
  | _=>b9
def Gq(c:Bool)(m:Mk):Mk:=⟨c&&m.ok,m.v,m.hs⟩
def Zx(bl:Bool)(op:hV):AV->AV->Mk
  | .int k x,.int j y=>bif AJk op then er op k x y else Gq (k==j) (Nv op k x y)
  | .str x,.str y=>Ve op x y
  | .bool x,.bool y=>Gq bl (fH op x y)
  | _,_=>bad
def eq1:AV->AV->Bool
  | .int _ x,.int _ y=>x==y
  | .bool x,.bool y=>x==y
  | .str x,.str y=>x==y
  | _,_=>b9
def eY(n:Nat):AV->AV->Bool
  | .int k _,.int j _=>(n==1)&&(k==j)
  | .bool _,.bool _=>n==0
  | .str _,.str _=>n==2
  | _,_=>b9
def ML:List AV->List AV->Bool
  | a::r,b::q=>eq1 a b&&ML r q
  | _,_=>b7
def JS:List Nat->List AV->List AV->Bool
  | n::i,a::r,b::q=>eY n a b&&JS i r q
  | [],[],[]=>b7
  | _,_,_=>b9
def RN(neg:Bool)(ks:List Nat):AV->AV->Mk
  | .agg a,.agg b=>Fp (JS ks a b) (.bool (bif neg then !ML a b else ML a b))
  | _,_=>bad
def zW(op:UnOp):AV->Mk
  | .int k n=>match op with
    | .neg=>Ds (.int k (k.wrap (0-n)))
    | _=>bad
  | .bool b=>match op with
    | .not=>Ds (.bool (!b))
    | _=>bad
  | _=>bad
def Fm(c:UInt8):AV:=.int .u8 (c.toNat:Int)
def QH:AV->UInt8
  | .int _ n=>UInt8.ofNat n.toNat
  | _=>0
def Ix:AV->Bool
  | .int .u8 _=>b7
  | _=>b9
def bz:AV->Int
  | .int _ n=>n
  | _=>-1
def AU(i:Int)(n:Nat):Bool:=cL (0<=i)&&cL (i<(n:Int))
def kM(agg:Bool)(sz i off:Nat):Option Hm->Mk
  | some h=>part agg sz off (h.els.getD i .any)
  | none=>bad
def OE(ob:Cp)(agg:Bool)(sz:Nat):AV->Mk
  | .ref k i off=>kM agg sz i off (AK k ob)
  | .ptr _ els i off=>part agg sz off (els.getD i .any)
  | _=>bad
def OX:AV->Mk
  | .ref k i off=>Ds (.ref k i off)
  | .ptr sz els i off=>Ds (.ptr sz els i off)
  | .fn (.func f) a b=>Ds (.fn (.func f) a b)
  | _=>bad
def Zh(k:fy):AV->Mk
  | .int _ n=>Ds (.int k (k.wrap n))
  | _=>bad
def Bh(d:Nat):Nat:=32*d
def ml(k:Nat):AV->Mk
  | .str l=>⟨b7,.own k,[(k,⟨1,l.map Fm⟩)]⟩
  | _=>bad
def ja(els:List AV):Mk:=Fp (els.all Ix) (.str (els.map QH))
def pO:Option Hm->Mk
  | some h=>ja h.els
  | none=>bad
def XU(ob:Cp):AV->Mk
  | .sl _ els=>ja els
  | .nilsl=>Ds (.str [])
  | .own k=>pO (AK k ob)
  | _=>bad
def pk:Option Hm->Mk
  | some h=>Ds (.int .i64 (h.els.length:Int))
  | none=>bad
def XP(ob:Cp)(st:Bool):AV->Mk
  | .str l=>Fp st (.int .i64 (l.length:Int))
  | .sl _ els=>Fp (!st) (.int .i64 (els.length:Int))
  | .nilsl=>Fp (!st) (.int .i64 0)
  | .own k=>Gq (!st) (pk (AK k ob))
  | _=>bad
def KR(d:Int):Option AV->Int
  | some a=>bz a
  | none=>d
def If(a b:Int)(n:Nat):Bool:=cL (0<=a)&&(cL (a<=b)&&cL (b<=(n:Int)))
def cut{α:Type}(l:List α)(a b:Int):List α:=(l.take b.toNat).drop a.toNat
def NT(sz0:Nat)(lo hi:Option AV):AV->Mk
  | .str l=>Fp ((sz0==0)&&If (KR 0 lo) (KR l.length hi) l.length) (.str (cut l (KR 0 lo) (KR l.length hi)))
  | .sl sz els=>Fp ((sz==sz0)&&If (KR 0 lo) (KR els.length hi) els.length) (.sl sz (cut els (KR 0 lo) (KR els.length hi)))
  | .nilsl=>Fp (!(sz0==0)&&If (KR 0 lo) (KR 0 hi) 0) .nilsl
  | _=>bad
def MV(off:Nat):AV->Mk
  | .ref k i o=>Ds (.ref k i (o+off))
  | .ptr sz els i o=>Ds (.ptr sz els i (o+off))
  | _=>bad
def pq(sz0 k:Nat)(i:Int):Option Hm->Mk
  | some h=>Fp ((h.sz==sz0)&&AU i h.els.length) (.ref k i.toNat 0)
  | none=>bad
def LT(ob:Cp)(sz0:Nat)(i:Int):AV->Mk
  | .own k=>pq sz0 k i (AK k ob)
  | .sl sz els=>Fp ((sz==sz0)&&AU i els.length) (.ptr sz [els.getD i.toNat .any] 0 0)
  | _=>bad
def Qx(i:Int):AV->Mk
  | .str l=>Fp (AU i l.length) (Fm (l.getD i.toNat 0))
  | _=>bad
def lK(i:Nat):AV->Mk
  | .tup cs=>Fp (cL (i<cs.length)) (cs.getD i .any)
  | _=>bad
def XT(k:Nat)(a:AV):Mk:=⟨cL (1<=a.cells.length)&&a.atoms,.ref k 0 0,[(k,⟨a.cells.length,[a]⟩)]⟩
def Za:List AV->List (Nat×Nat×AV)->List AV
  | cs,[]=>cs
  | cs,p::r=>Za (EH cs p.1 p.2.2.cells) r
def RI(n:Nat):List (Nat×Nat×AV)->Bool
  | []=>b7
  | p::r=>(p.2.2.cells.length==p.2.1)&&(cL (p.1+p.2.1<=n)&&(p.2.2.atoms&&RI n r))
def OS:List AV->List (Nat×AV)->List AV
  | els,[]=>els
  | els,p::r=>OS (els.set p.1 p.2) r
def setOk(sz n:Nat):List (Nat×AV)->Bool
  | []=>b7
  | p::r=>decide (p.1<n)&&((p.2.cells.length==sz)&&(p.2.atoms&&setOk sz n r))
def mm2(mx:Bool):AV->AV->AV
  | .int k x,.int _ y=>.int k (bif mx then (if x<y then y else x) else (if y<x then y else x))
  | _,_=>.any
def WJ(mx:Bool):AV->List AV->AV
  | a,[]=>a
  | a,b::r=>WJ mx (mm2 mx a b) r
def fk(k:fy):AV->Bool
  | .int j _=>k==j
  | _=>b9
def wb(mx:Bool):List AV->Mk
  | .int k n::r=>Fp (r.all (fk k)) (WJ mx (.int k n) r)
  | _=>bad
def Yr(k sz bytes:Nat)(z:AV):AV->AV->Mk
  | .int _ n,.int _ m=>⟨(n==m)&&AJd n bytes,.own k,[(k,⟨sz,e5 n.toNat z⟩)]⟩
  | _,_=>bad
def AQ(r:Src->AV)(ob:Cp)(d:Nat):Jc->Mk
  | .mov x=>Ds (r x)
  | .newnil sz=>⟨b7,.own (Bh d),[(Bh d,⟨sz,[]⟩)]⟩
  | .alloc z=>XT (Bh d) z
  | .box x=>XT (Bh d) (r x)
  | .build z ps=>Fp (RI z.length (ps.map fun p=>(p.1,p.2.1,r p.2.2))) (.agg (Za z (ps.map fun p=>(p.1,p.2.1,r p.2.2))))
  | .mkSl sz z n ps=>⟨setOk sz n (ps.map fun p=>(p.1,r p.2)),.own (Bh d),[(Bh d,⟨sz,OS (e5 n z) (ps.map fun p=>(p.1,r p.2))⟩)]⟩
  | .load agg sz p=>OE ob agg sz (r p)
  | .nilck x=>OX (r x)
  | .bin bl op x y=>Zx bl op (r x) (r y)
  | .eqA neg ks x y=>RN neg ks (r x) (r y)
  | .un op x=>zW op (r x)
  | .conv k x=>Zh k (r x)
  | .b2s x=>XU ob (r x)
  | .s2b x=>ml (Bh d) (r x)
  | .mkFn f fi ca=>Fp ((fi.map r++ca.map r).all AV.simple) (.fn f (fi.map r) (ca.map r))
  | .make sz bytes z l c=>Yr (Bh d) sz bytes z (r l) (r c)
  | .slice sz x lo hi=>NT sz (lo.map r) (hi.map r) (r x)
  | .fldAddr off p=>MV off (r p)
  | .fld agg off sz x=>Gq (r x).isAgg (part agg sz off (r x))
  | .ixAddr sz x i=>LT ob sz (bz (r i)) (r x)
  | .ixStr x i=>Qx (bz (r i)) (r x)
  | .ext x i=>lK i (r x)
  | .len st x=>XP ob st (r x)
  | .minmax mx xs=>wb mx (xs.map r)
  | .pick _ _ _=>bad
  | .store _ _ _=>bad
  | .call _ _=>bad
  | .callp _ _=>bad
  | .callv _ _=>bad
  | .app _ _ _ _ _=>bad
  | .pur _=>bad
  | .callw _ _=>bad
  | .flat _=>bad
  | .trunc _ _ _=>bad
  | .movz _=>bad
  | .safe _ _=>bad
def tj(h:Hm):AV->AV
  | .own _=>.sl h.sz h.els
  | .ref _ i off=>.ptr h.sz h.els i off
  | _=>.any
def xO(v:AV):Cp->AV
  | []=>v
  | p::_=>tj p.2 v
def SP(m:Mk):Mk:=⟨m.ok,xO m.v m.hs,[]⟩
def Nq(d:Nat):Nat->List AV->List AV
  | _,[]=>[]
  | j,.fresh _ _::r=>.own (Bh d+j)::Nq d (j+1) r
  | j,.mem _ _ _::r=>.ref (Bh d+j) 0 0::Nq d (j+1) r
  | j,x::r=>x::Nq d (j+1) r
def Lh(d:Nat):Nat->List AV->Cp
  | _,[]=>[]
  | j,.fresh sz els::r=>(Bh d+j,⟨sz,els⟩)::Lh d (j+1) r
  | j,.mem sz els _::r=>(Bh d+j,⟨sz,els⟩)::Lh d (j+1) r
  | j,_::r=>Lh d (j+1) r
def adopt(d:Nat):AV->Mk
  | .fresh sz els=>⟨b7,.own (Bh d),[(Bh d,⟨sz,els⟩)]⟩
  | .tup cs=>⟨cL (cs.length<31),.tup (Nq d 1 cs),Lh d 1 cs⟩
  | .int k n=>Ds (.int k n)
  | .bool b=>Ds (.bool b)
  | .str l=>Ds (.str l)
  | .cv v=>Ds (.cv v)
  | .agg cs=>Ds (.agg cs)
  | .sl sz els=>Ds (.sl sz els)
  | .nilsl=>Ds .nilsl
  | .ptr sz els i off=>Ds (.ptr sz els i off)
  | .fn f a b=>Fp ((a++b).all (fun x=>x.key1.isEmpty)) (.fn f a b)
  | .own _=>bad
  | .ref _ _ _=>bad
  | .mem sz els _=>⟨b7,.ref (Bh d) 0 0,[(Bh d,⟨sz,els⟩)]⟩
  | .opt _ _=>bad
  | .any=>Ds .any
def aF:AV->Mk
  | .fresh sz els=>Ds (.sl sz els)
  | .mem sz els _=>Ds (.ptr sz els 0 0)
  | r=>adopt 0 r
def Fo(ob:Cp):Cp->Cp
  | []=>ob
  | p::r=>Fo (DA p.1 p.2 ob) r
def BE(s:St)(c:Bool)(a:AV):Ji->St
  | .no=>{ s with ok:=s.ok&&c }
  | .push=>{ s with st:=a::s.st,ok:=s.ok&&c }
  | .var n=>{ s with vs:=s.vs.set n a,ok:=s.ok&&c }
  | .slot n=>{ s with st:=s.st.set n a,ok:=s.ok&&c }
def Zm(d:Nat)(a:AV):AV:=bif a.keys.any (fun k=>k/32==d) then .any else a
def Ej(d:Nat):Cp->Cp
  | []=>[]
  | p::r=>bif p.1/32==d then Ej d r else p::Ej d r
def RB(d:Nat):Cp->Bool
  | []=>b9
  | p::r=>(p.1/32==d)||RB d r
def clear(s:St)(d:Nat):St :=
  bif RB d s.ob then { s with vs:=s.vs.map (Zm d),st:=s.st.map (Zm d),ob:=Ej d s.ob } else s
def Sk(s:St)(hs:Cp):St:={ s with ob:=Fo s.ob hs }
def UG(s:St)(key:Nat)(dst:Ji)(c:Bool)(a:AV):Cp->St
  | []=>BE s c a dst
  | h::hs=>BE (Sk (clear s key) (h::hs)) c a dst
def Dr(s:St)(key:Nat)(dst:Ji)(m:Mk):St:=UG s key dst m.ok m.v m.hs
def fail(s:St):St:={ s with ok:=false }
structure Cal where
  ok:Bool
  f:Nat
  args:List AV
def Kg(args:List AV):AV->Cal
  | .fn (.func g) fi ca=>⟨b7,g,fi++args++ca⟩
  | _=>⟨b9,0,[]⟩
def nM(i:Nat):Option Hm->AV
  | some h=>.mem h.sz h.els i
  | none=>.any
def TR:Option Hm->AV
  | some h=>.fresh h.sz h.els
  | none=>.any
def LA(ob:Cp):AV->AV
  | .own k=>TR (AK k ob)
  | .ref k i 0=>nM i (AK k ob)
  | .nilsl=>.nilsl
  | _=>.any
def Hk:AV->Bool
  | .fresh _ _=>b7
  | .mem _ _ _=>b7
  | .int _ _=>b9
  | .bool _=>b9
  | .str _=>b9
  | .cv _=>b9
  | .agg _=>b9
  | .tup _=>b9
  | .sl _ _=>b9
  | .nilsl=>b9
  | .ptr _ _ _ _=>b9
  | .fn _ _ _=>b9
  | .own _=>b9
  | .ref _ _ _=>b9
  | .opt _ _=>b9
  | .any=>b9
def ZD:AV->Bool
  | .nilsl=>b7
  | _=>b9
def Fh:List Md->List AV->Bool
  | .bor::ms,a::i=>!Hk a&&Fh ms i
  | .io::ms,a::i=>Hk a&&Fh ms i
  | .mov::ms,a::i=>(Hk a||ZD a)&&Fh ms i
  | [],[]=>b7
  | _,_=>b9
def EZ(ob:Cp):Md->AV->AV
  | .bor,a=>a.dv ob
  | .io,a=>LA ob a
  | .mov,a=>LA ob a
def Bc(ob:Cp):List Md->List AV->List AV
  | m::ms,a::i=>EZ ob m a::Bc ob ms i
  | _,_=>[]
def Bd:List Md->List AV->List Nat
  | .bor::ms,_::i=>Bd ms i
  | .io::ms,a::i=>a.key1++Bd ms i
  | .mov::ms,a::i=>a.key1++Bd ms i
  | _,_=>[]
def FJ:List Md->List AV->List Nat
  | .bor::ms,a::i=>a.keys++FJ ms i
  | .io::ms,_::i=>FJ ms i
  | .mov::ms,_::i=>FJ ms i
  | _,_=>[]
def Eb:List Nat->Bool
  | []=>b7
  | k::r=>!r.any (· == k)&&Eb r
def apart(ks i:List Nat):Bool:=ks.all fun k=>!i.any (· == k)
def killAll(s:St)(k:Nat):St:={ s with vs:=s.vs.map (AV.kill k),st:=s.st.map (AV.kill k),ob:=LQ k s.ob }
def Ag(s:St):List Md->List AV->List AV->St
  | .bor::ms,_::i,_::os=>Ag s ms i os
  | .io::ms,.own k::i,.fresh sz els::os=>Ag { s with ob:=DA k ⟨sz,els⟩ s.ob } ms i os
  | .io::ms,.ref k _ 0::i,.mem sz els _::os=>Ag { s with ob:=DA k ⟨sz,els⟩ s.ob } ms i os
  | .mov::ms,.own k::i,_::os=>Ag (killAll s k) ms i os
  | .mov::ms,.nilsl::i,_::os=>Ag s ms i os
  | [],[],[]=>s
  | _,_,_=>fail s
def Tf(C:Ar)(s:St)(args:List AV):St:=bif C.flat then s else freezeAll s (FJ C.modes args)
def PR(s:St)(key:Nat)(dst:Ji)(modes:List Md)(args:List AV)(c:Bool)(q:Rs):St :=
  Dr (Ag s modes args q.outs) key dst (Gq (c&&q.ok) (adopt key q.r))
def OM(s:St)(key:Nat)(dst:Ji)(args:List AV):Option Ar->St
  | some C=>PR (Tf C s args) key dst C.modes args
      (Fh C.modes (Bc s.ob C.modes args)&&((C.modes.length==args.length)&&(Eb (Bd C.modes args)&&apart (Bd C.modes args) (FJ C.modes args)))) (C.F (Bc s.ob C.modes args))
  | none=>fail s
def Km(T:Kc)(s:St)(key:Nat)(dst:Ji)(c:Cal):St :=
  OM { s with ok:=s.ok&&c.ok } key dst c.args (T c.f)
def Zn(ob:Cp)(args:List AV):Option Ar->Mk
  | some C=>Gq ((C.modes.length==args.length)&&(Fh C.modes (Bc ob C.modes args)&&C.modes.all (· == .bor)&&((C.flat||args.all (fun a=>a.keys.isEmpty))&&(C.F (Bc ob C.modes args)).ok)))
      (aF (C.F (Bc ob C.modes args)).r)
  | none=>bad
def DI(T:Kc)(ob:Cp)(c:Cal):Mk:=Gq c.ok (Zn ob c.args (T c.f))
def Tk(s:St)(k i sz off:Nat)(x el:AV)(h:Hm):St :=
  { s with ob:=DA k ⟨h.sz,h.els.set i (el.like (EH el.cells off x.cells))⟩ s.ob,ok:=s.ok&&(cL (i<h.els.length)&&((x.cells.length==sz)&&(cL (off+sz<=el.cells.length)&&x.atoms))) }
def Sn(s:St)(k i sz off:Nat)(x:AV):Option Hm->St
  | some h=>Tk s k i sz off x (h.els.getD i .any) h
  | none=>fail s
def LJ(s:St)(sz:Nat)(x:AV):AV->St
  | .ref k i off=>Sn s k i sz off x (AK k s.ob)
  | _=>fail s
structure Ap where
  ok:Bool
  sz:Nat
  els:List AV
def dK:Option Hm->Ap
  | some h=>⟨b7,h.sz,h.els⟩
  | none=>⟨b9,0,[]⟩
def Cv(sz:Nat)(ob:Cp):AV->Ap
  | .str l=>⟨sz==1,sz,l.map Fm⟩
  | .sl sz2 els=>⟨sz2==sz,sz,els⟩
  | .nilsl=>⟨b7,sz,[]⟩
  | .own k=>dK (AK k ob)
  | _=>⟨b9,0,[]⟩
def WX(s:St)(key:Nat)(dst:Ji)(sz bytes:Nat)(y:Ap)(k:Nat):Option Hm->St
  | some h=>BE { s with vs:=s.vs.map (AV.kill k),st:=s.st.map (AV.kill k),ob:=DA k ⟨sz,h.els++y.els⟩ s.ob }
      ((h.sz==sz)&&((y.sz==sz)&&(y.ok&&DH (h.els.length+y.els.length) bytes))) (.own k) dst
  | none=>fail s
def TX(s:St)(key:Nat)(dst:Ji)(sz bytes:Nat)(y:Ap):AV->St
  | .own k=>WX s key dst sz bytes y k (AK k s.ob)
  | .nilsl=>Dr s key dst ⟨(y.sz==sz)&&(y.ok&&DH y.els.length bytes),.own (Bh key),[(Bh key,⟨sz,y.els⟩)]⟩
  | _=>fail s
def DO(s:St):Jc->List Nat
  | .box x=>(rd s x).keys
  | .build _ ps=>ps.flatMap fun p=>(rd s p.2.2).keys
  | .mkSl _ _ _ ps=>ps.flatMap fun p=>(rd s p.2).keys
  | .store _ _ x=>(rd s x).keys
  | .slice _ x _ _=>(rd s x).keys
  | _=>[]
def AV.lone:AV->Bool
  | .int _ _=>b7
  | .bool _=>b7
  | .str _=>b7
  | .nilsl=>b7
  | .sl _ _=>b7
  | .ptr _ _ _ _=>b7
  | .agg _=>b7
  | .own _=>b7
  | .ref _ _ _=>b7
  | .cv _=>b7
  | .any=>b7
  | .fn _ fi ca=>(fi++ca).all (fun a=>a.key1.isEmpty)
  | .tup _=>b9
  | .fresh _ _=>b9
  | .mem _ _ _=>b9
  | .opt _ _=>b9
def Ky(m:Mk):Mk:=⟨m.ok&&(m.hs.isEmpty&&m.v.lone),m.v,[]⟩
def BO:Jc->List Src
  | .box x=>[x]
  | .build _ ps=>ps.map fun p=>p.2.2
  | .mkSl _ _ _ ps=>ps.map fun p=>p.2
  | .s2b x=>[x]
  | .make _ _ _ l c=>[l,c]
  | .mov x=>[x]
  | .load _ _ p=>[p]
  | .nilck x=>[x]
  | .bin _ _ x y=>[x,y]
  | .eqA _ _ x y=>[x,y]
  | .un _ x=>[x]
  | .conv _ x=>[x]
  | .b2s x=>[x]
  | .slice _ x lo hi=>x::(lo.toList++hi.toList)
  | .fldAddr _ p=>[p]
  | .fld _ _ _ x=>[x]
  | .ixAddr _ x i=>[x,i]
  | .ixStr x i=>[x,i]
  | .ext x _=>[x]
  | .len _ x=>[x]
  | .minmax _ xs=>xs
  | .call _ args=>args
  | .callv f args=>f::args
  | .trunc _ x hi=>[x,hi]
  | .movz x=>[x]
  | _=>[]
def Ax:Jc->Bool
  | .alloc _=>b7
  | .box _=>b7
  | .build _ _=>b7
  | .mkSl _ _ _ _=>b7
  | .s2b _=>b7
  | .make _ _ _ _ _=>b7
  | .mov _=>b7
  | .load _ _ _=>b7
  | .nilck _=>b7
  | .bin _ _ _ _=>b7
  | .eqA _ _ _ _=>b7
  | .un _ _=>b7
  | .conv _ _=>b7
  | .b2s _=>b7
  | .slice _ _ _ _=>b7
  | .fldAddr _ _=>b7
  | .fld _ _ _ _=>b7
  | .ixAddr _ _ _=>b7
  | .ixStr _ _=>b7
  | .ext _ _=>b7
  | .len _ _=>b7
  | .minmax _ _=>b7
  | .call _ _=>b7
  | .callv _ _=>b7
  | _=>b9
def KP(T:Kc)(s:St)(key:Nat):Jc->Mk
  | .call f args=>Ky (DI T s.ob ⟨b7,f,args.map (rd s)⟩)
  | .callv f args=>Ky (DI T s.ob (Kg (args.map (rd s)) (rd s f)))
  | op=>bif Ax op then Ky (SP (AQ (rd s) s.ob key op)) else bad
def Du:AV->Bool
  | .int _ _=>b7
  | .bool _=>b7
  | .str _=>b7
  | .cv _=>b9
  | .agg _=>b9
  | .tup _=>b9
  | .sl _ _=>b9
  | .nilsl=>b9
  | .ptr _ _ _ _=>b9
  | .fn _ _ _=>b9
  | .own _=>b9
  | .ref _ _ _=>b9
  | .fresh _ _=>b9
  | .mem _ _ _=>b9
  | .opt _ _=>b9
  | .any=>b9
def Jv(T:Kc)(r:Src->AV)(key:Nat):Jc->Mk
  | .callp f args=>Ky (DI T [] ⟨b7,f,args.map r⟩)
  | .pur (.slice sz x lo hi)=>Ky (SP (AQ r [] key (.slice sz x lo hi)))
  | .mov x=>AQ r [] key (.mov x)
  | .bin bl op x y=>AQ r [] key (.bin bl op x y)
  | .un op x=>AQ r [] key (.un op x)
  | .conv k x=>AQ r [] key (.conv k x)
  | .ixStr x i=>AQ r [] key (.ixStr x i)
  | .len st x=>AQ r [] key (.len st x)
  | _=>bad
def FZ:Jc->List Src
  | .callp _ args=>args
  | .pur a=>BO a
  | a=>BO a
def OI(b:Bool)(m:Mk):Mk:=bif b&&(m.hs.isEmpty&&Du m.v) then ⟨m.ok,m.v,[]⟩ else bad
def VZ(s:St)(dst:Ji)(sz:Nat)(n:Int)(k:Nat):Option Hm->St
  | some h=>BE { s with vs:=s.vs.map (AV.kill k),st:=s.st.map (AV.kill k),ob:=DA k ⟨h.sz,h.els.take n.toNat⟩ s.ob }
      ((h.sz==sz)&&((!(k%32==31))&&If 0 n h.els.length)) (.own k) dst
  | none=>fail s
def LI(s:St)(dst:Ji)(sz:Nat)(n:Int):AV->St
  | .own k=>VZ s dst sz n k (AK k s.ob)
  | _=>fail s
def Fy:Jc->Bool
  | .mov _=>b7
  | .load _ _ _=>b7
  | .nilck _=>b7
  | .bin _ _ _ _=>b7
  | .eqA _ _ _ _=>b7
  | .un _ _=>b7
  | .conv _ _=>b7
  | .b2s _=>b7
  | .mkFn _ _ _=>b7
  | .fldAddr _ _=>b7
  | .fld _ _ _ _=>b7
  | .ixAddr _ _ _=>b7
  | .ixStr _ _=>b7
  | .ext _ _=>b7
  | .len _ _=>b7
  | .minmax _ _=>b7
  | _=>b9
def Qu(T:Kc)(r:Src->AV)(ob:Cp)(key:Nat):Jc->Mk
  | .call f args=>Ky (DI T ob ⟨b7,f,args.map r⟩)
  | .callv f args=>Ky (DI T ob (Kg (args.map r) (r f)))
  | op=>bif Ax op then Ky (SP (AQ r ob key op)) else bad
def KO(T:Kc)(r:Src->AV)(ob:Cp)(key:Nat):Jc->Mk
  | .pur (.callv _ _)=>bad
  | .pur a=>Qu T r ob key a
  | .pick c a b=>NV b7 (r a) (r b) (r c)
  | .callp f args=>Ky (DI T ob ⟨b7,f,args.map r⟩)
  | op=>bif Fy op then AQ r ob key op else bad
def EW:Jc->List Src
  | .mkFn _ fi ca=>fi++ca
  | .pick c a b=>[c,a,b]
  | .callp _ args=>args
  | .pur a=>BO a
  | a=>BO a
def Ll:AV->Bool
  | .any=>b7
  | .int _ _=>b9
  | .bool _=>b9
  | .str _=>b9
  | .cv _=>b9
  | .agg _=>b9
  | .tup _=>b9
  | .sl _ _=>b9
  | .nilsl=>b9
  | .ptr _ _ _ _=>b9
  | .fn _ _ _=>b9
  | .own _=>b9
  | .ref _ _ _=>b9
  | .fresh _ _=>b9
  | .mem _ _ _=>b9
  | .opt _ _=>b9
def Pj(ds:List Nat)(a:AV):Bool:=!Ll a && !a.keys.any (fun k=>ds.any (· == k/32))
def Lw:List Nat->Cp->Cp
  | [],ob=>ob
  | d::r,ob=>Lw r (Ej d ob)
def YS(b:Bool)(ds:List Nat)(m:Mk):Mk:=bif b&&(m.hs.isEmpty&&Pj ds m.v) then ⟨m.ok,m.v,[]⟩ else bad
def Lk(T:Kc)(r:Src->AV)(ob:Cp)(key:Nat)(ds:List Nat)(a:Jc):Mk:=YS ((EW a).all fun x=>Pj ds (r x)) ds (KO T r (Lw ds ob) key a)
def Cu(T:Kc)(s:St)(key:Nat)(dst:Ji):Jc->St
  | .store sz p x=>LJ (freezeAll s (rd s x).keys) sz (rd (freezeAll s (rd s x).keys) x) (rd (freezeAll s (rd s x).keys) p)
  | .app sz bytes _ a x=>TX s key dst sz bytes (Cv sz s.ob (rd s x)) (rd s a)
  | .call f args=>Km T s key dst ⟨b7,f,args.map (rd s)⟩
  | .callv f args=>Km T s key dst (Kg (args.map (rd s)) (rd s f))
  | .callp f args=>Dr s key dst (Ky (DI T s.ob ⟨b7,f,args.map (rd s)⟩))
  | .pur a=>Dr s key dst (KP T s key a)
  | .callw _ _=>fail s
  | .flat a=>Dr s key dst (OI ((FZ a).all fun x=>Du (rd s x)) (Jv T (rd s) key a))
  | .trunc sz x hi=>LI s dst sz (bz (rd s hi)) (rd s x)
  | .movz x=>Dr (freezeAll s (rd s x).keys) key dst (AQ (rd (freezeAll s (rd s x).keys)) (freezeAll s (rd s x).keys).ob key (.mov x))
  | .safe ds a=>Dr s key dst (Lk T (rd s) s.ob key ds a)
  | .pick c a b=>Dr s key dst (NV b7 (rd s a) (rd s b) (rd s c))
  | .box x=>Dr (freezeAll s (rd s x).keys) key dst (XT (Bh key) (rd (freezeAll s (rd s x).keys) x))
  | .build z ps=>Dr (freezeAll s (DO s (.build z ps))) key dst (AQ (rd (freezeAll s (DO s (.build z ps)))) (freezeAll s (DO s (.build z ps))).ob key (.build z ps))
  | .mkSl sz z n ps=>Dr (freezeAll s (DO s (.mkSl sz z n ps))) key dst (AQ (rd (freezeAll s (DO s (.mkSl sz z n ps)))) (freezeAll s (DO s (.mkSl sz z n ps))).ob key (.mkSl sz z n ps))
  | .slice sz x lo hi=>Dr (freezeAll s (rd s x).keys) key dst (AQ (rd (freezeAll s (rd s x).keys)) (freezeAll s (rd s x).keys).ob key (.slice sz x lo hi))
  | .mov x=>Dr s key dst (AQ (rd s) s.ob key (.mov x))
  | .alloc z=>Dr s key dst (AQ (rd s) s.ob key (.alloc z))
  | .newnil sz=>Dr s key dst (AQ (rd s) s.ob key (.newnil sz))
  | .load agg sz p=>Dr s key dst (AQ (rd s) s.ob key (.load agg sz p))
  | .nilck x=>Dr s key dst (AQ (rd s) s.ob key (.nilck x))
  | .bin bl op x y=>Dr s key dst (AQ (rd s) s.ob key (.bin bl op x y))
  | .eqA neg ks x y=>Dr s key dst (AQ (rd s) s.ob key (.eqA neg ks x y))
  | .un op x=>Dr s key dst (AQ (rd s) s.ob key (.un op x))
  | .conv k x=>Dr s key dst (AQ (rd s) s.ob key (.conv k x))
  | .s2b x=>Dr s key dst (AQ (rd s) s.ob key (.s2b x))
  | .b2s x=>Dr s key dst (AQ (rd s) s.ob key (.b2s x))
  | .mkFn f fi ca=>Dr s key dst (AQ (rd s) s.ob key (.mkFn f fi ca))
  | .make sz bytes z l c=>Dr s key dst (AQ (rd s) s.ob key (.make sz bytes z l c))
  | .fldAddr off p=>Dr s key dst (AQ (rd s) s.ob key (.fldAddr off p))
  | .fld agg off sz x=>Dr s key dst (AQ (rd s) s.ob key (.fld agg off sz x))
  | .ixAddr sz x i=>Dr s key dst (AQ (rd s) s.ob key (.ixAddr sz x i))
  | .ixStr x i=>Dr s key dst (AQ (rd s) s.ob key (.ixStr x i))
  | .ext x i=>Dr s key dst (AQ (rd s) s.ob key (.ext x i))
  | .len st x=>Dr s key dst (AQ (rd s) s.ob key (.len st x))
  | .minmax mx xs=>Dr s key dst (AQ (rd s) s.ob key (.minmax mx xs))
def yu:AV->Bool
  | .bool b=>b
  | _=>b9
def Xo:AV->Bool
  | .bool _=>b7
  | _=>b9
def kv(i:Bool):AV->Bool
  | .bool b=>b==i
  | .opt c a=>c&&(yu a==i)
  | _=>b9
def RF:AV->Bool
  | .bool _=>b7
  | .opt c a=>!c||Xo a
  | _=>b9
def VX(s:St):Src->AV
  | .v n=>Jd (s.vs.getD n .any)
  | .s n=>Jd (s.st.getD n .any)
  | .c a=>a
def Dn(T:Kc)(s:St)(w:Bool)(key:Nat):Jc->Mk
  | .pick c a b=>Gq (DQ w (rd s c)) (NV w (rd s a) (rd s b) (VX s c))
  | .call f args=>Gq ((BO (.call f args)).all fun x=>DQ w (rd s x)) (DI T s.ob ⟨b7,f,args.map (VX s)⟩)
  | .callv f args=>Gq ((BO (.callv f args)).all fun x=>DQ w (rd s x)) (DI T s.ob (Kg (args.map (VX s)) (VX s f)))
  | op=>Gq (Ax op&&(BO op).all fun x=>DQ w (rd s x)) (SP (AQ (VX s) s.ob key op))
def OW(s:St)(w:Bool)(dst:Ji)(m:Mk):St:=BE s (!w||(m.ok&&(m.hs.isEmpty&&m.v.lone))) (.opt w m.v) dst
def nZ(T:Kc)(s:St)(key:Nat)(dst:Ji)(f:Nat)(args:List Src)(w:Bool):St :=
  if w=b7 then Km T s key dst ⟨args.all fun x=>DQ b7 (rd s x),f,args.map (VX s)⟩ else OW s b9 dst (Ds .any)
def Mp(T:Kc)(s:St)(key:Nat)(dst:Ji)(w:Bool):Jc->St
  | .callw f args=>nZ T s key dst f args w
  | op=>OW s w dst (Dn T s w key op)
def WE(T:Kc)(s:St)(key:Nat)(dst:Ji)(op:Jc):Option (Src×Bool)->St
  | none=>Cu T s key dst op
  | some g=>Mp T { s with ok:=s.ok&&RF (rd s g.1) } key dst (kv g.2 (rd s g.1)) op
def Db(T:Kc)(s:St)(i:Mb):St:=WE T s i.key i.dst i.op i.guard
def GB(T:Kc):List Mb->St->St
  | [],s=>s
  | i::r,s=>GB T r (Db T s i)
def drop(s:St):St:={ s with st:=[] }
def Ja:List Bool->List AV->List AV
  | true::m,a::r=>a::Ja m r
  | false::m,_::r=>.any::Ja m r
  | _,_=>[]
def Qw(i:List AV):Cp->Cp
  | []=>[]
  | p::r=>bif i.any (fun a=>a.names p.1) then p::Qw i r else Qw i r
def keepB(m:List Bool)(s:St):St:={ vs:=Ja m s.vs,st:=[],ob:=Qw (Ja m s.vs) s.ob,ok:=s.ok }
def ddp:List Nat->List Nat->List Nat
  | _,[]=>[]
  | seen,k::r=>bif seen.any (· == k) then ddp seen r else k::ddp (k::seen) r
def WT(j x:Nat):Nat:=bif x%32==31 then x else 32*(100000+j)
def pS:List Nat->Nat->Nat->Nat
  | [],_,k=>k
  | x::r,j,k=>bif k==x then WT j x else pS r (j+1) k
def AV.re1(π:Nat->Nat):AV->AV
  | .own k=>.own (π k)
  | .ref k i off=>.ref (π k) i off
  | .int k n=>.int k n
  | .bool b=>.bool b
  | .str l=>.str l
  | .cv v=>.cv v
  | .agg cs=>.agg cs
  | .tup cs=>.tup cs
  | .sl sz els=>.sl sz els
  | .nilsl=>.nilsl
  | .ptr sz els i off=>.ptr sz els i off
  | .fn f a b=>.fn f a b
  | .fresh sz els=>.fresh sz els
  | .mem sz els i=>.mem sz els i
  | .opt b a=>.opt b a
  | .any=>.any
def AV.re(π:Nat->Nat):AV->AV
  | .own k=>.own (π k)
  | .ref k i off=>.ref (π k) i off
  | .fn f fi ca=>.fn f (fi.map (AV.re1 π)) (ca.map (AV.re1 π))
  | .tup cs=>.tup (cs.map (AV.re1 π))
  | .opt b a=>.opt b (a.re1 π)
  | .int k n=>.int k n
  | .bool b=>.bool b
  | .str l=>.str l
  | .cv v=>.cv v
  | .agg cs=>.agg cs
  | .sl sz els=>.sl sz els
  | .nilsl=>.nilsl
  | .ptr sz els i off=>.ptr sz els i off
  | .fresh sz els=>.fresh sz els
  | .mem sz els i=>.mem sz els i
  | .any=>.any
def dU(k:Nat)(r:Cp):Option Hm->Cp
  | some h=>DA k h r
  | none=>r
def fU(π:Nat->Nat)(ob:Cp):List Nat->Cp
  | []=>[]
  | k::r=>dU (π k) (fU π ob r) (AK k ob)
def canonK(s:St)(ks:List Nat):St:={ vs:=s.vs.map (AV.re (pS ks 0)),st:=[],ob:=fU (pS ks 0) s.ob ks,ok:=s.ok }
def oJ(s:St):Cp->St
  | []=>s
  | _::_=>canonK s (ddp [] (s.vs.flatMap AV.keys))
def lc(s:St):St:=oJ s s.ob
def keepS(m:List Bool)(s:St):St:=lc (keepB m s)
abbrev FU:=Ex×St
def KM(k:St->FU):FU->FU
  | (.norm,s)=>k s
  | (.exit id,s)=>(.exit id,s)
  | (.ret,s)=>(.ret,s)
def Qz(i:Nat):FU->FU
  | (.exit j,s)=>bif j==i then (.norm,s) else (.exit j,s)
  | (.norm,s)=>(.norm,s)
  | (.ret,s)=>(.ret,s)
def Nl(a b:St->FU)(s:St):AV->FU
  | .bool c=>if c=b7 then a s else b s
  | _=>(.norm,fail s)
def KQ(i ot rt:List Bool):FU->FU
  | (.norm,s)=>(.norm,keepS i s)
  | (.exit id,s)=>(.exit id,keepS ot s)
  | (.ret,s)=>(.ret,keepS rt s)
def UT(m:List Bool):FU->FU
  | (.norm,s)=>(.norm,keepS m s)
  | (.exit id,s)=>(.exit id,s)
  | (.ret,s)=>(.ret,s)
def LU(f:St->FU)(i ot rt:List Bool):Nat->St->FU
  | 0,s=>(.norm,fail s)
  | n+1,s=>KM (LU f i ot rt n) (KQ i ot rt (f s))
def Vs(is:List Mb)(l:List Nat):List Mb:=l.map fun i=>is.getD i ⟨.no,0,b',.mov (.c .any)⟩
def RW(T:Kc)(is:List Mb)(s r:St):List (List Nat)->Bool
  | []=>b7
  | l::rest=>(@cL (GB T (Vs is l) s=r) (Classical.propDecidable _))&&RW T is s r rest
def slots(k:Nat)(s:St):St:={ s with st:=e5 k .any }
def rU(s:St)(b:Bool):St:={ s with ok:=s.ok&&b }
def Us(T:Kc)(k:Nat)(is:List Mb)(i:List (List Nat))(s:St):St :=
  rU (GB T is (slots k s)) (RW T is (slots k s) (GB T is (slots k s)) i)
def Th(c:Src)(a b:St->FU)(s:St):FU:=Nl a b (drop s) (rd s c)
def Bn(T:Kc)(L:Nat):IR->St->FU
  | .skip,s=>(.norm,s)
  | .region _ is,s=>(.norm,drop (GB T is s))
  | .test _ is c a b,s=>Th c (Bn T L a) (Bn T L b) (GB T is s)
  | .anyo k is alts .skip,s=>(.norm,drop (Us T k is alts s))
  | .anyo k is alts (.cond c a b),s=>Th c (Bn T L a) (Bn T L b) (Us T k is alts s)
  | .anyo _ _ _ _,s=>(.norm,fail s)
  | .seq a b,s=>KM (Bn T L b) (Bn T L a s)
  | .cond c a b,s=>Nl (Bn T L a) (Bn T L b) s (rd s c)
  | .block id a,s=>Qz id (Bn T L a s)
  | .loop keep out rt a,s=>LU (Bn T L a) keep out rt L (keepS keep s)
  | .mask m a,s=>UT m (Bn T L a s)
  | .exit id,s=>(.exit id,s)
  | .ret,s=>(.ret,s)
def AD(j:Nat):Nat:=32*j+31
def Mi:Nat->List AV->List AV
  | _,[]=>[]
  | j,.fresh _ _::r=>.own (AD j)::Mi (j+1) r
  | j,.mem _ _ i::r=>.ref (AD j) i 0::Mi (j+1) r
  | j,x::r=>x::Mi (j+1) r
def BR:Nat->List AV->Cp
  | _,[]=>[]
  | j,.fresh sz els::r=>(AD j,⟨sz,els⟩)::BR (j+1) r
  | j,.mem sz els _::r=>(AD j,⟨sz,els⟩)::BR (j+1) r
  | j,_::r=>BR (j+1) r
def WF(nv:Nat)(args:List AV):St:={ vs:=Mi 0 args++e5 (nv-args.length) .any,st:=[],ob:=BR 0 args,ok:=true }
def Xj(ob:Cp)(agg:Bool)(sz:Nat):AV->Mk
  | .ref k i off=>kM agg sz i off (AK k ob)
  | _=>bad
def QR(s:St):oh->Mk
  | .t n=>Ds (s.vs.getD n .any)
  | .cell agg sz p=>Xj s.ob agg sz (s.vs.getD p .any)
def gH:Option Hm->Mk
  | some h=>Ds (.fresh h.sz h.els)
  | none=>bad
def gG(i off:Nat):Option Hm->Mk
  | some h=>Fp ((i==0)&&((off==0)&&(h.els.length==1))) (.mem h.sz h.els 0)
  | none=>bad
def Cy(ob:Cp):AV->Mk
  | .own k=>gH (AK k ob)
  | .ref k i off=>gG i off (AK k ob)
  | .tup _=>bad
  | .any=>bad
  | .fresh _ _=>bad
  | .mem _ _ _=>bad
  | .opt _ _=>bad
  | .fn f a b=>Fp ((a++b).all (fun x=>x.key1.isEmpty)) (.fn f a b)
  | .int k n=>Ds (.int k n)
  | .bool b=>Ds (.bool b)
  | .str l=>Ds (.str l)
  | .cv v=>Ds (.cv v)
  | .agg cs=>Ds (.agg cs)
  | .sl sz els=>Ds (.sl sz els)
  | .nilsl=>Ds .nilsl
  | .ptr sz els i off=>Ds (.ptr sz els i off)
def XR:AV->AV
  | .fresh sz els=>.sl sz els
  | .mem sz els _=>.ptr sz els 0 0
  | a=>a
def QU:AV->AV
  | .tup cs=>.tup (cs.map XR)
  | a=>XR a
def AKM(q:Rs):Rs:=⟨q.ok,QU q.r,q.outs⟩
def eB:AV->Bool
  | .mem _ _ _=>b7
  | _=>b9
def aA(m:Bool)(n:Nat):Option Hm->Mk
  | some h=>Fp (h.els.length==n) (bif m then .mem h.sz h.els 0 else .fresh h.sz h.els)
  | none=>bad
def gQ:AV->Nat
  | .fresh _ els=>els.length
  | .mem _ els _=>els.length
  | _=>0
def QJ(ob:Cp)(j:Nat)(a:AV):Md->Mk
  | .io=>aA (eB a) (gQ a) (AK (AD j) ob)
  | .bor=>Ds .any
  | .mov=>Ds .any
def Uq(ob:Cp):List Md->Nat->List AV->List Mk
  | m::ms,j,a::r=>QJ ob j a m::Uq ob ms (j+1) r
  | _,_,_=>[]
def Js:List Md->Nat->List Nat
  | .io::ms,j=>AD j::Js ms (j+1)
  | .bor::ms,j=>Js ms (j+1)
  | .mov::ms,j=>Js ms (j+1)
  | [],_=>[]
def UN:List AV->AV
  | [a]=>a
  | []=>.cv cA
  | a::b::r=>.tup (a::b::r)
def gF(modes:List Md)(rs:List AV):Bool :=
  Eb (rs.flatMap AV.key1)&&apart (rs.flatMap AV.key1) (Js modes 0)
def ZZ(s:St)(modes:List Md)(args:List AV)(ms:List Mk):Rs :=
  ⟨s.ok&&(ms.all (·.ok)&&(gF modes (ms.map (·.v))&&(((ms.map (·.v)).map (Cy s.ob)).all (·.ok)&&(Uq s.ob modes 0 args).all (·.ok)))),
    UN (((ms.map (·.v)).map (Cy s.ob)).map (·.v)),(Uq s.ob modes 0 args).map (·.v)⟩
def Lc(fn:Bl)(modes:List Md)(args:List AV):FU->Rs
  | (.exit _,_)=>Rs.bad
  | (.norm,s)=>ZZ s modes args (fn.res.map (QR s))
  | (.ret,s)=>ZZ s modes args (fn.res.map (QR s))
def fits(fn:Bl)(modes:List Md)(args:List AV):Bool:=Fh modes args&&((args.length==fn.np)&&(modes.length==fn.np))
def la(c:Bool)(r:Rs):Rs:=⟨c&&r.ok,r.r,r.outs⟩
def OU(T:Kc)(L:Nat)(fn:Bl)(modes:List Md)(args:List AV):Rs :=
  la (fits fn modes args) (Lc fn modes args (Bn T L fn.body (WF fn.nv args)))
end Go.Proofs.YtegmpdmpgmpiaaaGreatDoor
namespace Go.Proofs.YtegmpdmpgmpiaaaGreatDoor
open Go Go.RowKit
def GT(S:Nat->Prop)(w:bS):Prop:=∀ q,q∈jV->¬ S q.1∧∃ cs T fz,w.heap[q.1]? = bI (.cells cs T fz)∧q.2 cs
inductive VR(S:Nat->Prop)(w:bS):Value->AV->Prop
 | int {k n}:VR S w (.int k n) (.int k n)
 | bool {b}:VR S w (.bool b) (.bool b)
 | str {l}:VR S w (.string ⟨l.toArray⟩) (.str l)
 | cv {v}:VR S w v (.cv v)
 | nilsl:VR S w (.slice b' 0 0) .nilsl
 | any {v}:VR S w v .any
 | agg {cs:Array Value} {as:List AV} (hn:cs.size=as.length) (ha:∀ j,j<as.length->(as.getD j .any).atom=b7)
   (h:∀ j,j<as.length->VR S w (cs.getD j cA) (as.getD j .any)):VR S w (.agg cs) (.agg as)
 | tup {cs:Array Value} {as:List AV} (hn:cs.size=as.length)
   (h:∀ j,j<as.length->VR S w (cs.getD j cA) (as.getD j .any)):VR S w (.tuple cs) (.tup as)
 | sl {a:Option Addr} {n cap sz:Nat} {els:List AV} (b off:Nat) (rd:Nat->Nat->Value) (hn:n=els.length) (hcap:n<=cap) (hsz:1<=sz)
   (ha:0<els.length->a=bI ⟨b,off,b'⟩∧¬ S b)
   (hc:∀ i,i<els.length->(els.getD i .any).cells.length=sz∧(els.getD i .any).atoms=b7)
   (hw:∀ i j,i<els.length->j<sz->w.cell? ⟨b,off+(i*sz+j),b'⟩=bI (rd i j))
   (h:∀ i j,i<els.length->j<sz->VR S w (rd i j) ((els.getD i .any).cells.getD j .any)):VR S w (.slice a n cap) (.sl sz els)
 | ptr {sz:Nat} {els:List AV} {i0 o0:Nat} (b off:Nat) (rd:Nat->Nat->Value) (hsz:1<=sz) (hi:i0<els.length) (hs:¬ S b)
   (hc:∀ i,i<els.length->(els.getD i .any).cells.length=sz∧(els.getD i .any).atoms=b7)
   (hw:∀ i j,i<els.length->j<sz->w.cell? ⟨b,off+(i*sz+j),b'⟩=bI (rd i j))
   (h:∀ i j,i<els.length->j<sz->VR S w (rd i j) ((els.getD i .any).cells.getD j .any)) :
   VR S w (.pointer (bI ⟨b,off+(i0*sz+o0),b'⟩)) (.ptr sz els i0 o0)
 | fn {f:Fn} {v1 v2:Array Value} {a1 a2:List AV} (h1n:v1.size=a1.length) (h2n:v2.size=a2.length)
   (h1:∀ j,j<a1.length->VR S w (v1.getD j cA) (a1.getD j .any)) (h2:∀ j,j<a2.length->VR S w (v2.getD j cA) (a2.getD j .any)) :
   VR S w (.func f v1 v2) (.fn f a1 a2)
structure AG(S:Nat->Prop)(w w':bS):Prop where
 os:w'.os=w.os
 tape:w'.tape=w.tape
 output:w'.output=w.output
 size:w.heap.size<=w'.heap.size
 block:∀ b,b<w.heap.size->¬ S b->w'.heap[b]? = w.heap[b]?
theorem AG.refl(S:Nat->Prop)(w:bS):AG S w w:=⟨rfl,rfl,rfl,df _,fun _ _ _=>rfl⟩
theorem AG.trans{S:Nat->Prop}{a b c:bS}(h:AG S a b)(k:AG S b c):AG S a c :=
 ⟨k.os.trans h.os,k.tape.trans h.tape,k.output.trans h.output,hN h.size k.size,fun x i hs=>(k.block x (h6 i h.size) hs).trans (h.block x i hs)⟩
theorem AG.mono{S S':Nat->Prop}{w w':bS}(h:AG S w w')(hs:∀ b,b<w.heap.size->S b->S' b):AG S' w w' :=
 ⟨h.os,h.tape,h.output,h.size,fun b i j=>h.block b i fun c=>j (hs b i c)⟩
theorem AG.alloc(S:Nat->Prop)(w:bS)(o:Obj):AG S w (w.alloc o) :=
 ⟨rfl,rfl,rfl,by simp,fun b i _=>Below.heap_alloc w o b i⟩
theorem AG.drew(S:Nat->Prop)(w:bS):AG S w w.drew:=⟨rfl,rfl,rfl,df _,fun _ _ _=>rfl⟩
theorem GJ{w w':bS}{a:Addr}(h:w'.heap[a.block]? = w.heap[a.block]?):w'.cell? a=w.cell? a:=by
 unfold ka;rw[h]
theorem AG.cell{S:Nat->Prop}{w w':bS}(h:AG S w w'){b o:Nat}{v:Value}(hs:¬ S b)(i:w.cell? ⟨b,o,b'⟩=bI v):w'.cell? ⟨b,o,b'⟩=bI v:=by
 have j:=hG w ⟨b,o,b'⟩ i;rw[GJ (a:=⟨b,o,b'⟩) (h.block b j hs),i]
theorem VR.mono{S S':Nat->Prop}{w w':bS}(p:AG S w w')(hS:∀ b,b<w.heap.size->S' b->S b){v:Value}{a:AV}(h:VR S w v a):VR S' w' v a:=by
 induction h with
 | int=>exact .int
 | bool=>exact .bool
 | str=>exact .str
 | cv=>exact .cv
 | nilsl=>exact .nilsl
 | any=>exact .any
 | agg R U _ C=>exact .agg R U C
 | tup R _ C=>exact .tup R C
 | fn aj ae _ _ i1 i2=>exact .fn aj ae i1 i2
 | @sl a n cap sz els b off rd R T I U hc J _ C=>
  refine .sl b off rd R T I (fun hp=>?_) hc (fun i j hi hj=>p.cell (U (by omega)).2 (J i j hi hj)) C;have hb:=hG w _ (J 0 0 hp (by omega));exact⟨(U hp).1,fun c=>(U hp).2 (hS b hb c)⟩
 | @ptr sz els i0 o0 b off rd I hi hs hc J _ C=>
  have hb:=hG w _ (J i0 0 hi (by omega));exact .ptr b off rd I hi (fun c=>hs (hS b hb c)) hc (fun i j hi hj=>p.cell hs (J i j hi hj)) C
theorem GT.mono{S S':Nat->Prop}{w w':bS}(i:AG S w w')(J:∀ b,b<w.heap.size->S' b->S b)(h:GT S w):GT S' w':=by
 intro q I;obtain⟨C,cs,T,fz,h2,R⟩:=h q I
 have p:q.1<w.heap.size:=by
  rcases gu q.1 w.heap.size with j | j
  ·exact j
  ·rw[gb j] at h2;cases h2
 exact⟨fun c=>C (J _ p c),cs,T,fz,by rw[i.block _ p C,h2],R⟩
theorem VR.ext{S:Nat->Prop}{w w':bS}(i:AG S w w'){v:Value}{a:AV}(h:VR S w v a):VR S w' v a:=h.mono i fun _ _ c=>c
theorem VR.narrow{S:Nat->Prop}{w:bS}{v:Value}{sz i off:Nat}{els:List AV}(h:VR S w v (.ptr sz els i off)):VR S w v (.ptr sz [els.getD i .any] 0 off):=by
 cases h with
 | ptr b o rd C hi hs T J R=>
  have one:∀ {n:Nat},n < [els.getD i .any].length->n=0:=fun h=>by simpa using h
  have:=VR.ptr (S:=S) (w:=w) (sz:=sz) (els:=[els.getD i .any]) (i0:=0) (o0:=off) b (o+i*sz) (fun _ j=>rd i j) C (by simp) hs (fun n p=>by rw[one p];exact T i hi)
   (fun n j p I=>by rw[one p,k6,cI,fa];exact J i j hi I) (fun n j p I=>by rw[one p];exact R i j hi I)
  rw[k6,cI,fa] at this;exact this
theorem VR.oneCell{S:Nat->Prop}{w:bS}{v:Value}{a:AV}(h:VR S w v a)(i:a.atom=b7):v.oneCell'=b7:=by
 cases h<;>first|rfl|(simp[AV.atom] at i)
structure Gh where
 β:Nat->Nat
 cap:Nat->Nat
def KY(ob:Cp)(k:Nat):Prop:=∃ h,AK k ob=bI h
def Ma(g:Gh)(ob:Cp)(k:Nat):Prop:=KY ob k∧0<g.cap k
def AS(F:Nat->Prop)(g:Gh)(ob:Cp):Nat->Prop:=fun b=>F b∨∃ k,Ma g ob k∧g.β k=b
structure IK(S:Nat->Prop)(w:bS)(b cap sz:Nat)(els:List AV):Prop where
 pos:1<=sz
 len:els.length<=cap
 cells:∀ i,i<els.length->(els.getD i .any).cells.length=sz∧(els.getD i .any).atoms=b7
 row:0<cap->∃ arr T fz,w.heap[b]? = bI (.cells arr T fz)∧(fz=(0,0)∨(sz=1∧arr.size<=fz.1))∧arr.size=cap*sz ∧
  ∀ i j,i<els.length->j<sz->VR S w (arr.getD (i*sz+j) cA) ((els.getD i .any).cells.getD j .any)
theorem IK.lt{S:Nat->Prop}{w:bS}{b cap sz:Nat}{els:List AV}(h:IK S w b cap sz els)(p:0<cap):b<w.heap.size:=by
 obtain⟨arr,T,fz,j,_⟩:=h.row p;rcases gu b w.heap.size with i | i
 ·exact i
 ·rw[gb i] at j;cases j
theorem IK.mono{S S':Nat->Prop}{w w':bS}{b cap sz:Nat}{els:List AV}(h:IK S w b cap sz els)(p:AG S w w')
  (hb:0<cap->w'.heap[b]? = w.heap[b]?) (hS:∀ b,b<w.heap.size->S' b->S b):IK S' w' b cap sz els:=by
 refine⟨h.pos,h.len,h.cells,fun C=>?_⟩;obtain⟨arr,T,fz,J,U,hs,I⟩:=h.row C;exact⟨arr,T,fz,by rw[hb C,J],U,hs,fun i j hi R=>(I i j hi R).mono p hS⟩
def Oh(S:Nat->Prop)(w:bS)(g:Gh)(ob:Cp)(v:Value):AV->Prop
 | .own k=>∃ h,AK k ob=bI h∧(v = .slice (bI ⟨g.β k,0,b'⟩) h.els.length (g.cap k)∨(g.cap k=0∧v = .slice b' 0 0))
 | .ref k i off=>∃ h,AK k ob=bI h∧i<h.els.length∧v = .pointer (bI ⟨g.β k,i*h.sz+off,b'⟩)
 | a=>VR S w v a
def SR(S:Nat->Prop)(w:bS)(g:Gh)(ob:Cp)(v:Value):AV->Prop
 | .fn f a1 a2=>∃ v1 v2,v = .func f v1 v2∧v1.size=a1.length∧v2.size=a2.length ∧
   (∀ j,j<a1.length->Oh S w g ob (v1.getD j cA) (a1.getD j .any))∧(∀ j,j<a2.length->Oh S w g ob (v2.getD j cA) (a2.getD j .any))
 | .tup i=>∃ vs,v = .tuple vs∧vs.size=i.length∧∀ j,j<i.length->Oh S w g ob (vs.getD j cA) (i.getD j .any)
 | .opt b a=>if b=b7 then Oh S w g ob v a else v=cA
 | a=>Oh S w g ob v a
theorem AM{α:Type}(b:Bool)(x y:α):(bif b then x else y)=if b=b7 then x else y:=by cases b<;>rfl
theorem BN(k j:Nat)(h:Hm):∀ ob:Cp,AK j (DA k h ob)=if k=j then bI h else AK j ob
 | []=>by simp[DA,AK,AM]
 | p::r=>by
  have J:=BN k j h r
  by_cases C:p.1=k
  ·by_cases i:k=j
   ·simp[DA,AK,AM,C,i]
   ·simp[DA,AK,AM,C,i]
  ·by_cases I:k<p.1
   ·by_cases i:k=j
    ·subst i;simp[DA,AK,AM,C,I]
    ·simp[DA,AK,AM,C,I,i]
   ·by_cases i:k=j
    ·subst i;simp[DA,AK,AM,C,I,J]
    ·simp[DA,AK,AM,C,I,J,i]
theorem Dv(k i:Nat):∀ ob:Cp,AK i (LQ k ob)=if k=i then b' else AK i ob
 | []=>by simp[LQ,AK]
 | p::r=>by
  have j:=Dv k i r
  by_cases I:p.1=k
  ·by_cases C:k=i
   ·subst C;simp[LQ,AM,I] at j ⊢;exact j
   ·simp[LQ,AK,AM,I,C,j]
  ·by_cases C:k=i
   ·subst C;simp[LQ,AK,AM,I,j]
   ·simp[LQ,AK,AM,I,j,C]
theorem Hi(d k:Nat):∀ ob:Cp,AK k (Ej d ob)=if k/32=d then b' else AK k ob
 | []=>by simp[Ej,AK]
 | p::r=>by
  have I:=Hi d k r
  by_cases C:p.1/32=d
  ·by_cases j:k/32=d
   ·simp[Ej,AM,C,j,I]
   ·have i:p.1≠k:=fun e=>j (e▸C)
    simp[Ej,AK,AM,C,j,I,i]
  ·by_cases j:k/32=d
   ·have i:p.1≠k:=fun e=>C (e▸j)
    simp[Ej,AK,AM,C,j,I,i]
   ·simp[Ej,AK,AM,C,j,I]
theorem Pt{d k:Nat}{h:Hm}:∀ {ob:Cp},RB d ob=b9->AK k ob=bI h->k/32≠d
 | [],_,i=>by simp[AK] at i
 | p::r,j,i=>by
  simp only[RB,Bool.or_eq_false_iff,beq_eq_false_iff_ne] at j
  by_cases C:p.1=k
  ·exact C▸j.1
  ·simp only[AK,AM,beq_iff_eq,C,if_false] at i;exact Pt j.2 i
def Sg(g g':Gh)(ob ob':Cp)(k:Nat):Prop :=
 ∀ h,AK k ob=bI h->∃ i,AK k ob'=bI i∧i.els.length=h.els.length∧i.sz=h.sz∧g'.β k=g.β k∧g'.cap k=g.cap k
theorem Oh.mono{S S':Nat->Prop}{w w':bS}{g g':Gh}{ob ob':Cp}(j:AG S w w')(hS:∀ b,b<w.heap.size->S' b->S b){v:Value}{a:AV}
  (T:∀ k,k∈a.key1->Sg g g' ob ob' k) (h:Oh S w g ob v a):Oh S' w' g' ob' v a:=by
 cases a
 case own k=>
  obtain⟨hm,I,U⟩:=h;obtain⟨C,p,R,_,J,e4⟩:=T k (by simp[AV.key1]) hm I;exact⟨C,p,by rw[R,J,e4];exact U⟩
 case ref k i off=>
  obtain⟨hm,I,hi,rfl⟩:=h;obtain⟨C,p,R,e2,J,_⟩:=T k (by simp[AV.key1]) hm I;exact⟨C,p,by rw[R];exact hi,by rw[e2,J]⟩
 all_goals exact VR.mono j hS h
theorem DL{i:List AV}{j:Nat}(p:j<i.length){k:Nat}(C:k∈(i.getD j .any).key1):k∈i.flatMap AV.key1:=by
 refine List.mem_flatMap.2 ⟨i.getD j .any,?_,C⟩;rw[gdE,geE p];exact ev p
theorem SR.mono{S S':Nat->Prop}{w w':bS}{g g':Gh}{ob ob':Cp}(i:AG S w w')(J:∀ b,b<w.heap.size->S' b->S b){v:Value}{a:AV}
  (I:∀ k,k∈a.keys->Sg g g' ob ob' k) (h:SR S w g ob v a):SR S' w' g' ob' v a:=by
 cases a
 case fn f a1 a2=>
  obtain⟨v1,v2,rfl,n1,n2,T,h2⟩:=h;refine⟨v1,v2,rfl,n1,n2,fun j C=>(T j C).mono i J fun k p=>I k ?_,fun j C=>(h2 j C).mono i J fun k p=>I k ?_⟩
  ·simp only[AV.keys,kp,l4];exact .inl (DL C p)
  ·simp only[AV.keys,kp,l4];exact .inr (DL C p)
 case tup U=>
  obtain⟨vs,rfl,n,T⟩:=h;exact⟨vs,rfl,n,fun j C=>(T j C).mono i J fun k p=>I k (DL C p)⟩
 case opt b a=>
  simp only[SR] at h ⊢;split at h
  ·rename_i R;rw[if_pos R];exact h.mono i J I
  ·rename_i R;rw[if_neg R];exact h
 all_goals
  simp only[SR] at h ⊢;refine Oh.mono i J (fun k p=>I k ?_) h;first|exact p|(simp[AV.key1] at p)
theorem SR.any{S:Nat->Prop}{w:bS}{g:Gh}{ob:Cp}{v:Value}:SR S w g ob v .any:=VR.any
structure FR(F:Nat->Prop)(g:Gh)(w:bS)(tmps:Array Value)(vm ss:List Nat)(s:St):Prop where
 home:∀ k h,AK k s.ob=bI h->IK (AS F g s.ob) w (g.β k) (g.cap k) h.sz h.els
 inj:∀ k k',Ma g s.ob k->Ma g s.ob k'->g.β k=g.β k'->k=k'
 nF:∀ k,Ma g s.ob k->¬ F (g.β k)
 fb:∀ b,F b->b<w.heap.size
 vl:s.vs.length=vm.length
 sl:s.st.length=ss.length
 vs:∀ i,i<vm.length->SR (AS F g s.ob) w g s.ob (tmps.getD (vm.getD i 0) cA) (s.vs.getD i .any)
 st:∀ i,i<ss.length->SR (AS F g s.ob) w g s.ob (tmps.getD (ss.getD i 0) cA) (s.st.getD i .any)
 fit:∀ t,t∈vm∨t∈ss->t<tmps.size
 tab:GT (AS F g s.ob) w
theorem Bv(φ:AV->AV)(j:φ .any = .any)(l:List AV)(i:Nat):(l.map φ).getD i .any=φ (l.getD i .any):=by
 rw[gdE,gdE,eL];cases l[i]?<;>simp[j]
theorem FR.slots{F:Nat->Prop}{g g':Gh}{w w':bS}{tmps:Array Value}{vm ss:List Nat}{s:St}(h:FR F g w tmps vm ss s){ob':Cp}(φ:AV->AV)(p:φ .any = .any)
  (j:AG (AS F g s.ob) w w') (hS:∀ b,b<w.heap.size->AS F g' ob' b->AS F g s.ob b)
  (hφ:∀ a v,SR (AS F g s.ob) w g s.ob v a->φ a = .any∨(φ a=a∧∀ k,k∈a.keys->Sg g g' s.ob ob' k))
  (C:∀ k h,AK k ob'=bI h->IK (AS F g' ob') w' (g'.β k) (g'.cap k) h.sz h.els)
  (I:∀ k R,Ma g' ob' k->Ma g' ob' R->g'.β k=g'.β R->k=R) (T:∀ k,Ma g' ob' k->¬ F (g'.β k)) (ok:Bool) :
  FR F g' w' tmps vm ss { vs:=s.vs.map φ,st:=s.st.map φ,ob:=ob',ok:=ok } where
 home:=C
 inj:=I
 nF:=T
 fb b hb:=h6 (h.fb b hb) j.size
 vl:=by simpa using h.vl
 sl:=by simpa using h.sl
 vs i hi:=by
  have J:=h.vs i hi;simp only[Bv φ p];rcases hφ _ _ J with e|⟨e,U⟩
  ·rw[e];exact SR.any
  ·rw[e];exact J.mono j hS U
 st i hi:=by
  have J:=h.st i hi;simp only[Bv φ p];rcases hφ _ _ J with e|⟨e,U⟩
  ·rw[e];exact SR.any
  ·rw[e];exact J.mono j hS U
 fit:=h.fit
 tab:=h.tab.mono j hS
theorem Ii{F:Nat->Prop}{g:Gh}{ob ob':Cp}(hs:∀ k,KY ob' k->KY ob k){b:Nat}(h:AS F g ob' b):AS F g ob b:=by
 rcases h with h|⟨k,i,e⟩
 ·exact .inl h
 ·exact .inr ⟨k,⟨hs k i.1,i.2⟩,e⟩
theorem FR.setOk{F:Nat->Prop}{g:Gh}{w:bS}{tmps:Array Value}{vm ss:List Nat}{s:St}(h:FR F g w tmps vm ss s)(ok:Bool):FR F g w tmps vm ss { s with ok:=ok } :=
 ⟨h.home,h.inj,h.nF,h.fb,h.vl,h.sl,h.vs,h.st,h.fit,h.tab⟩
theorem FR.grow{F:Nat->Prop}{g:Gh}{w w':bS}{tmps:Array Value}{vm ss:List Nat}{s:St}(h:FR F g w tmps vm ss s)(C:AG (fun _=>False) w w'):FR F g w' tmps vm ss s:=by
 have j:AG (AS F g s.ob) w w':=C.mono fun _ _ c=>c.elim
 exact⟨fun k hm p=>(h.home k hm p).mono j (fun I=>C.block _ ((h.home k hm p).lt I) (fun c=>c)) fun _ _ c=>c,h.inj,h.nF,fun b J=>h6 (h.fb b J) C.size,h.vl,h.sl,
  fun i hi=>(h.vs i hi).mono j (fun _ _ c=>c) fun k _ hm p=>⟨hm,p,rfl,rfl,rfl,rfl⟩,
  fun i hi=>(h.st i hi).mono j (fun _ _ c=>c) fun k _ hm p=>⟨hm,p,rfl,rfl,rfl,rfl⟩,h.fit,h.tab.mono j (fun _ _ c=>c)⟩
theorem FR.forget{F:Nat->Prop}{g:Gh}{w:bS}{tmps:Array Value}{vm ss:List Nat}{s:St}(h:FR F g w tmps vm ss s){ob':Cp}(φ:AV->AV)(C:φ .any = .any)
  (j:∀ k hm,AK k ob'=bI hm->AK k s.ob=bI hm)
  (R:∀ a,φ a = .any∨(φ a=a∧∀ k,k∈a.keys->∀ hm,AK k s.ob=bI hm->AK k ob'=bI hm)) (ok:Bool) :
  FR F g w tmps vm ss { vs:=s.vs.map φ,st:=s.st.map φ,ob:=ob',ok:=ok }:=by
 have i:∀ k,KY ob' k->KY s.ob k:=fun k ⟨hm,p⟩=>⟨hm,j k hm p⟩
 refine h.slots φ C (AG.refl _ _) (fun b _ c=>Ii i c) (fun a v _=>?_) (fun k hm p=>?_) (fun k J a b=>h.inj k J ⟨i k a.1,a.2⟩ ⟨i J b.1,b.2⟩) (fun k a=>h.nF k ⟨i k a.1,a.2⟩) ok
 ·rcases R a with e|⟨e,p⟩
  ·exact .inl e
  ·exact .inr ⟨e,fun k I hm T=>⟨hm,p k I hm T,rfl,rfl,rfl,rfl⟩⟩
 ·exact (h.home k hm (j k hm p)).mono (AG.refl _ _) (fun _=>rfl) fun b _ c=>Ii i c
theorem LR{a:AV}{k:Nat}:a.names k=b7 ↔ k∈a.keys:=by
 simp[AV.names]
theorem FR.clear{F:Nat->Prop}{g:Gh}{w:bS}{tmps:Array Value}{vm ss:List Nat}{s:St}(h:FR F g w tmps vm ss s)(d:Nat):FR F g w tmps vm ss (clear s d):=by
 unfold Go.Proofs.YtegmpdmpgmpiaaaGreatDoor.clear;rw[AM];split
 ·refine h.forget (Zm d) (by simp[Zm,AV.keys]) (fun k hm i=>?_) (fun a=>?_) s.ok
  ·rw[Hi] at i;split at i
   ·cases i
   ·exact i
  ·by_cases j:a.keys.any (fun k=>k/32==d)=b7
   ·exact .inl (by simp only[Zm,AM];rw[if_pos j])
   ·refine .inr ⟨by simp only[Zm,AM];rw[if_neg j],fun k i hm p=>?_⟩;rw[Hi,if_neg (fun e=>j (List.any_eq_true.2 ⟨k,i,by simp[e]⟩))];exact p
 ·exact h
theorem oF{F:Nat->Prop}{g:Gh}{w:bS}{tmps:Array Value}{vm ss:List Nat}{s:St}(h:FR F g w tmps vm ss s){d k:Nat}(i:k/32=d):¬ KY (clear s d).ob k:=by
 intro ⟨hm,hg⟩;unfold Go.Proofs.YtegmpdmpgmpiaaaGreatDoor.clear at hg;rw[AM] at hg;split at hg
 ·simp[Hi,i] at hg
 ·rename_i j;exact Pt (by simpa using j) hg i
theorem FR.add{F:Nat->Prop}{g:Gh}{w:bS}{tmps:Array Value}{vm ss:List Nat}{s:St}(h:FR F g w tmps vm ss s){k b cap:Nat}{hm:Hm}(hk:¬ KY s.ob k)
  (hb:0<cap->∀ c,AS F g s.ob c->c≠b)
  (ao:∀ S:Nat->Prop,(∀ c,S c->AS F g s.ob c∨c=b)->IK S w b cap hm.sz hm.els)
  (aj:∀ k' h',AK k' s.ob=bI h'->IK (fun c=>AS F g s.ob c∨c=b) w (g.β k') (g.cap k') h'.sz h'.els)
  (a0:∀ i,i<vm.length->SR (fun c=>AS F g s.ob c∨c=b) w g s.ob (tmps.getD (vm.getD i 0) cA) (s.vs.getD i .any))
  (a3:∀ i,i<ss.length->SR (fun c=>AS F g s.ob c∨c=b) w g s.ob (tmps.getD (ss.getD i 0) cA) (s.st.getD i .any)) (ae:GT (fun c=>AS F g s.ob c∨c=b) w) :
  FR F ⟨fun j=>if j=k then b else g.β j,fun j=>if j=k then cap else g.cap j⟩ w tmps vm ss { s with ob:=DA k hm s.ob }:=by
 have hβ:∀ j,KY s.ob j->j≠k:=fun j hj e=>hk (e▸hj)
 have hS:∀ c,AS F ⟨fun j=>if j=k then b else g.β j,fun j=>if j=k then cap else g.cap j⟩ (DA k hm s.ob) c->AS F g s.ob c∨c=b:=by
  intro c T;rcases T with T|⟨j,⟨⟨hj,I⟩,a5⟩,e⟩
  ·exact .inl (.inl T)
  ·rw[BN] at I
   by_cases p:k=j
   ·subst p;exact .inr (by simpa using e.symm)
   ·rw[if_neg p] at I;exact .inl (.inr ⟨j,⟨⟨hj,I⟩,by simpa[fI p] using a5⟩,by simpa[fI p] using e⟩)
 have U:∀ j,Sg g ⟨fun j=>if j=k then b else g.β j,fun j=>if j=k then cap else g.cap j⟩ s.ob (DA k hm s.ob) j:=by
  intro j h' I;have ab:=hβ j ⟨h',I⟩;exact⟨h',by rw[BN,if_neg (fI ab)];exact I,rfl,rfl,by simp[ab],by simp[ab]⟩
 refine⟨fun j h' I=>?_,fun j j' hj a4 e=>?_,fun j hj=>?_,h.fb,h.vl,h.sl,fun i hi=>?_,fun i hi=>?_,h.fit,ae.mono (AG.refl _ _) fun c _ T=>hS c T⟩
 ·simp only[BN] at I
  by_cases p:k=j
  ·subst p;simp only[if_true,en] at I ⊢;subst I;exact ao _ hS
  ·rw[if_neg p] at I;simp only[if_neg (fI p)];exact (aj j h' I).mono (AG.refl _ _) (fun _=>rfl) fun c _ T=>hS c T
 ·obtain⟨⟨h1,C⟩,J⟩:=hj;obtain⟨⟨h2,R⟩,p2⟩:=a4;simp only[BN] at C R
  by_cases a1:j=k
  ·by_cases a2:j'=k
   ·rw[a1,a2]
   ·rw[if_neg (fI a2)] at R;simp only[a1,a2,if_true,if_false] at e J p2;exact absurd e.symm (hb J _ (.inr ⟨j',⟨⟨h2,R⟩,p2⟩,rfl⟩))
  ·rw[if_neg (fI a1)] at C
   by_cases a2:j'=k
   ·simp only[a1,a2,if_true,if_false] at e J p2;exact absurd e (hb p2 _ (.inr ⟨j,⟨⟨h1,C⟩,J⟩,rfl⟩))
   ·rw[if_neg (fI a2)] at R;simp only[a1,a2,if_false] at e J p2;exact h.inj j j' ⟨⟨h1,C⟩,J⟩ ⟨⟨h2,R⟩,p2⟩ e
 ·obtain⟨⟨h1,C⟩,J⟩:=hj;simp only[BN] at C
  by_cases a1:j=k
  ·simp only[a1,if_true] at J ⊢;exact fun hf=>hb J _ (.inl hf) rfl
  ·rw[if_neg (fI a1)] at C;simp only[a1,if_false] at J ⊢;exact h.nF j ⟨⟨h1,C⟩,J⟩
 ·exact (a0 i hi).mono (AG.refl _ _) (fun c _ T=>hS c T) fun j _=>U j
 ·exact (a3 i hi).mono (AG.refl _ _) (fun c _ T=>hS c T) fun j _=>U j
def Ew(vm ss:List Nat):Option Nat->Ji->Option (List Nat)
 | none,.no=>bI ss
 | some d,.push=>if d∈vm∨d∈ss then b' else bI (d::ss)
 | some d,.var n=>if vm[n]? = bI d∧d ∉ ss∧d ∉ vm.eraseIdx n then bI ss else b'
 | some d,.slot n=>if ss[n]? = bI d∧d ∉ vm∧ss.Nodup then bI ss else b'
 | _,_=>b'
def QM(_:List Nat):Prop:=True
theorem XA{vm:List Nat}{n i d:Nat}(p:vm[n]? = bI d)(hd:d ∉ vm.eraseIdx n)(hi:i<vm.length)(j:¬ n=i):d≠vm.getD i 0:=by
 intro e;refine hd ?_;rw[List.mem_eraseIdx_iff_getElem];exact⟨i,hi,fun c=>j c.symm,by rw[e,gdE,geE hi];rfl⟩
def It(tmps:Array Value)(dst:Option Nat)(v:Value):Array Value :=
 match dst with
 | some d=>tmps.setIfInBounds d v
 | none=>tmps
theorem Ea{tmps:Array Value}{d t:Nat}{v:Value}(h:d≠t):(tmps.setIfInBounds d v).getD t cA=tmps.getD t cA:=by
 simp[agD,Array.getElem?_setIfInBounds_ne h]
theorem Ju{tmps:Array Value}{d:Nat}{v:Value}(h:d<tmps.size):(tmps.setIfInBounds d v).getD d cA=v:=by
 simp[agD,h]
theorem FR.put{F:Nat->Prop}{g:Gh}{w:bS}{tmps:Array Value}{vm ss ss':List Nat}{s:St}(h:FR F g w tmps vm ss s)(av:QM vm){dst:Option Nat}{D:Ji}(hd:Ew vm ss dst D=bI ss')
  (ae:∀ d,dst=bI d->d<tmps.size) {v:Value} {a:AV} (c:Bool) (hv:dst≠b'->SR (AS F g s.ob) w g s.ob v a):FR F g w (It tmps dst v) vm ss' (BE s c a D):=by
 cases dst with
 | none=>
  cases D<;>simp[Ew] at hd
  subst hd;exact h.setOk _
 | some d=>
  have T:=ae d rfl;have aa:=hv (by simp);cases D with
  | no=>simp[Ew] at hd
  | push=>
   simp only[Ew] at hd;split at hd
   ·cases hd
   rename_i hn;simp only[en] at hd;subst hd;have p:d ∉ vm:=fun c=>hn (.inl c)
   have J:d ∉ ss:=fun c=>hn (.inr c)
   refine⟨h.home,h.inj,h.nF,h.fb,h.vl,by simpa[BE] using h.sl,fun i hi=>?_,fun i hi=>?_,fun t I=>?_,h.tab⟩
   ·have j:d≠vm.getD i 0:=fun e=>p (by rw[e,gdE,geE hi];exact ev hi)
    simp only[It,Ea j];exact h.vs i hi
   ·cases i with
    | zero=>simp only[It,BE,eu,Ju T];exact aa
    | succ i=>
     have ab:i<ss.length:=by simpa using hi
     have j:d≠ss.getD i 0:=fun e=>J (by rw[e,gdE,geE ab];exact ev ab)
     simp only[It,BE,gn,Ea j];exact h.st i ab
   ·simp only[It,fA];rcases I with I|I
    ·exact h.fit t (.inl I)
    ·rcases List.mem_cons.1 I with e|I
     ·exact e▸T
     ·exact h.fit t (.inr I)
  | slot n=>
   simp only[Ew] at hd;split at hd
   ·rename_i hn;simp only[en] at hd;subst hd;obtain⟨p,J,aj⟩:=hn
    have R:n<ss.length:=by
     rcases gu n ss.length with h' | h'
     ·exact h'
     ·rw[ew h'] at p;cases p
    have U:ss.getD n 0=d:=by rw[gdE,p];rfl
    refine⟨h.home,h.inj,h.nF,h.fb,h.vl,by simpa[BE] using h.sl,fun i hi=>?_,fun i hi=>?_,fun t I=>?_,h.tab⟩
    ·have j:d≠vm.getD i 0:=fun e=>J (by rw[e,gdE,geE hi];exact ev hi)
     simp only[It,Ea j];exact h.vs i hi
    ·by_cases C:n=i
     ·subst C
      have:(s.st.set n a).getD n .any=a:=by
       rw[gdE,hM (by rw[h.sl];exact R)];rfl
      simp only[It,BE,U,Ju T,this];exact aa
     ·have j:d≠ss.getD i 0:=by
       intro e;have h1:ss[n]? = ss[i]?:=by rw[p,e,gdE,geE hi];rfl
       exact C ((List.getElem?_inj R aj).1 h1)
      have:(s.st.set n a).getD i .any=s.st.getD i .any:=by
       rw[gdE,hW C,gdE]
      simp only[It,BE,Ea j,this];exact h.st i hi
    ·simp only[It,fA];exact h.fit t I
   ·cases hd
  | var n=>
   simp only[Ew] at hd;split at hd
   ·rename_i hn;simp only[en] at hd;subst hd;obtain⟨p,J,ao⟩:=hn
    have R:n<vm.length:=by
     rcases gu n vm.length with h' | h'
     ·exact h'
     ·rw[ew h'] at p;cases p
    have U:vm.getD n 0=d:=by rw[gdE,p];rfl
    refine⟨h.home,h.inj,h.nF,h.fb,by simpa[BE] using h.vl,h.sl,fun i hi=>?_,fun i hi=>?_,fun t I=>?_,h.tab⟩
    ·by_cases C:n=i
     ·subst C
      have:(s.vs.set n a).getD n .any=a:=by
       rw[gdE,hM (by rw[h.vl];exact R)];rfl
      simp only[It,BE,U,Ju T,this];exact aa
     ·have j:d≠vm.getD i 0:=XA p ao hi C
      have:(s.vs.set n a).getD i .any=s.vs.getD i .any:=by
       rw[gdE,hW C,gdE]
      simp only[It,BE,Ea j,this];exact h.vs i hi
    ·have j:d≠ss.getD i 0:=fun e=>J (by rw[e,gdE,geE hi];exact ev hi)
     simp only[It,Ea j];exact h.st i hi
    ·simp only[It,fA];exact h.fit t I
   ·cases hd
open Go Go.RowKit
def AJC(k:fy)(n:Int):Value->Bool
 | .int j m=>j==k&&m==n
 | _=>b9
def ACG(b:Bool):Value->Bool
 | .bool a=>a==b
 | _=>b9
def AJB(l:List UInt8):Value->Bool
 | .string s=>s.data.toList==l
 | _=>b9
def zb:Value->Bool
 | .slice a l c=>a.isNone&&(l==0&&c==0)
 | _=>b9
def JW:Value->Nat
 | .pointer b'=>1
 | .nilFunc=>2
 | .nilIface=>3
 | .tuple vs=>if vs.size=0 then 4 else 0
 | _=>0
def zY(v:Value):AV->Bool
 | .int k n=>AJC k n v
 | .bool b=>ACG b v
 | .str l=>AJB l v
 | .nilsl=>zb v
 | .sl sz els=>zb v&&(els.isEmpty&&cL (1<=sz))
 | .cv u=>JW v==JW u && !(JW v==0)
 | .any=>b7
 | _=>b9
def XS:List Value->List AV->Bool
 | [],[]=>b7
 | v::vs,a::i=>zY v a&&(a.atom&&XS vs i)
 | _,_=>b9
def uk:Value->List Value
 | .agg cs=>cs.toList
 | v=>[v]
def AJD:Value->Bool
 | .agg _=>b7
 | _=>b9
def eqv(v:Value):AV->Bool
 | .agg i=>AJD v&&XS (uk v) i
 | .int k n=>zY v (.int k n)
 | .bool b=>zY v (.bool b)
 | .str l=>zY v (.str l)
 | .nilsl=>zY v .nilsl
 | .sl sz els=>zY v (.sl sz els)
 | .cv u=>zY v (.cv u)
 | .any=>b7
 | _=>b9
def BU(vm ss:List Nat):gf->Src->Bool
 | .tmp t,.v n=>vm[n]? == bI t
 | .tmp t,.s n=>ss[n]? == bI t
 | .const v,.c a=>eqv v a
 | .func f,.c (.fn (.func g) [] [])=>f==g
 | _,_=>b9
theorem Zc:∀ (vs:List Value) (i:List AV),XS vs i=b7->vs.length=i.length
 | [],[],_=>rfl
 | [],_::_,h=>by simp[XS] at h
 | _::_,[],h=>by simp[XS] at h
 | v::vs,a::i,h=>by
  simp only[XS,baT] at h;simp[Zc vs i h.2.2]
theorem RJ:∀ (vs:List Value) (i:List AV) (j:Nat),XS vs i=b7->j<i.length->zY (vs.getD j cA) (i.getD j .any)=b7∧(i.getD j .any).atom=b7
 | [],[],j,_,p=>by simp at p
 | [],_::_,_,h,_=>by simp[XS] at h
 | _::_,[],_,h,_=>by simp[XS] at h
 | v::vs,a::i,0,h,_=>by simp only[XS,baT] at h;exact⟨h.1,h.2.1⟩
 | v::vs,a::i,j+1,h,p=>by
  simp only[XS,baT] at h;simpa using RJ vs i j h.2.2 (by simpa using p)
theorem Ei(cs:Array Value)(j:Nat):cs.toList.getD j cA=cs.getD j cA:=by
 simp[gdE,agD]
theorem rX{v u:Value}(h:JW v=JW u)(T:JW v≠0):v=u:=by
 have key:∀ x:Value,(JW x=1->x = .pointer b')∧(JW x=2->x = .nilFunc)∧(JW x=3->x = .nilIface)∧(JW x=4->x = .tuple #[])∧JW x<=4:=by
  intro x;cases x
  case pointer p=>cases p<;>simp[JW]
  case tuple vs=>
   simp only[JW]
   by_cases hs:vs.size=0
   ·have:vs = #[]:=iR hs;subst this;simp
   ·simp[hs]
  all_goals simp[JW]
 obtain⟨a1,a2,R,J,a5⟩:=key v;obtain⟨I,C,j,i,U⟩:=key u;have:JW v=1∨JW v=2∨JW v=3∨JW v=4:=by omega
 rcases this with e|e|e|e
 ·rw[a1 e,I (h▸e)]
 ·rw[a2 e,C (h▸e)]
 ·rw[R e,j (h▸e)]
 ·rw[J e,i (h▸e)]
theorem nx{S:Nat->Prop}{w:bS}{v:Value}{a:AV}(h:zY v a=b7):VR S w v a:=by
 cases a<;>simp only[zY] at h<;>try (cases h;done)
 case any=>exact .any
 case int k n=>
  cases v<;>simp[AJC] at h
  obtain⟨rfl,rfl⟩:=h;exact .int
 case bool b=>cases v<;>simp[ACG] at h;subst h;exact .bool
 case str l=>
  cases v<;>simp[AJB] at h
  rename_i s;subst h;have:s=⟨s.data.toList.toArray⟩:=by cases s;simp
  rw[this];exact .str
 case nilsl=>
  cases v<;>simp[zb] at h
  obtain⟨rfl,rfl,rfl⟩:=h;exact .nilsl
 case sl sz els=>
  cases v<;>simp[zb] at h
  obtain⟨⟨rfl,rfl,rfl⟩,p,h2⟩:=h;subst p;exact .sl 0 0 (fun _ _=>cA) rfl (df _) h2 (fun c=>by simp at c) (fun i hi=>by simp at hi) (fun i j hi=>by simp at hi) (fun i j hi=>by simp at hi)
 case cv u=>
  simp only[baT,beq_iff_eq,h8,beq_eq_false_iff_ne] at h;rw[rX h.1 h.2];exact .cv
theorem gN{S:Nat->Prop}{w:bS}{v:Value}{a:AV}(h:eqv v a=b7):VR S w v a:=by
 cases a<;>simp only[eqv] at h<;>try (cases h;done)
 case agg C=>
  simp only[baT] at h;obtain⟨p,h⟩:=h;cases v<;>simp[AJD] at p
  rename_i cs;simp only[uk] at h;refine .agg (by simpa using Zc _ _ h) (fun j i=>(RJ _ _ j h i).2) fun j i=>?_
  have:=RJ _ _ j h i;rw[← Ei];exact nx this.1
 case any=>exact .any
 all_goals exact nx h
theorem VR.toSR{S:Nat->Prop}{w:bS}{g:Gh}{ob:Cp}{v:Value}{a:AV}(h:VR S w v a):SR S w g ob v a:=by
 have one:∀ {v a},VR S w v a->Oh S w g ob v a:=by
  intro v a h;cases a<;>first|exact h|(cases h)
 cases a
 case fn f a1 a2=>cases h with|fn n1 n2 p h2=>exact⟨_,_,rfl,n1,n2,fun j i=>one (p j i),fun j i=>one (h2 j i)⟩
 case tup C=>cases h with|tup n p=>exact⟨_,rfl,n,fun j i=>one (p j i)⟩
 case opt b a'=>cases h
 all_goals first|exact h|cases h
theorem Oh.toSR{S:Nat->Prop}{w:bS}{g:Gh}{ob:Cp}{v:Value}{a:AV}(h:Oh S w g ob v a):SR S w g ob v a:=by
 cases a
 case own=>exact h
 case ref=>exact h
 all_goals exact VR.toSR h
theorem FR.src{F:Nat->Prop}{g:Gh}{w:bS}{tmps:Array Value}{ds:List hT}{vm ss:List Nat}{s:St}(h:FR F g w tmps vm ss s){x:gf}{y:Src}(i:BU vm ss x y=b7):
  SR (AS F g s.ob) w g s.ob (({ tmps:=tmps,defers:=ds }:gg).eval x) (rd s y):=by
 cases x
 case tmp t=>
  cases y
  case v n=>
   simp only[BU,beq_iff_eq] at i
   have C:n<vm.length:=by
    rcases gu n vm.length with p | p
    ·exact p
    ·rw[ew p] at i;cases i
   have:=h.vs n C;rw[gdE (l:=vm),i] at this;exact this
  case s n=>
   simp only[BU,beq_iff_eq] at i
   have C:n<ss.length:=by
    rcases gu n ss.length with p | p
    ·exact p
    ·rw[ew p] at i;cases i
   have:=h.st n C;rw[gdE (l:=ss),i] at this;exact this
  case c a=>simp[BU] at i
 case const v=>
  cases y<;>simp only[BU] at i<;>try (cases i;done)
  exact (gN i).toSR
 case func f=>
  cases y<;>try (simp[BU] at i;done)
  rename_i a;cases a<;>try (simp[BU] at i;done)
  rename_i fn a1 a2;cases fn<;>try (simp[BU] at i;done)
  cases a1<;>cases a2<;>simp[BU] at i
  subst i;exact⟨#[],#[],rfl,rfl,rfl,fun j I=>by simp at I,fun j I=>by simp at I⟩
 case global g=>cases y<;>simp[BU] at i
def BM(S:Nat->Prop)(w:bS)(g:Gh)(ob:Cp)(key:Nat)(m:Mk)(r:Result Next):Prop :=
 ∃ v w',r = .ok (.value v) w'∧AG (fun _=>False) w w' ∧
  ((m.hs=[]∧SR S w' g ob v m.v) ∨
   ∃ k h b cap,m.hs=[(k,h)]∧(k/32=key∧k%32≠31)∧w.heap.size<=b∧(∀ S':Nat->Prop,(∀ c,S' c->S c∨c=b)->IK S' w' b cap h.sz h.els) ∧
   ((m.v = .own k∧(v = .slice (bI ⟨b,0,b'⟩) h.els.length cap∨(cap=0∧v = .slice b' 0 0)))∨(m.v = .ref k 0 0∧0<h.els.length∧v = .pointer (bI ⟨b,0,b'⟩))))
theorem BM.val{S:Nat->Prop}{w:bS}{g:Gh}{ob:Cp}{key:Nat}{m:Mk}{r:Result Next}{v:Value}(i:r = .ok (.value v) w)(j:m.hs=[])(h:SR S w g ob v m.v):BM S w g ob key m r :=
 ⟨v,w,i,AG.refl _ _,.inl ⟨j,h⟩⟩
theorem cT{v:Value}(h:v.oneCell'=b7):v.cells = #[v]:=by cases v<;>first|rfl|(simp[Value.oneCell'] at h)
theorem Ht{a:AV}(h:a.atoms=b7){j:Nat}(i:j<a.cells.length):(a.cells.getD j .any).atom=b7:=by
 simp only[AV.atoms,et] at h;refine h _ ?_;rw[gdE,geE i];exact ev i
theorem WS{a:AV}(h:a.isAgg=b9):a.cells=[a]:=by cases a<;>first|rfl|(simp[AV.isAgg] at h)
theorem VR.cells{S:Nat->Prop}{w:bS}{v:Value}{a:AV}(h:VR S w v a)(T:a.atoms=b7):
  v.cells.size=a.cells.length∧∀ j,j<a.cells.length->VR S w (v.cells.getD j cA) (a.cells.getD j .any):=by
 by_cases I:a.isAgg=b7
 ·cases a<;>simp[AV.isAgg] at I
  cases h with|agg J _ U=>exact⟨J,U⟩
 ·have i:a.isAgg=b9:=by simpa using I
  have p:=WS i;have C:a.atom=b7:=by have:=Ht T (j:=0) (by simp[p]);simpa[p] using this
  rw[cT (h.oneCell C),p];refine⟨rfl,fun j R=>?_⟩;have:j=0:=by simpa using R
  subst this;exact h
theorem SR.atoms{S:Nat->Prop}{w:bS}{g:Gh}{ob:Cp}{v:Value}{a:AV}(h:SR S w g ob v a)(R:a.atoms=b7):VR S w v a:=by
 cases a
 case fn f a1 a2=>
  obtain⟨v1,v2,rfl,n1,n2,T,h2⟩:=h;have C:(AV.fn f a1 a2).atom=b7:=by simpa[AV.atoms,AV.cells] using R
  simp only[AV.atom,l7,baT,et,List.isEmpty_iff] at C
  have one:∀ {u:Value} {p:List AV} {j:Nat},j<p.length->(∀ x,x∈p->x.key1=[])->Oh S w g ob u (p.getD j .any)->VR S w u (p.getD j .any):=by
   intro u p j i I hs;have hm:p.getD j .any∈p:=by rw[gdE,geE i];exact ev i
   have J:=I _ hm;revert hs J;generalize p.getD j .any=x;intro hs J;cases x<;>first|exact hs|(simp[AV.key1] at J)
  exact .fn n1 n2 (fun j i=>one i C.1 (T j i)) (fun j i=>one i C.2 (h2 j i))
 all_goals first|exact h|(simp[AV.atoms,AV.cells,AV.atom] at R)
theorem xD{S S':Nat->Prop}{w:bS}{v:Value}{a:AV}(h:VR S w v a)(C:a.atoms=b7)(I:1<=a.cells.length)(t:c')(R:∀ c,S' c->S c∨c=w.heap.size):
  IK S' (w.alloc (.cells v.cells t)) w.heap.size 1 a.cells.length [a]:=by
 have p:=h.cells C;refine⟨I,by simp,fun i hi=>?_,fun _=>⟨v.cells,t,(0,0),hC _ _,.inl rfl,by simp[p.1],fun i j hi J=>?_⟩⟩
 ·have:i=0:=by simpa using hi
  subst this;exact⟨rfl,C⟩
 ·have:i=0:=by simpa using hi
  subst this;simp only[k6,cI,eu];refine (p.2 j J).mono (AG.alloc _ _ _) fun b T p=>?_
  rcases R b p with e|e
  ·exact e
  ·omega
theorem dJ{S:Nat->Prop}{w:bS}{g:Gh}{ob:Cp}{key:Nat}{P:bR}{t:c'}{v:Value}{a:AV}(h:VR S w v a)(i:(XT (Bh key) a).ok=b7){r:Result Next}
  (j:r = .ok (.value (.pointer (bI ⟨w.heap.size,0,b'⟩))) (w.alloc (.cells v.cells t))):BM S w g ob key (XT (Bh key) a) r:=by
 simp only[XT,baT,dtE] at i;exact⟨_,_,j,AG.alloc _ _ _,.inr ⟨_,_,w.heap.size,1,rfl,by simp[Bh],df _,fun S' p=>xD h i.2 i.1 t p,.inr ⟨rfl,by simp,rfl⟩⟩⟩
section
variable {S:Nat->Prop}{w:bS}{g:Gh}{ob:Cp}{v:Value}
theorem Pc{k:fy}{n:Int}(h:SR S w g ob v (.int k n)):v = .int k n:=by simp only[SR,Oh] at h;cases h;rfl
theorem Nz{b:Bool}(h:SR S w g ob v (.bool b)):v = .bool b:=by simp only[SR,Oh] at h;cases h;rfl
theorem Sp{l:List UInt8}(h:SR S w g ob v (.str l)):v = .string ⟨l.toArray⟩:=by simp only[SR,Oh] at h;cases h;rfl
theorem Sq(h:SR S w g ob v .nilsl):v = .slice b' 0 0:=by simp only[SR,Oh] at h;cases h;rfl
theorem YL{a:AV}(h:SR S w g ob v a)(hi:0<=bz a):∃ k,v = .int k (bz a):=by
 cases a<;>simp[bz] at hi ⊢
 exact⟨_,Pc h⟩
end
def mD(P:bR)(t:c'):Option Bool :=
 match P.underlying t with
 | some (.struct _)=>bI b7
 | some (.array _ _)=>bI b7
 | some _=>bI b9
 | none=>b'
def VW(P:bR)(t:c'):Option Nat:=(P.info? t).map (·.size)
def byT(P:bR)(t:c'):Option Nat:=(P.info? t).map (·.bytes)
def zZ(P:bR)(t:c'):Option Value:=(P.info? t).bind (·.zero)
section
variable {P:bR}{w:bS}{t:c'}
theorem Oq{b:Bool}(h:mD P t=bI b):(isAgg t).run P w = .ok b w:=by
 unfold mD at h;unfold isAgg;split at h<;>(try (cases h;done))<;>rename_i i<;>simp only[en] at h<;>subst h
 ·rw[e7,b8 i w];rfl
 ·rw[e7,b8 i w];rfl
 ·rename_i d j h2;rw[e7,b8 i w];cases d<;>first|rfl|(exact absurd rfl (j _))|(exact absurd rfl (h2 _ _))
theorem Tx{i:TypeInfo}(h:P.info? t=bI i):(l8 t).run P w = .ok i w:=by simp[l8,h]
theorem FW{n:Nat}(h:VW P t=bI n):(sizeOf t).run P w = .ok n w:=by
 unfold VW at h;cases hi:P.info? t with
 | none=>rw[hi] at h;cases h
 | some i=>
  rw[hi] at h;simp only[iS,en] at h;simp[sizeOf,l8,hi,h]
theorem Rh{z:Value}(h:zZ P t=bI z):(zeroValue t).run P w = .ok z w:=by
 unfold zZ at h;cases hi:P.info? t with
 | none=>rw[hi] at h;cases h
 | some i=>
  rw[hi] at h;simp only[obS] at h;simp[zeroValue,l8,hi,h]
theorem lx{n:Nat}(h:byT P t=bI n):∃ i,P.info? t=bI i∧i.bytes=n:=by
 unfold byT at h;cases hi:P.info? t with
 | none=>rw[hi] at h;cases h
 | some i=>rw[hi] at h;exact⟨i,rfl,by simpa using h⟩
end
theorem Ur{cs:Array Value}{j:Nat}(h:j<cs.size):∃ u,cs[j]? = bI u∧cs.getD j cA=u :=
 ⟨cs[j],e8 h,by rw[agD,e8 h];rfl⟩
theorem uP{l:List UInt8}{i:Nat}(h:i<l.length):(⟨l.toArray⟩:ByteArray)[i]? = bI (l.getD i 0):=by
 have j:i<(⟨l.toArray⟩:ByteArray).size:=by simpa[ByteArray.size] using h
 rw[getElem?_pos (⟨l.toArray⟩:ByteArray) i j,gdE,geE h];rfl
theorem Hb(b o n:Nat):(⟨b,o,b'⟩:Addr).add n=⟨b,o+n,b'⟩:=by unfold Addr.add;split<;>simp_all
theorem ph{S:Nat->Prop}{w:bS}{P:bR}{t:c'}{agg:Bool}{sz off b base:Nat}{el:AV}{r:Nat->Value}(J:mD P t=bI agg)(aa:VW P t=bI sz)
  (T:el.atoms=b7) (hw:∀ j,j<el.cells.length->w.cell? ⟨b,base+j,b'⟩=bI (r j)) (U:∀ j,j<el.cells.length->VR S w (r j) (el.cells.getD j .any)) (i:(part agg sz off el).ok=b7) :
  ∃ v,(lv t ⟨b,base+off,b'⟩).run P w = .ok v w∧VR S w v (part agg sz off el).v:=by
 cases agg with
 | false=>
  simp only[part,dtE] at i ⊢;exact⟨r off,by simp[lv,Oq J,hw off i],U off i⟩
 | true=>
  simp only[part,baT,dtE] at i ⊢;obtain⟨C,ae⟩:=i
  have hl:=j0 (P:=P) w ⟨b,base+off,b'⟩ sz (fun j=>r (off+j)) (fun j p=>by
   rw[Hb,fa];exact hw (off+j) (by omega))
  refine⟨_,by simp[lv,Oq J,FW aa,hl];rfl,?_⟩
  have I:∀ j,j<sz->(((j7 sz).map fun j=>r (off+j)).toArray).getD j cA=r (off+j):=by
   intro j p;simp[agD,p]
  rw[AM];split
  ·rename_i he;simp only[baT,beq_iff_eq] at he;obtain⟨h0,h1⟩:=he;subst h0;cases el<;>simp[AV.isAgg] at C
   rename_i cs;simp only[AV.cells] at h1 U;refine .agg (by simp[h1]) (fun j p=>by simpa[AV.cells] using Ht T (j:=j) (by simpa[AV.cells] using p)) fun j p=>?_
   rw[I j (by omega),cI];exact U j p
  ·have hd:∀ j,j<sz->((el.cells.drop off).take sz).getD j .any=el.cells.getD (off+j) .any:=by
    intro j p;simp[gdE,h4,ir,p]
   have R:((el.cells.drop off).take sz).length=sz:=by simp;omega
   refine .agg (by simp[R]) (fun j p=>?_) fun j p=>?_
   ·rw[hd j (by omega)];exact Ht T (by omega)
   ·rw[hd j (by omega),I j (by omega)];exact U _ (by omega)
def AHu(vm ss:List Nat)(x:Src):Op->Bool
 | .move y=>BU vm ss y x
 | .assign y=>BU vm ss y x
 | _=>b9
def ym(P:bR)(vm ss:List Nat)(agg:Bool)(sz:Nat)(x:Src):Op->Bool
 | .load t y=>BU vm ss y x&&(mD P t==bI agg&&VW P t==bI sz)
 | _=>b9
def oT(vm ss:List Nat)(x:Src):Op->Bool
 | .nilCheck y=>BU vm ss y x
 | _=>b9
def pQ(P:bR)(t:c'):Option TypeId :=
 match P.underlying t with
 | some (.slice e)=>bI e
 | _=>b'
def jZ(P:bR)(t:c'):Bool :=
 match P.underlying t with
 | some .string=>b7
 | _=>b9
def nY(P:bR)(t:c'):Option IntKind :=
 match P.underlying t with
 | some (.int k)=>bI k
 | _=>b'
theorem OR{P:bR}{t e:c'}(h:pQ P t=bI e):P.underlying t=bI (.slice e):=by
 unfold pQ at h;split at h
 ·rename_i i;simp only[en] at h;rw[i,h]
 ·cases h
theorem Tj{P:bR}{t:c'}(h:jZ P t=b7):P.underlying t=bI .string:=by
 unfold jZ at h;split at h
 ·assumption
 ·cases h
theorem Xq{P:bR}{t:c'}{k:fy}(h:nY P t=bI k):P.underlying t=bI (.int k):=by
 unfold nY at h;split at h
 ·rename_i i;simp only[en] at h;rw[i,h]
 ·cases h
def gZ(P:bR)(vm ss:List Nat)(sz:Nat)(x i:Src):Op->Bool
 | .indexAddr t y j=>BU vm ss y x&&(BU vm ss j i&&(match pQ P t with
  | some e=>VW P e==bI sz
  | none=>b9))
 | _=>b9
def oU(P:bR)(vm ss:List Nat)(x i:Src):Op->Bool
 | .index t y j=>BU vm ss y x&&(BU vm ss j i&&jZ P t)
 | _=>b9
def Rv(P:bR)(t:c')(f:Nat):Option Field :=
 match P.underlying t with
 | some (.struct i)=>i[f]?
 | _=>b'
theorem Zb{P:bR}{t:c'}{f:Nat}{x:lU}(h:Rv P t f=bI x):∃ i,P.underlying t=bI (.struct i)∧i[f]? = bI x:=by
 unfold Rv at h;split at h
 ·rename_i i j;exact⟨i,j,h⟩
 ·cases h
def Zs(P:bR)(vm ss:List Nat)(off:Nat)(x:Src):Op->Bool
 | .fieldAddr t y f=>BU vm ss y x&&(match Rv P t f with
  | some i=>i.offset==off&&(match VW P i.type with|some n=>!(n==0)|none=>b9)
  | none=>b9)
 | _=>b9
def AHw(P:bR)(vm ss:List Nat)(agg:Bool)(off sz:Nat)(x:Src):Op->Bool
 | .field t y f=>BU vm ss y x&&(match Rv P t f with
  | some i=>i.offset==off&&(mD P i.type==bI agg&&VW P i.type==bI sz)
  | none=>b9)
 | _=>b9
def AHx(vm ss:List Nat)(x:Src)(i:Nat):Op->Bool
 | .extract y j=>BU vm ss y x&&i==j
 | _=>b9
def yn(P:bR)(vm ss:List Nat)(k:fy)(x:Src):Op->Bool
 | .convert s d y=>BU vm ss y x&&(match nY P s with|some _=>nY P d==bI k|none=>b9)
 | _=>b9
def cUn(vm ss:List Nat)(u:UnOp)(x:Src):Op->Bool
 | .unOp i _ y=>BU vm ss y x&&u==i
 | _=>b9
def AHv(P:bR)(vm ss:List Nat)(st:Bool)(x:Src):Op->Bool
 | .call { callee:=.builtin .len,args:=args,argTypes:=tys }=>(match args.toList,tys.toList with
  | [y],[t]=>BU vm ss y x&&(if st=b7 then jZ P t else (pQ P t).isSome)
  | _,_=>b9)
 | _=>b9
def ABQ(vm ss:List Nat):Option gf->Option Src->Bool
 | some a,bI b=>BU vm ss a b
 | none,b'=>b7
 | _,_=>b9
def oS(P:bR)(vm ss:List Nat)(sz:Nat)(x:Src)(lo hi:Option Src):Op->Bool
 | .slice t y l h b'=>BU vm ss y x&&(ABQ vm ss l lo&&(ABQ vm ss h hi&&((jZ P t&&sz==0)||(match pQ P t with
  | some e=>VW P e==bI sz && !(sz==0)
  | none=>b9))))
 | _=>b9
def Qe(vm ss:List Nat):List gf->List Src->Bool
 | [],[]=>b7
 | a::r,b::q=>BU vm ss a b&&Qe vm ss r q
 | _,_=>b9
def yk(vm ss:List Nat)(f:Fn)(fi ca:List Src):Op->Bool
 | .makeFunc f' a b=>decide (f=f')&&(Qe vm ss a.toList fi&&Qe vm ss b.toList ca)
 | _=>b9
def yl(P:bR)(vm ss:List Nat)(sz bytes:Nat)(z:AV)(l c:Src):Op->Bool
 | .makeSlice t a b=>BU vm ss a l&&(BU vm ss b c&&(match pQ P t with
  | some e=>VW P e==bI sz&&(byT P e==bI bytes&&(match zZ P e with
   | some i=>eqv i z&&(z.cells.length==sz&&z.atoms)
   | none=>b9))
  | none=>b9))
 | _=>b9
def AHz(vm ss:List Nat)(x:Src):Op->Bool
 | .box _ y=>BU vm ss y x
 | _=>b9
def oW(P:bR)(z:AV):Op->Bool
 | .alloc e=>(match zZ P e with
  | some i=>eqv i z
  | none=>b9)
 | _=>b9
def cMM(vm ss:List Nat)(mx:Bool)(xs:List Src):Op->Bool
 | .call { callee:=.builtin b,args:=args,argTypes:=_ }=>Qe vm ss args.toList xs&&(match b with | .max=>mx | .min=>!mx|_=>b9)
 | _=>b9
section
variable {F:Nat->Prop}{g:Gh}{w:bS}{tmps:Array Value}{ds:List hT}{vm ss:List Nat}{s:St}{P:bR}{o:Oper}{key:Nat}
theorem AJM(h:FR F g w tmps vm ss s){x:Src}(i:AHu vm ss x o.op=b7):
  BM (AS F g s.ob) w g s.ob key (Ds (rd s x)) ((bN ({ tmps:=tmps,defers:=ds }:gg).eval o).run P w):=by
 unfold AHu at i;split at i
 ·rename_i y j;exact .val (by simp[bN,j]) rfl (h.src (ds:=ds) i)
 ·rename_i y j;exact .val (by simp[bN,j]) rfl (h.src (ds:=ds) i)
 ·cases i
theorem UJ(agg:Bool)(sz off:Nat)(el:AV):(part agg sz off el).hs=[]:=by cases agg<;>rfl
theorem IK.cell{S:Nat->Prop}{w:bS}{b cap sz:Nat}{els:List AV}(J:IK S w b cap sz els):∃ r:Nat->Nat->Value,∀ i j,i<els.length->j<sz ->
  w.cell? ⟨b,i*sz+j,b'⟩=bI (r i j)∧VR S w (r i j) ((els.getD i .any).cells.getD j .any):=by
 rcases iB cap with hz|U
 ·exact⟨fun _ _=>cA,fun i j hi _=>absurd hi (by have:=J.len;omega)⟩
 obtain⟨arr,T,fz,R,hf,C,p⟩:=J.row U;refine⟨fun i j=>arr.getD (i*sz+j) cA,fun i j hi hj=>⟨?_,p i j hi hj⟩⟩
 have I:i*sz+j<arr.size:=by
  have h1:=J.len;have:(i+1)*sz<=cap*sz:=bX _ (by omega);rw[d'] at this;omega
 simp only[ka,R];simp[agD,I]
theorem FR.nil_els(h:FR F g w tmps vm ss s){k:Nat}{hm:Hm}(i:AK k s.ob=bI hm)(j:g.cap k=0):hm.els=[]:=by
 have:=(h.home k hm i).len;exact dX.1 (by omega)
theorem kN(h:FR F g w tmps vm ss s){agg:Bool}{sz:Nat}{t:c'}(T:mD P t=bI agg)(ab:VW P t=bI sz){v:Value}{a:AV}(hv:SR (AS F g s.ob) w g s.ob v a)(I:(OE s.ob agg sz a).ok=b7):
  ∃ ad u,v = .pointer (bI ad)∧(lv t ad).run P w = .ok u w∧VR (AS F g s.ob) w u (OE s.ob agg sz a).v∧(OE s.ob agg sz a).hs=[]:=by
 cases a<;>simp only[OE,bad] at I<;>try (cases I;done)
 case ref k i off=>
  obtain⟨hm,ho,hi,ae⟩:=hv;simp only[OE,ho,kM] at I ⊢;have hh:=h.home k hm ho;obtain⟨r,R⟩:=hh.cell;have p:=hh.cells i hi;obtain⟨u,C,U⟩:=ph (S:=AS F g s.ob) (b:=g.β k) (base:=i*hm.sz) (r:=r i) T ab p.2 (fun j J=>(R i j hi (by rw[p.1] at J;exact J)).1) (fun j J=>(R i j hi (by rw[p.1] at J;exact J)).2) I;exact⟨_,u,ae,C,U,UJ _ _ _ _⟩
 case ptr sz0 els i off=>
  simp only[SR,Oh] at hv;cases hv with
  | ptr b aa r aj hi hs p hw hr=>
   simp only[OE] at I ⊢;obtain⟨u,C,U⟩:=ph (S:=AS F g s.ob) (b:=b) (base:=aa+i*sz0) (r:=r i) T ab (p i hi).2 (fun j J=>by rw[fa];exact hw i j hi (by rw[(p i hi).1] at J;exact J)) (fun j J=>hr i j hi (by rw[(p i hi).1] at J;exact J)) I;exact⟨_,u,rfl,by rw[fa] at C;exact C,U,UJ _ _ _ _⟩
theorem AFj(h:FR F g w tmps vm ss s){agg:Bool}{sz:Nat}{x:Src}(j:ym P vm ss agg sz x o.op=b7)(J:(OE s.ob agg sz (rd s x)).ok=b7):
  BM (AS F g s.ob) w g s.ob key (OE s.ob agg sz (rd s x)) ((bN ({ tmps:=tmps,defers:=ds }:gg).eval o).run P w):=by
 unfold ym at j;split at j
 ·rename_i t y U;simp only[baT,beq_iff_eq] at j;obtain⟨hs,p,I⟩:=j;obtain⟨ad,u,T,i,C,R⟩:=kN h p I (h.src (ds:=ds) hs) J;exact .val (v:=u) (by simp[bN,U,Instr.loadAt,hQ,T,i]) R C.toSR
 ·cases j
theorem zq(h:FR F g w tmps vm ss s){x:Src}(I:oT vm ss x o.op=b7)(p:(OX (rd s x)).ok=b7):
  BM (AS F g s.ob) w g s.ob key (OX (rd s x)) ((bN ({ tmps:=tmps,defers:=ds }:gg).eval o).run P w):=by
 unfold oT at I;split at I
 ·rename_i y J;have C:=h.src (ds:=ds) I;revert p;generalize rd s x=a at C;intro p;cases a<;>simp only[OX,bad] at p<;>try (cases p;done)
  case ref k i off=>
   obtain⟨hm,T,hi,j⟩:=id C;exact .val (v:=.pointer (bI ⟨g.β k,i*hm.sz+off,b'⟩)) (by simp[bN,J,j]) rfl (by rw[j] at C;exact C)
  case ptr sz0 els i off=>
   have RA:=C;simp only[SR,Oh] at C;generalize j:({ tmps:=tmps,defers:=ds }:gg).eval y=v at C RA;cases C
   exact .val (by simp[bN,J,j]) rfl RA
  case fn f a1 a2=>
   cases f<;>simp only[OX,bad] at p<;>try (cases p;done)
   rename_i R;obtain⟨v1,v2,j,_⟩:=id C;exact .val (v:=.func (.func R) v1 v2) (by simp[bN,J,j]) rfl (by rw[j] at C;exact C)
 ·cases I
theorem vO(h:FR F g w tmps vm ss s){sz:Nat}{x i:Src}(hc:gZ P vm ss sz x i o.op=b7)(p:(LT s.ob sz (bz (rd s i)) (rd s x)).ok=b7):
  BM (AS F g s.ob) w g s.ob key (LT s.ob sz (bz (rd s i)) (rd s x)) ((bN ({ tmps:=tmps,defers:=ds }:gg).eval o).run P w):=by
 unfold gZ at hc;split at hc
 ·rename_i t y j he;simp only[baT] at hc;obtain⟨hs,hj,C⟩:=hc;cases T:pQ P t with
  | none=>rw[T] at C;cases C
  | some e=>
   rw[T] at C;simp only[beq_iff_eq] at C;have hu:=OR T;have hv:=h.src (ds:=ds) hs;have aa:=h.src (ds:=ds) hj;revert p;generalize rd s x=a at hv;intro p;cases a<;>simp only[LT,bad] at p<;>try (cases p;done)
   case own k=>
    obtain⟨hm,ho,I⟩:=hv;simp only[LT,ho,pq,Fp,AU,baT,beq_iff_eq,dtE] at p ⊢;obtain⟨R,h0,h1⟩:=p;obtain⟨kk,U⟩:=YL aa h0;have J:(bz (rd s i)).toNat<hm.els.length:=by omega
    rcases I with I|⟨hz,I⟩
    rotate_left
    ·rw[h.nil_els ho hz] at J;cases J
    refine .val (v:=.pointer (bI ⟨g.β k,(bz (rd s i)).toNat*sz,b'⟩)) ?_ rfl ⟨hm,ho,J,by simp[R]⟩;simp[bN,he,ln,I,U,k5,b8 hu,FW C,h0,h1,Hb]
   case sl sz0 els=>
    simp only[SR,Oh] at hv;generalize I:({ tmps:=tmps,defers:=ds }:gg).eval y=v at hv;cases hv with
    | @sl ad n cap _ _ b off r hn a1 ac ha av hw hr=>
     simp only[LT,Fp,AU,baT,beq_iff_eq,dtE] at p ⊢;obtain⟨R,h0,h1⟩:=p;obtain⟨kk,U⟩:=YL aa h0;have J:(bz (rd s i)).toNat<els.length:=by omega
     obtain⟨rfl,au⟩:=ha (by omega);subst hn;refine .val (v:=.pointer (bI ⟨b,off+((bz (rd s i)).toNat*sz0+0),b'⟩)) ?_ rfl (VR.toSR (VR.narrow (.ptr b off r ac J au av hw hr)));simp[bN,he,ln,I,U,k5,b8 hu,FW C,h0,h1,Hb,R]
 ·cases hc
theorem zr(h:FR F g w tmps vm ss s){x i:Src}(C:oU P vm ss x i o.op=b7)(p:(Qx (bz (rd s i)) (rd s x)).ok=b7):
  BM (AS F g s.ob) w g s.ob key (Qx (bz (rd s i)) (rd s x)) ((bN ({ tmps:=tmps,defers:=ds }:gg).eval o).run P w):=by
 unfold oU at C;split at C
 ·rename_i t y j he;simp only[baT] at C;obtain⟨hs,hj,J⟩:=C;have hu:=Tj J;have hv:=h.src (ds:=ds) hs;have I:=h.src (ds:=ds) hj;revert p;generalize rd s x=a at hv;intro p;cases a<;>simp only[Qx,bad] at p<;>try (cases p;done)
  case str l=>
   have U:=Sp hv;simp only[Qx,Fp,AU,baT,dtE] at p ⊢;obtain⟨h0,h1⟩:=p;obtain⟨kk,T⟩:=YL I h0;have R:(bz (rd s i)).toNat<l.length:=by omega
   refine .val (v:=.int .u8 ((l.getD (bz (rd s i)).toNat 0).toNat:Int)) ?_ rfl (VR.toSR (by unfold Fm;exact .int));have hg:=uP R;simp[bN,he,Instr.index,U,T,k5,b8 hu,h0,hg]
 ·cases C
theorem sK(h:FR F g w tmps vm ss s){off:Nat}{x:Src}(hc:Zs P vm ss off x o.op=b7)(p:(MV off (rd s x)).ok=b7):
  BM (AS F g s.ob) w g s.ob key (MV off (rd s x)) ((bN ({ tmps:=tmps,defers:=ds }:gg).eval o).run P w):=by
 unfold Zs at hc;split at hc
 ·rename_i t y f he;simp only[baT] at hc;obtain⟨hs,j⟩:=hc;cases hf:Rv P t f with
  | none=>rw[hf] at j;cases j
  | some fd=>
   rw[hf] at j;simp only[baT,beq_iff_eq] at j;obtain⟨aa,hz⟩:=j;cases J:VW P fd.type with
   | none=>rw[J] at hz;cases hz
   | some n=>
    rw[J] at hz;have hn:n≠0:=by simpa using hz
    obtain⟨fs,hu,ab⟩:=Zb hf;have T:=h.src (ds:=ds) hs;have I:∀ ad:Addr,(fieldPlace ad fd).run P w = .ok (ad.add off) w:=fun ad=>by simp[fieldPlace,FW J,hn,aa]
    revert p;generalize rd s x=a at T;intro p;cases a<;>simp only[MV,bad] at p<;>try (cases p;done)
    case ref k i o0=>
     obtain⟨hm,ho,hi,R⟩:=T;refine .val (v:=.pointer (bI ⟨g.β k,i*hm.sz+(o0+off),b'⟩)) ?_ rfl ⟨hm,ho,hi,rfl⟩;simp[bN,he,lr,R,b8 hu,ab,hQ,I,Hb,fa]
    case ptr sz0 els i o0=>
     simp only[SR,Oh] at T;generalize R:({ tmps:=tmps,defers:=ds }:gg).eval y=v at T;cases T with
     | ptr b C r U hi aj au hw hr=>
      refine .val (v:=.pointer (bI ⟨b,C+(i*sz0+(o0+off)),b'⟩)) ?_ rfl (VR.toSR (.ptr b C r U hi aj au hw hr));simp[bN,he,lr,R,b8 hu,ab,hQ,I,Hb,fa]
 ·cases hc
theorem AJP(h:FR F g w tmps vm ss s){x:Src}{i:Nat}(I:AHx vm ss x i o.op=b7)(p:(lK i (rd s x)).ok=b7):
  BM (AS F g s.ob) w g s.ob key (lK i (rd s x)) ((bN ({ tmps:=tmps,defers:=ds }:gg).eval o).run P w):=by
 unfold AHx at I;split at I
 ·rename_i y j he;simp only[baT,beq_iff_eq] at I;obtain⟨hs,R⟩:=I;subst R;have hv:=h.src (ds:=ds) hs;revert p;generalize rd s x=a at hv;intro p;cases a<;>simp only[lK,bad] at p<;>try (cases p;done)
  case tup ad=>
   obtain⟨vs,U,hn,J⟩:=hv;simp only[lK,Fp,dtE] at p ⊢;obtain⟨u,C,T⟩:=Ur (cs:=vs) (j:=i) (by rw[hn];exact p);have J:=J i p;rw[T] at J;exact .val (v:=u) (by simp[bN,he,U,Instr.extract,C]) rfl J.toSR
 ·cases I
theorem s_un(h:FR F g w tmps vm ss s){u:UnOp}{x:Src}(p:cUn vm ss u x o.op=b7)(i:(zW u (rd s x)).ok=b7):
  BM (AS F g s.ob) w g s.ob key (zW u (rd s x)) ((bN ({ tmps:=tmps,defers:=ds }:gg).eval o).run P w):=by
 unfold cUn at p;split at p
 ·rename_i J t y I;simp only[baT,beq_iff_eq] at p;obtain⟨hs,rfl⟩:=p;have C:=h.src (ds:=ds) hs;revert i;generalize rd s x=a at C;intro i;cases a<;>simp only[zW,bad] at i<;>try (cases i;done)
  case int k n=>
   have j:=Pc C;cases u<;>simp only[Ds] at i<;>try (cases i;done)
   exact .val (v:=.int k (k.wrap (0-n))) (by simp[bN,I,j,Op.unary,j5]) rfl (VR.toSR .int)
  case bool b=>
   have j:=Nz C;cases u<;>simp only[Ds] at i<;>try (cases i;done)
   exact .val (v:=.bool (!b)) (by simp[bN,I,j,Op.unary]) rfl (VR.toSR .bool)
 ·cases p
theorem AFm(h:FR F g w tmps vm ss s){k:fy}{x:Src}(p:yn P vm ss k x o.op=b7)(j:(Zh k (rd s x)).ok=b7):
  BM (AS F g s.ob) w g s.ob key (Zh k (rd s x)) ((bN ({ tmps:=tmps,defers:=ds }:gg).eval o).run P w):=by
 unfold yn at p;split at p
 ·rename_i J U y R;simp only[baT] at p;obtain⟨hs,i⟩:=p;cases hi:nY P J with
  | none=>rw[hi] at i;cases i
  | some T=>
   rw[hi] at i;simp only[beq_iff_eq] at i;have I:=h.src (ds:=ds) hs;revert j;generalize rd s x=a at I;intro j;cases a<;>simp only[Zh,bad] at j<;>try (cases j;done)
   case int k1 n=>
    have C:=Pc I;exact .val (v:=.int k (k.wrap n)) (by simp[bN,R,C,convert,b8 (Xq hi),b8 (Xq i),Conv.intToInt]) rfl (VR.toSR .int)
 ·cases p
theorem OA(l:List UInt8):(⟨l.toArray⟩:ByteArray).size=l.length:=by simp[ByteArray.size]
theorem AJN(h:FR F g w tmps vm ss s){st:Bool}{x:Src}(I:AHv P vm ss st x o.op=b7)(j:(XP s.ob st (rd s x)).ok=b7):
  BM (AS F g s.ob) w g s.ob key (XP s.ob st (rd s x)) ((bN ({ tmps:=tmps,defers:=ds }:gg).eval o).run P w):=by
 unfold AHv at I;split at I
 ·rename_i args R T;split at I
  ·rename_i y t aa ab;simp only[baT] at I;obtain⟨hs,C⟩:=I;obtain rfl:args = #[y]:=by cases args;simp_all
   obtain rfl:R = #[t]:=by cases R;simp_all
   have p:=h.src (ds:=ds) hs;revert j;generalize rd s x=a at p;intro j;cases a<;>simp only[XP,bad] at j<;>try (cases j;done)
   case str l=>
    have i:=Sp p;simp only[Fp] at j;subst j;have J:=Tj (by simpa using C);exact .val (v:=.int .i64 (l.length:Int)) (by simp[bN,T,j3,k9,j4,hI,b8 J,i,goInt,OA]) rfl (VR.toSR .int)
   all_goals
    obtain rfl:st=b9:=by cases st<;>simp_all [Fp,Gq]
    simp only[bfT,if_false,j6] at C;obtain⟨e,U⟩:=C;have J:=OR U
   case sl sz els=>
    simp only[SR,Oh] at p;generalize i:({ tmps:=tmps,defers:=ds }:gg).eval y=v at p;cases p with
    | @sl ad n cap _ _ b off r hn aj ac ha av hw hr=>
     exact .val (v:=.int .i64 (els.length:Int)) (by simp[bN,T,j3,k9,j4,hI,b8 J,i,goInt,hn]) rfl (VR.toSR .int)
   case nilsl=>
    have i:=Sq p;exact .val (v:=.int .i64 0) (by simp[bN,T,j3,k9,j4,hI,b8 J,i,goInt]) rfl (VR.toSR .int)
   case own k=>
    obtain⟨hm,ho,i⟩:=p;simp only[XP,ho,pk];rcases i with i|⟨hz,i⟩
    rotate_left
    ·rw[h.nil_els ho hz];exact .val (v:=.int .i64 0) (by simp[bN,T,j3,k9,j4,hI,b8 J,i,goInt]) rfl (VR.toSR .int)
    exact .val (v:=.int .i64 (hm.els.length:Int)) (by simp[bN,T,j3,k9,j4,hI,b8 J,i,goInt]) rfl (VR.toSR .int)
  ·cases I
 ·cases I
theorem AJR(h:FR F g w tmps vm ss s){x:Src}(j:AHz vm ss x o.op=b7)(i:(XT (Bh key) (rd s x)).ok=b7):
  BM (AS F g s.ob) w g s.ob key (XT (Bh key) (rd s x)) ((bN ({ tmps:=tmps,defers:=ds }:gg).eval o).run P w):=by
 unfold AHz at j;split at j
 ·rename_i e y I;have C:=h.src (ds:=ds) j;have p:(rd s x).atoms=b7:=by simp only[XT,baT] at i;exact i.2
  exact dJ (P:=P) (t:=e) (C.atoms p) i (by simp[bN,I,Instr.box,newVar,j9])
 ·cases j
theorem zy(h:FR F g w tmps vm ss s){z:AV}(i:oW P z o.op=b7)(j:(XT (Bh key) z).ok=b7):
  BM (AS F g s.ob) w g s.ob key (XT (Bh key) z) ((bN ({ tmps:=tmps,defers:=ds }:gg).eval o).run P w):=by
 unfold oW at i;split at i
 ·rename_i e C;split at i
  ·rename_i I p;exact dJ (P:=P) (t:=e) (gN i) j (by simp[bN,C,Instr.alloc,Rh p,newVar,j9])
  ·cases i
 ·cases i
theorem AJO(h:FR F g w tmps vm ss s){agg:Bool}{off sz:Nat}{x:Src}(hc:AHw P vm ss agg off sz x o.op=b7)(p:(part agg sz off (rd s x)).ok=b7)(T:(rd s x).isAgg=b7):
  BM (AS F g s.ob) w g s.ob key (part agg sz off (rd s x)) ((bN ({ tmps:=tmps,defers:=ds }:gg).eval o).run P w):=by
 unfold AHw at hc;split at hc
 ·rename_i t y f he;simp only[baT] at hc;obtain⟨hs,i⟩:=hc;cases hf:Rv P t f with
  | none=>rw[hf] at i;cases i
  | some fd=>
   rw[hf] at i;simp only[baT,beq_iff_eq] at i;obtain⟨I,R,ay⟩:=i;obtain⟨fs,hu,ae⟩:=Zb hf;have hv:=h.src (ds:=ds) hs;revert p T;generalize rd s x=a at hv;intro p T;cases a<;>simp[AV.isAgg] at T
   rename_i U;simp only[SR,Oh] at hv;generalize aj:({ tmps:=tmps,defers:=ds }:gg).eval y=v at hv;cases hv with
   | @agg cs _ hn av hr=>
    cases agg with
    | false=>
     have C:off<U.length:=of_decide_eq_true p;obtain⟨u,hg,a1⟩:=Ur (cs:=cs) (j:=off) (by rw[hn];exact C);have ac:=hr off C;rw[a1] at ac;exact .val (v:=u) (by simp[bN,he,lz,aj,b8 hu,ae,asAgg,j8,I,Oq R,hg]) rfl ac.toSR
    | true=>
     have a6:off+sz<=U.length:=of_decide_eq_true (Bool.and_eq_true_iff.1 (show ((AV.agg U).isAgg&&cL (off+sz<=(AV.agg U).cells.length))=b7 from p)).2;simp only[part,AV.cells];refine .val (v:=.agg (cs.extract off (off+sz))) (by simp[bN,he,lz,aj,b8 hu,ae,asAgg,j8,I,Oq R,FW ay]) rfl (VR.toSR ?_)
     have J:∀ j,j<sz->(cs.extract off (off+sz)).getD j cA=cs.getD (off+j) cA:=by
      intro j hj;rw[agD,agD,Array.getElem?_extract,if_pos (by omega)]
     have ab:(cs.extract off (off+sz)).size=sz:=by simp;omega
     rw[AM];split
     ·rename_i ao;simp only[baT,beq_iff_eq] at ao;obtain⟨h0,h1⟩:=ao;subst h0;refine .agg (by rw[ab,h1]) av fun j hj=>?_
      rw[J j (by omega),cI];exact hr j hj
     ·have hd:∀ j,j<sz->((U.drop off).take sz).getD j .any=U.getD (off+j) .any:=by
       intro j hj;simp[gdE,h4,ir,hj]
      have ad:((U.drop off).take sz).length=sz:=by simp;omega
      refine .agg (by rw[ab,ad]) (fun j hj=>?_) fun j hj=>?_
      ·rw[hd j (by omega)];exact av _ (by omega)
      ·rw[hd j (by omega),J j (by omega)];exact hr _ (by omega)
 ·cases hc
end
section
variable {F:Nat->Prop}{g:Gh}{w:bS}{tmps:Array Value}{ds:List hT}{vm ss:List Nat}{s:St}{P:bR}{o:Oper}{key:Nat}
theorem XB(P:bR)(w:bS)(op:hV)(t:c')(x y:gf)(k j:fy)(a b:Int):(k4 op t x y (.int k a) (.int j b)).run P w = .ok () w:=by
 unfold k4;cases op<;>simp
theorem Un(P:bR)(w:bS)(op:hV)(t:c')(x y:gf)(a b:Bool):(k4 op t x y (.bool a) (.bool b)).run P w = .ok () w:=by
 unfold k4;cases op<;>simp
theorem lR(P:bR)(w:bS)(op:hV)(t:c')(x y:gf)(a b:ByteArray):(k4 op t x y (.string a) (.string b)).run P w = .ok () w:=by
 unfold k4;cases op<;>simp
theorem xA(P:bR)(w:bS)(t:c')(op:hV)(k:fy)(x y:Int)(i:(Nv op k x y).ok=b7):
  ∃ v,(binOp op t (.int k x) (.int k y)).run P w = .ok v w∧∀ S,VR S w v (Nv op k x y).v:=by
 cases op<;>simp only[Nv,Ds,Fp,bad] at i ⊢<;>try (cases i;done)
 case add=>exact⟨.int k (k.wrap (x+y)),by simp[binOp,j5],fun _=>.int⟩
 case sub=>exact⟨.int k (k.wrap (x-y)),by simp[binOp,j5],fun _=>.int⟩
 case mul=>exact⟨.int k (k.wrap (x*y)),by simp[binOp,j5],fun _=>.int⟩
 case quo=>
  have j:y≠0:=by simpa[nz] using i
  exact⟨.int k (k.wrap (x.tdiv y)),by simp[binOp,Op.intDiv,j],fun _=>.int⟩
 case rem=>
  have j:y≠0:=by simpa[nz] using i
  exact⟨.int k (x.tmod y),by simp[binOp,Op.intDiv,j],fun _=>.int⟩
 case and=>exact⟨_,by simp only[binOp,k3];simp only[ne_eq,not_true,if_false];rfl,fun _=>.int⟩
 case or=>exact⟨_,by simp only[binOp,k3];simp only[ne_eq,not_true,if_false];rfl,fun _=>.int⟩
 case xor=>exact⟨_,by simp only[binOp,k3];simp only[ne_eq,not_true,if_false];rfl,fun _=>.int⟩
 case andNot=>exact⟨_,by simp only[binOp,k3];simp only[ne_eq,not_true,if_false];rfl,fun _=>.int⟩
 case eql=>exact⟨.bool (x==y),by simp[binOp,hZ],fun _=>.bool⟩
 case neq=>exact⟨.bool (!(x==y)),by simp[binOp,hZ,bne],fun _=>.bool⟩
 case lss=>exact⟨.bool (cL (x<y)),by simp[binOp,hZ],fun _=>.bool⟩
 case leq=>exact⟨.bool (cL (x<=y)),by simp[binOp,hZ],fun _=>.bool⟩
 case gtr=>exact⟨.bool (cL (y<x)),by simp[binOp,hZ],fun _=>.bool⟩
 case geq=>exact⟨.bool (cL (y<=x)),by simp[binOp,hZ],fun _=>.bool⟩
theorem zm(P:bR)(w:bS)(t:c')(op:hV)(k j:fy)(x y:Int)(i:(er op k x y).ok=b7):
  ∃ v,(binOp op t (.int k x) (.int j y)).run P w = .ok v w∧∀ S,VR S w v (er op k x y).v:=by
 cases op<;>simp only[er,Ds,Fp,bad,SL,dtE] at i ⊢<;>try (cases i;done)
 case shl=>
  have p:¬ y<0:=by omega
  exact⟨.int k (k.wrap (x*2^(min y.toNat k.bits))),by simp[binOp,Op.shift,p],fun _=>.int⟩
 case shr=>
  have p:¬ y<0:=by omega
  exact⟨.int k (x.fdiv (2^(min y.toNat k.bits))),by simp[binOp,Op.shift,p],fun _=>.int⟩
theorem uQ(x y:List UInt8):(⟨x.toArray⟩:ByteArray)++⟨y.toArray⟩=⟨(x++y).toArray⟩:=by
 apply ByteArray.ext;simp
theorem vB(P:bR)(w:bS)(t:c')(op:hV)(x y:List UInt8)(i:(Ve op x y).ok=b7):
  ∃ v,(binOp op t (.string ⟨x.toArray⟩) (.string ⟨y.toArray⟩)).run P w = .ok v w∧∀ S,VR S w v (Ve op x y).v:=by
 cases op<;>simp only[Ve,Ds,Fp,bad] at i ⊢<;>try (cases i;done)
 case add=>
  have p:x.length+y.length<=9223372036854775807:=of_decide_eq_true i
  have j:¬ (((⟨x.toArray⟩:ByteArray).size+(⟨y.toArray⟩:ByteArray).size:Nat):Int)>IntKind.i64.max:=by
   rw[OA,OA];have:IntKind.i64.max=9223372036854775807:=by decide
   omega
  refine⟨.string ⟨(x++y).toArray⟩,?_,fun _=>.str⟩;simp only[binOp,gj];rw[if_neg j,uQ];rfl
 case eql=>exact⟨.bool (x==y),by simp[binOp,gj],fun _=>.bool⟩
 case neq=>exact⟨.bool (!(x==y)),by simp[binOp,gj],fun _=>.bool⟩
 case lss=>exact⟨.bool (h5 x y),by simp[binOp,gj],fun _=>.bool⟩
 case leq=>exact⟨.bool (h5 x y||x==y),by simp[binOp,gj],fun _=>.bool⟩
 case gtr=>exact⟨.bool (!(h5 x y||x==y)),by simp[binOp,gj],fun _=>.bool⟩
 case geq=>exact⟨.bool (!Op.bytesLess x y),by simp[binOp,gj],fun _=>.bool⟩
def yw(P:bR)(t:c'):Bool :=
 match P.underlying t with
 | some .bool=>b7
 | _=>b9
theorem yv{P:bR}{t:c'}(h:yw P t=b7):P.underlying t=bI .bool:=by
 unfold yw at h;split at h
 ·assumption
 ·cases h
def AIA(P:bR)(vm ss:List Nat)(bl:Bool)(u:hV)(x y:Src):Op->Bool
 | .binOp i t a b _=>BU vm ss a x&&(BU vm ss b y&&(u==i&&(!bl||yw P t)))
 | _=>b9
theorem xZ(P:bR)(w:bS)(t:c')(i:P.underlying t=bI .bool)(x y:Bool)(n:Nat):(l2 (n+1) t (.bool x) (.bool y)).run P w = .ok (x==y) w:=by
 simp[l2,b8 i]
theorem AJS(h:FR F g w tmps vm ss s){bl:Bool}{u:hV}{x y:Src}(hc:AIA P vm ss bl u x y o.op=b7)(i:(Zx bl u (rd s x) (rd s y)).ok=b7):
  BM (AS F g s.ob) w g s.ob key (Zx bl u (rd s x) (rd s y)) ((bN ({ tmps:=tmps,defers:=ds }:gg).eval o).run P w):=by
 unfold AIA at hc;split at hc
 ·rename_i u' t a b yt he;simp only[baT,beq_iff_eq] at hc;obtain⟨aj,ae,hu,ad⟩:=hc;subst hu;have I:=h.src (ds:=ds) aj;have C:=h.src (ds:=ds) ae;revert i;generalize rd s x=ax at I;generalize rd s y=ay at C;intro i;cases ax<;>cases ay<;>simp only[Zx,bad] at i<;>try (cases i;done)
  case int.int k n j m=>
   have T:=Pc I;have R:=Pc C;rw[AM] at i;simp only[Zx,AM];split
   ·rename_i J;rw[if_pos J] at i;obtain⟨v,hr,U⟩:=zm P w t u k j n m i;exact .val (v:=v) (by simp[bN,he,T,R,XB,hr]) (by cases u<;>rfl) (U _).toSR
   ·rename_i J;rw[if_neg J] at i;simp only[Gq,baT,beq_iff_eq] at i;obtain⟨hk,i⟩:=i;subst hk;obtain⟨v,hr,U⟩:=xA P w t u k n m i;exact .val (v:=v) (by simp[bN,he,T,R,XB,hr]) (by cases u<;>rfl) (U _).toSR
  case str.str l m=>
   have T:=Sp I;have R:=Sp C;obtain⟨v,hr,U⟩:=vB P w t u l m i;exact .val (v:=v) (by simp[bN,he,T,R,lR,hr]) (by cases u<;>rfl) (U _).toSR
  case bool.bool p q=>
   have T:=Nz I;have R:=Nz C;simp only[Gq,baT] at i;obtain⟨au,i⟩:=i;subst au;have ao:=yv (by simpa using ad);have hq:=xZ P w t ao p q 9999;simp only[Zx,Gq,Bool.true_and];cases u<;>simp only[fH,bad] at i<;>try (cases i;done)
   case eql=>exact .val (v:=.bool (p==q)) (by simp[bN,he,T,R,Un,binOp,Op.equal,Op.maxDepth,hq]) rfl (VR.toSR .bool)
   case neq=>exact .val (v:=.bool (!(p==q))) (by simp[bN,he,T,R,Un,binOp,Op.equal,Op.maxDepth,hq]) rfl (VR.toSR .bool)
 ·cases hc
theorem Ri(P:bR)(w:bS){k:fy}{n:Int}{y:Nat}(c:BoundsCode)(j:0<=n)(i:n<=(y:Int)):(kR (.int k n) y c).run P w = .ok n.toNat w:=by
 simp[kR,k5,j,i]
theorem cQ{α:Type}(l:List α)(a b:Nat):(l.take b).drop a=(l.drop a).take (b-a):=by
 rw[List.drop_take]
theorem QI(P:bR)(w:bS){isS:Bool}{len cap:Nat}{lo hi:Option Value}{a b:Int}(p:match lo with|some v=>∃ k,v = .int k a|none=>a=0)
  (i:match hi with|some v=>∃ k,v = .int k b|none=>b=(len:Int)) (R:0<=a) (I:a<=b) (J:b<=(cap:Int)) :
  (ga isS len cap lo hi b').run P w = .ok (a.toNat,b.toNat,cap) w:=by
 have e:((b.toNat:Nat):Int)=b:=by omega
 cases lo with
 | none=>
  simp only at p;subst p;cases hi with
  | none=>simp only at i;subst i;simp[ga]
  | some v=>
   obtain⟨k,rfl⟩:=i;cases isS<;>simp[ga,Ri P w _ (by omega:(0:Int)<=b) J]
 | some u=>
  obtain⟨j,rfl⟩:=p;cases hi with
  | none=>
   simp only at i;subst i;simp[ga,Ri P w _ R I]
  | some v=>
   obtain⟨k,rfl⟩:=i;have C:a<=((b.toNat:Nat):Int):=by omega
   cases isS<;>simp[ga,Ri P w _ (by omega:(0:Int)<=b) J,Ri P w _ R C]
theorem NI(h:FR F g w tmps vm ss s){l:Option gf}{lo:Option Src}(i:ABQ vm ss l lo=b7){d:Int}(j:0<=KR d (lo.map (rd s))):
  match l.map ({ tmps:=tmps,defers:=ds }:gg).eval with|some v=>∃ k,v = .int k (KR d (lo.map (rd s)))|none=>KR d (lo.map (rd s))=d:=by
 cases l<;>cases lo<;>simp[ABQ] at i
 ·rfl
 ·simp only[iS,KR] at j ⊢;exact YL (h.src (ds:=ds) i) j
theorem RE{els:List AV}{a b i:Nat}(hi:i<b-a):((els.take b).drop a).getD i .any=els.getD (a+i) .any:=by
 rw[gdE,gdE,ir,h4,if_pos (by omega)]
theorem zp(h:FR F g w tmps vm ss s){sz:Nat}{x:Src}{lo hi:Option Src}(hc:oS P vm ss sz x lo hi o.op=b7)(C:(NT sz (lo.map (rd s)) (hi.map (rd s)) (rd s x)).ok=b7):
  BM (AS F g s.ob) w g s.ob key (NT sz (lo.map (rd s)) (hi.map (rd s)) (rd s x)) ((bN ({ tmps:=tmps,defers:=ds }:gg).eval o).run P w):=by
 unfold oS at hc;split at hc
 ·rename_i t y l hh he;simp only[baT] at hc;obtain⟨hs,hl,ao,p⟩:=hc;have hv:=h.src (ds:=ds) hs;revert C;generalize rd s x=a at hv;intro C;cases a<;>simp only[NT,bad] at C<;>try (cases C;done)
  case str cs=>
   have T:=Sp hv;simp only[NT,Fp,If,baT,beq_iff_eq,dtE] at C ⊢;obtain⟨hz,h0,ab,hb⟩:=C
   have a1:jZ P t=b7:=by
    simp only[gk,baT] at p;rcases p with p|p
    ·exact p.1
    ·split at p
     ·simp[hz] at p
     ·cases p
   have hu:=Tj a1;have aa:=NI (ds:=ds) h hl h0;have U:=NI (ds:=ds) h ao (d:=(cs.length:Int)) (by omega);refine .val (v:=.string ⟨(cut cs (KR 0 (lo.map (rd s))) (KR cs.length (hi.map (rd s)))).toArray⟩) ?_ rfl (VR.toSR .str);have I:=QI P w (isS:=false) (len:=cs.length) (cap:=cs.length) aa U h0 ab hb;simp[bN,he,h7,hR,b8 hu,T,OA,I,ByteArray.extract_mk,cut,cQ]
  case sl sz0 els=>
   simp only[SR,Oh] at hv;generalize T:({ tmps:=tmps,defers:=ds }:gg).eval y=v at hv;cases hv with
   | @sl ad n cap _ _ b off r hn a9 a0 ha a8 hw hr=>
    simp only[NT,Fp,If,baT,beq_iff_eq,dtE] at C ⊢;obtain⟨hz,h0,ab,hb⟩:=C;subst hz
    have R:∃ e,pQ P t=bI e∧VW P e=bI sz0:=by
     simp only[gk,baT,beq_iff_eq] at p;rcases p with p|p
     ·omega
     ·split at p
      ·rename_i e au;simp only[baT,beq_iff_eq] at p;exact⟨e,au,p.1⟩
      ·cases p
    obtain⟨e,aj,ae⟩:=R;have hu:=OR aj;have aa:=NI (ds:=ds) h hl h0;have U:=NI (ds:=ds) h ao (d:=(els.length:Int)) (by omega);subst hn;have I:=QI P w (isS:=true) (len:=els.length) (cap:=cap) aa U h0 ab (by omega);generalize hA:KR 0 (lo.map (rd s))=A at *;generalize hB:KR (els.length:Int) (hi.map (rd s))=B at *;refine .val (v:=.slice (if cap=A.toNat then ad else ad.map (·.add (A.toNat*sz0))) (B.toNat-A.toNat) (cap-A.toNat)) ?_ rfl (VR.toSR ?_)
    ·simp[bN,he,h7,hR,b8 hu,T,I,FW ae]
    ·have J:((els.take B.toNat).drop A.toNat).length=B.toNat-A.toNat:=by simp;omega
     refine .sl b (off+A.toNat*sz0) (fun i j=>r (A.toNat+i) j) (by rw[cut];exact J.symm) (by omega) a0 (fun hp=>?_) (fun i hi=>?_) (fun i j hi hj=>?_) fun i j hi hj=>?_
     ·rw[cut,J] at hp;obtain⟨rfl,a4⟩:=ha (by omega);rw[if_neg (by omega)];exact⟨by simp[Hb],a4⟩
     ·rw[cut,J] at hi;rw[cut,RE hi];exact a8 _ (by omega)
     ·rw[cut,J] at hi;have:=hw (A.toNat+i) j (by omega) hj;rw[show off+A.toNat*sz0+(i*sz0+j)=off+((A.toNat+i)*sz0+j) by rw[d'];omega];exact this
     ·rw[cut,J] at hi;rw[cut,RE hi];exact hr _ _ (by omega) hj
  case nilsl=>
   have T:=Sq hv;simp only[NT,Fp,If,baT,h8,beq_eq_false_iff_ne,dtE] at C ⊢;obtain⟨hz,h0,ab,hb⟩:=C
   have R:∃ e,pQ P t=bI e∧VW P e=bI sz:=by
    simp only[gk,baT,beq_iff_eq] at p;rcases p with p|p
    ·exact absurd p.2 hz
    ·split at p
     ·rename_i e au;simp only[baT,beq_iff_eq] at p;exact⟨e,au,p.1⟩
     ·cases p
   obtain⟨e,aj,ae⟩:=R;have hu:=OR aj;have aa:=NI (ds:=ds) h hl h0;have U:=NI (ds:=ds) h ao (d:=0) (by omega);have I:=QI P w (isS:=true) (len:=0) (cap:=0) aa U h0 ab hb;have hA:KR 0 (lo.map (rd s))=0:=by omega
   have hB:KR 0 (hi.map (rd s))=0:=by omega
   rw[hA,hB] at I;exact .val (v:=.slice b' 0 0) (by simp[bN,he,h7,hR,b8 hu,T,I,FW ae]) rfl (VR.toSR .nilsl)
 ·cases hc
end
open Go Go.RowKit
section
variable {F:Nat->Prop}{g:Gh}{w:bS}{tmps:Array Value}{ds:List hT}{vm ss:List Nat}{s:St}{P:bR}{o:Oper}{key:Nat}
theorem RO{vm ss:List Nat}:∀ {xs:List gf} {i:List Src},Qe vm ss xs i=b7->xs.length=i.length
 | [],[],_=>rfl
 | [],_::_,h=>by simp[Qe] at h
 | _::_,[],h=>by simp[Qe] at h
 | a::r,b::q,h=>by
  simp only[Qe,baT] at h;simp[RO h.2]
theorem RP(h:FR F g w tmps vm ss s):∀ {xs:List gf} {p:List Src} (j:Nat),Qe vm ss xs p=b7->j<p.length ->
  SR (AS F g s.ob) w g s.ob ((xs.map ({ tmps:=tmps,defers:=ds }:gg).eval).getD j cA) ((p.map (rd s)).getD j .any)
 | [],[],j,_,C=>by simp at C
 | [],_::_,_,i,_=>by simp[Qe] at i
 | _::_,[],_,i,_=>by simp[Qe] at i
 | a::r,b::q,0,i,_=>by
  simp only[Qe,baT] at i;exact h.src i.1
 | a::r,b::q,j+1,i,C=>by
  simp only[Qe,baT] at i;simpa using RP h j i.2 (by simpa using C)
theorem SR.simple{S:Nat->Prop}{w:bS}{g:Gh}{ob:Cp}{v:Value}{a:AV}(h:SR S w g ob v a)(i:a.simple=b7):Oh S w g ob v a:=by
 cases a<;>first|exact h|(simp[AV.simple] at i)
theorem Ow{l:List AV}{j:Nat}(i:j<l.length):l.getD j .any∈l:=by
 rw[gdE,geE i];exact ev i
theorem Pa(l:List Value)(j:Nat):l.toArray.getD j cA=l.getD j cA:=by
 rw[← Ei]
theorem AFh(h:FR F g w tmps vm ss s){f:Fn}{fi ca:List Src}(C:yk vm ss f fi ca o.op=b7)(i:((fi.map (rd s)++ca.map (rd s)).all AV.simple)=b7):
  BM (AS F g s.ob) w g s.ob key (Fp ((fi.map (rd s)++ca.map (rd s)).all AV.simple) (.fn f (fi.map (rd s)) (ca.map (rd s)))) ((bN ({ tmps:=tmps,defers:=ds }:gg).eval o).run P w):=by
 unfold yk at C;split at C
 ·rename_i f' a b R;simp only[baT,dtE] at C;obtain⟨J,I,h2⟩:=C;subst J;simp only[l7,baT,et] at i;refine .val (v:=.func f (a.map ({ tmps:=tmps,defers:=ds }:gg).eval) (b.map ({ tmps:=tmps,defers:=ds }:gg).eval)) (by simp[bN,R,Instr.makeFunc]) rfl ?_;refine⟨_,_,rfl,by simpa using RO I,by simpa using RO h2,fun j p=>?_,fun j p=>?_⟩
  ·rw[← Ei,l0];exact (RP h j I (by simpa using p)).simple (i.1 _ (Ow p))
  ·rw[← Ei,l0];exact (RP h j h2 (by simpa using p)).simple (i.2 _ (Ow p))
 ·cases C
theorem AFi(h:FR F g w tmps vm ss s){sz bytes:Nat}{z:AV}{l c:Src}(J:yl P vm ss sz bytes z l c o.op=b7)(C:(Yr (Bh key) sz bytes z (rd s l) (rd s c)).ok=b7)(hp:1<=sz):
  BM (AS F g s.ob) w g s.ob key (Yr (Bh key) sz bytes z (rd s l) (rd s c)) ((bN ({ tmps:=tmps,defers:=ds }:gg).eval o).run P w):=by
 unfold yl at J;split at J
 ·rename_i t a b he;simp only[baT] at J;obtain⟨a5,a4,p⟩:=J;split at p
  ·rename_i e a3;simp only[baT,beq_iff_eq] at p;obtain⟨ab,bb,p⟩:=p;split at p
   ·rename_i R hz;simp only[baT,beq_iff_eq] at p;obtain⟨a1,I,T⟩:=p;have hu:=OR a3;obtain⟨i,hi,aj⟩:=lx bb;have Xr:=h.src (ds:=ds) a5;have RA:=h.src (ds:=ds) a4;revert C;generalize rd s l=al at Xr;generalize rd s c=ac at RA;intro C;cases al<;>cases ac<;>simp only[Yr,bad] at C<;>try (cases C;done)
    case int.int k n k2 m=>
     simp only[Yr,AJd,baT,beq_iff_eq,dtE] at C ⊢;obtain⟨a6,h0,b4,b3⟩:=C;subst a6;have e1:=Pc Xr;have e2:=Pc RA
     have bv:n<=281474976710656:=by
      have:n*1<=n*bytes:=Int.mul_le_mul_of_nonneg_left (by omega) h0;omega
     have hw:i64.wrap n=n:=IntWalk.i64_in n ⟨by omega,by omega⟩;have aa:=(gN (S:=AS F g s.ob) (w:=w) a1).cells T;have a2:R.cells.size=sz:=by rw[aa.1,I]
     have ay:∃ arr:Array Value,arr.size=n.toNat*sz∧(∀ i j,i<n.toNat->j<sz->arr.getD (i*sz+j) cA=R.cells.getD j cA) ∧
       (j2 t (.int k n) (.int k2 n)).run P w = .ok (.slice (bI ⟨w.heap.size,0,b'⟩) n.toNat n.toNat) (w.alloc (.cells arr e)):=by
      have a9:¬ (n*(bytes:Int)>281474976710656):=by omega
      have av:¬ ((bytes:Int)*n>281474976710656):=by rw[Int.mul_comm];exact a9
      refine⟨(ke (n.toNat*sz)).map ((if n.toNat*sz=0 then #[] else R.cells)[· % (if n.toNat*sz=0 then (#[]:Array Value) else R.cells).size]!),by simp,fun i j hi hj=>?_,?_⟩
      ·have a8:i*sz+j<n.toNat*sz:=by
        have:(i+1)*sz<=n.toNat*sz:=bX _ (by omega);rw[d'] at this;omega
       have a7:n.toNat*sz≠0:=by omega
       have ae:(i*sz+j)%sz=j:=by rw[gr,hP];exact hL hj
       rw[agD,e8 (by simpa using a8)];simp only[kA,kf,iN,if_neg a7,a2,ae];rw[getElem!_pos R.cells j (by omega),agD,e8 (by omega)];rfl
      ·by_cases U:n.toNat*sz=0
       ·simp[j2,b8 hu,asInt,k5,Tx hi,aj,hw,h0,av,FW ab,U,j9];omega
       ·simp[j2,b8 hu,asInt,k5,Tx hi,aj,hw,h0,av,FW ab,U,j9,Rh hz];omega
     obtain⟨arr,ax,au,ad⟩:=ay;refine⟨.slice (bI ⟨w.heap.size,0,b'⟩) n.toNat n.toNat,w.alloc (.cells arr e),by simp[bN,he,e1,e2,ad],AG.alloc _ _ _,.inr ⟨_,_,w.heap.size,n.toNat,rfl,by simp[Bh],df _,fun S' hS=>?_,.inl ⟨rfl,.inl (by simp)⟩⟩⟩;refine⟨hp,by simp,fun i hi=>?_,fun _=>⟨arr,e,(0,0),hC _ _,.inl rfl,ax,fun i j hi hj=>?_⟩⟩
     ·have:(e5 n.toNat z).getD i .any=z:=by
       rw[gdE,hK,if_pos (by simpa using hi)];rfl
      rw[this];exact⟨I,T⟩
     ·have ao:i<n.toNat:=by simpa using hi
      have:(e5 n.toNat z).getD i .any=z:=by
       rw[gdE,hK,if_pos ao];rfl
      rw[this,au i j ao hj];refine (aa.2 j (by rw[I];exact hj)).mono (AG.alloc _ _ _) fun b hb J=>?_
      rcases hS b J with e|e
      ·exact e
      ·omega
   ·cases p
  ·cases p
 ·cases J
theorem ZW(P:bR)(w:bS)(mx:Bool)(k:fy):∀ (r:List AV) (vs:List Value) (n:Int),vs.length=r.length->(∀ j,j<r.length->∃ m,r.getD j .any = .int k m∧vs.getD j cA = .int k m) ->
  ∃ m,WJ mx (.int k n) r = .int k m∧(vs.foldlM (bif mx then lf else lb) (.int k n)).run P w = .ok (.int k m) w
 | [],[],n,_,_=>⟨n,rfl,rfl⟩
 | [],_::_,_,i,_=>by simp at i
 | _::_,[],_,i,_=>by simp at i
 | a::r,v::vs,n,i,h=>by
  obtain⟨m,I,C⟩:=h 0 (by simp);simp only[eu] at I C;subst I C;have J:=ZW P w mx k r vs (bif mx then (if n<m then m else n) else (if m<n then m else n)) (by simpa using i) (fun j R=>by simpa using h (j+1) (by simpa using R));obtain⟨q,T,p⟩:=J;refine⟨q,by simp only[WJ,mm2];exact T,?_⟩;rw[List.foldlM_cons,e7];cases mx
  ·simp only[cond_false] at p ⊢;simp only[lb,gv,cS];exact p
  ·simp only[cond_true] at p ⊢;simp only[lf,gv,cS];exact p
theorem s_mm(h:FR F g w tmps vm ss s){mx:Bool}{xs:List Src}(J:cMM vm ss mx xs o.op=b7)(i:(wb mx (xs.map (rd s))).ok=b7):
  BM (AS F g s.ob) w g s.ob key (wb mx (xs.map (rd s))) ((bN ({ tmps:=tmps,defers:=ds }:gg).eval o).run P w):=by
 unfold cMM at J;split at J
 ·rename_i b args ab he;simp only[baT] at J;obtain⟨C,hb⟩:=J;cases xs with
  | nil=>simp[wb,bad] at i
  | cons x xs=>
   obtain⟨args⟩:=args;simp only at C;cases args with
   | nil=>simp[Qe] at C
   | cons a args=>
    simp only[Qe,baT] at C;have T:=h.src (ds:=ds) C.1;simp only[e'] at i ⊢;revert i;generalize rd s x=ax at T;intro i;cases ax<;>simp only[wb,bad] at i<;>try (cases i;done)
    case int k n=>
     have e1:=Pc T;simp only[wb,Fp,et] at i ⊢;have I:=RO C.2
     obtain⟨m,e2,e3⟩:=ZW P w mx k (xs.map (rd s)) (args.map ({ tmps:=tmps,defers:=ds }:gg).eval) n (by simpa using I) (fun j U=>by
      have p:=RP (ds:=ds) h j C.2 (by simpa using U);have R:=i _ (Ow U);revert R p;generalize (xs.map (rd s)).getD j .any=q;intro p R;cases q<;>simp[fk] at R
      subst R;exact⟨_,rfl,Pc p⟩)
     rw[e2];refine .val (v:=.int k m) ?_ rfl (VR.toSR .int);cases mx<;>cases b<;>simp at hb<;>simp[bN,he,j3,k9,j4,Builtin.min_,Builtin.max_,e1]<;>simp only[cond_false,cond_true] at e3<;>simp[e3]
 ·cases J
def po(P:bR)(t:c'):Nat :=
 match P.underlying t with
 | some .bool=>0
 | some (.int _)=>1
 | some .string=>2
 | _=>9
def eR(P:bR):Nat->List Nat->List lU->Bool
 | n,k::ks,f::i=>(f.name != "_")&&((f.offset==n)&&((k==po P f.type)&&(Nat.ble k 2&&(mD P f.type==bI b9&&eR P (n+1) ks i))))
 | _,[],[]=>b7
 | _,_,_=>b9
def eqT(P:bR)(ks:List Nat)(t:c'):Bool :=
 (match P.underlying t with|some (.struct _)=>b7|_=>b9)&&(!P.stoodInHeld t&&(!P.eqGuardType P.depth t&&eR P 0 ks (P.fieldsOf t).toList))
def AHy(P:bR)(vm ss:List Nat)(neg:Bool)(ks:List Nat)(x y:Src):Op->Bool
 | .binOp u t a b _=>BU vm ss a x&&(BU vm ss b y&&((match u with | .eql=>!neg | .neq=>neg|_=>b9)&&eqT P ks t))
 | _=>b9
theorem Uo(P:bR)(w:bS)(S:Nat->Prop)(d:Nat)(xs ys:Array Value):∀ (n:Nat) (ks:List Nat) (fs:List lU) (a b:List AV),eR P n ks fs=b7->JS ks a b=b7 ->
  (∀ j,j<a.length->n+j<xs.size∧VR S w (xs.getD (n+j) cA) (a.getD j .any))->(∀ j,j<b.length->n+j<ys.size∧VR S w (ys.getD (n+j) cA) (b.getD j .any)) ->
  (kz (d+1) xs ys fs).run P w = .ok (ML a b) w
 | _,[],[],a,b,_,C,_,_=>by
  cases a<;>cases b<;>simp[JS] at C
  simp[kz,ML]
 | _,[],_::_,_,_,hf,_,_,_=>by simp[eR] at hf
 | _,_::_,[],_,_,hf,_,_,_=>by simp[eR] at hf
 | n,k::ks,f::fs,a,b,hf,C,hx,hy=>by
  cases a with
  | nil=>simp[JS] at C
  | cons p r=>
   cases b with
   | nil=>simp[JS] at C
   | cons q t=>
    simp only[eR,baT,bne_iff_ne,beq_iff_eq] at hf;obtain⟨U,J,I,a4,R,T⟩:=hf;simp only[JS,baT] at C;have ih:=Uo P w S d xs ys (n+1) ks fs r t T C.2 (fun j hj=>by have:=hx (j+1) (by simpa using hj);rw[fa,l' 1 j];simpa using this) (fun j hj=>by have:=hy (j+1) (by simpa using hj);rw[fa,l' 1 j];simpa using this);have h1:=hx 0 (by simp);have h2:=hy 0 (by simp);simp only[fu,eu] at h1 h2;obtain⟨u1,g1,ax⟩:=Ur h1.1;obtain⟨u2,g2,av⟩:=Ur h2.1;rw[ax] at h1;rw[av] at h2;have ao:(j8 f.type xs f.offset).run P w = .ok u1 w:=by simp[j8,Oq R,J,g1]
    have aj:(j8 f.type ys f.offset).run P w = .ok u2 w:=by simp[j8,Oq R,J,g2]
    have heq:(l2 (d+1) f.type u1 u2).run P w = .ok (eq1 p q) w:=by
     have i:=C.1;cases p<;>cases q<;>simp only[eY] at i<;>try (cases i;done)
     case int.int k1 x1 k2 x2=>
      simp only[baT,beq_iff_eq] at i;obtain⟨rfl,rfl⟩:=i;cases h1.2;cases h2.2
      have:∃ kk,P.underlying f.type=bI (.int kk):=by
       unfold po at I;split at I<;>simp at I;exact⟨_,by assumption⟩
      obtain⟨kk,hu⟩:=this;exact run_equalIn_int w d f.type k1 kk x1 x2 hu
     case bool.bool x1 x2=>
      simp only[beq_iff_eq] at i;subst i;cases h1.2;cases h2.2
      have hu:P.underlying f.type=bI .bool:=by
       unfold po at I;split at I<;>simp at I;assumption
      exact run_equalIn_bool' w d f.type x1 x2 hu
     case str.str x1 x2=>
      simp only[beq_iff_eq] at i;subst i;cases h1.2;cases h2.2
      have hu:P.underlying f.type=bI .string:=by
       unfold po at I;split at I<;>simp at I;assumption
      have:=run_equalIn_string w d f.type (⟨x1.toArray⟩:ByteArray) ⟨x2.toArray⟩ hu;simpa[eq1] using this
    simp only[kz,Sem.run_ite,e7,if_pos U,ao,aj,heq,cS,ML];cases hE:eq1 p q
    ·simp
    ·simp[ih]
theorem AJQ(h:FR F g w tmps vm ss s){neg:Bool}{ks:List Nat}{x y:Src}(U:AHy P vm ss neg ks x y o.op=b7)(i:(RN neg ks (rd s x) (rd s y)).ok=b7):
  BM (AS F g s.ob) w g s.ob key (RN neg ks (rd s x) (rd s y)) ((bN ({ tmps:=tmps,defers:=ds }:gg).eval o).run P w):=by
 unfold AHy at U;split at U
 ·rename_i u t a b yt he;simp only[baT] at U;obtain⟨ae,ad,hu,I⟩:=U;have Xr:=h.src (ds:=ds) ae;have RA:=h.src (ds:=ds) ad;revert i;generalize rd s x=ax at Xr;generalize rd s y=ay at RA;intro i;cases ax<;>cases ay<;>simp only[RN,bad] at i<;>try (cases i;done)
  case agg.agg p q=>
   simp only[SR,Oh] at Xr RA;generalize e1:({ tmps:=tmps,defers:=ds }:gg).eval a=v1 at Xr;generalize e2:({ tmps:=tmps,defers:=ds }:gg).eval b=v2 at RA;cases Xr with
   | @agg xs _ n1 _ r1=>
    cases RA with
    | @agg ys _ n2 _ r2=>
     simp only[RN,Fp] at i ⊢;simp only[eqT,baT,h8] at I;obtain⟨R,ac,hg,hf⟩:=I
     have J:P.underlying t=bI (.struct (P.fieldsOf t)):=by
      unfold Program.fieldsOf;split at R
      ·rename_i fs ao;rw[ao]
      ·cases R
     have T:=Uo P w (AS F g s.ob) 9998 xs ys 0 ks _ p q hf i (fun j hj=>by rw[cI];exact⟨by omega,r1 j hj⟩) (fun j hj=>by rw[cI];exact⟨by omega,r2 j hj⟩);have C:=run_equalIn_struct (P:=P) w 9999 t xs ys J ac;rw[T] at C;cases u<;>simp at hu
     ·subst hu;exact .val (v:=.bool (ML p q)) (by simp[bN,he,e1,e2,mn w .eql t a b xs ys hg,run_eql_struct,C]) rfl (VR.toSR .bool)
     ·subst hu;exact .val (v:=.bool (!ML p q)) (by simp[bN,he,e1,e2,mn w .neq t a b xs ys hg,run_neq_struct,C]) rfl (VR.toSR .bool)
 ·cases U
end
section
variable {F:Nat->Prop}{g:Gh}{w:bS}{tmps:Array Value}{ds:List hT}{vm ss:List Nat}{s:St}{P:bR}{o:Oper}{key:Nat}
def AIB(P:bR)(vm ss:List Nat)(x:Src):Op->Bool
 | .convert s d y=>BU vm ss y x&&(jZ P d&&(match pQ P s with
  | some e=>nY P e==bI .u8
  | none=>b9))
 | _=>b9
theorem yp{S:Nat->Prop}{v:Value}{a:AV}(i:Ix a=b7)(h:VR S w v a):∃ n,a = .int .u8 n∧v = .int .u8 n:=by
 cases a<;>try (simp[Ix] at i;done)
 rename_i k n;cases k<;>simp[Ix] at i
 cases h;exact⟨n,rfl,rfl⟩
theorem pN(P:bR){els:List AV}(I:els.all Ix=b7){b off cap:Nat}{r:Nat->Value}{S:Nat->Prop}(hw:∀ i,i<els.length->w.cell? ⟨b,off+i,b'⟩=bI (r i))(hr:∀ i,i<els.length->VR S w (r i) (els.getD i .any)):
  (fm (.slice (bI ⟨b,off,b'⟩) els.length cap)).run P w = .ok (.string ⟨(els.map QH).toArray⟩) w:=by
 have J:∀ i,i<els.length->∃ n,els.getD i .any = .int .u8 n∧r i = .int .u8 n:=fun i hi=>by
  simp only[et] at I;exact yp (I _ (Ow hi)) (hr i hi)
 have C:∃ p:List Int,els=p.map (AV.int .u8):=by
  clear hw hr
  induction els with
  | nil=>exact⟨[],rfl⟩
  | cons a t ih=>
   simp only[lu,baT] at I
   obtain⟨n,hn⟩:∃ n,a=AV.int .u8 n:=by
    cases a<;>try (simp[Ix] at I;done)
    rename_i k n;cases k<;>simp[Ix] at I;exact⟨n,rfl⟩
   have hx:∃ p:List Int,t=p.map (AV.int .u8):=by
    have:∀ l:List AV,l.all Ix=b7->∃ p:List Int,l=p.map (AV.int .u8):=by
     intro l
     induction l with
     | nil=>intro _;exact⟨[],rfl⟩
     | cons c l R=>
      intro h2;simp only[lu,baT] at h2
      obtain⟨m,hm⟩:∃ n,c=AV.int .u8 n:=by
       cases c<;>try (simp[Ix] at h2;done)
       rename_i k n;cases k<;>simp[Ix] at h2;exact⟨n,rfl⟩
      obtain⟨ms,U⟩:=R h2.2;exact⟨m::ms,by rw[hm,U];rfl⟩
    exact this t I.2
   obtain⟨p,C⟩:=hx;exact⟨n::p,by rw[hn,C];rfl⟩
 obtain⟨p,rfl⟩:=C;have hl:=j0 (P:=P) w ⟨b,off,b'⟩ p.length r (fun j hj=>by rw[Hb];exact hw j (by simpa using hj))
 have T:((j7 p.length).map r)=p.map (Value.int .u8):=by
  apply List.ext_getElem
  ·simp
  ·intro i h1 h2;have hi:i<p.length:=by simpa using h1
   obtain⟨n,e1,e2⟩:=J i (by simpa using hi);simp only[List.getElem_map,List.getElem_range,e2];rw[gdE,eL,geE hi] at e1;simp only[iS,iN,AV.int.injEq,true_and] at e1;rw[e1]
 rw[T] at hl;have:=run_bytesToString (P:=P) w ⟨b,off,b'⟩ p.length cap p hl;rw[l5,this,foldl_push_bytes]
 congr 2
 apply ByteArray.ext;simp[QH]
theorem AJT(h:FR F g w tmps vm ss s){x:Src}(hc:AIB P vm ss x o.op=b7)(p:(XU s.ob (rd s x)).ok=b7):
  BM (AS F g s.ob) w g s.ob key (XU s.ob (rd s x)) ((bN ({ tmps:=tmps,defers:=ds }:gg).eval o).run P w):=by
 unfold AIB at hc;split at hc
 ·rename_i sT dT y he;simp only[baT] at hc;obtain⟨hs,hd,U⟩:=hc;split at U
  ·rename_i e au;simp only[beq_iff_eq] at U;have hu:=OR au;have aj:=Xq U;have ao:=Tj hd
   have j:∀ v:Value,(∃ a l c,v = .slice a l c)->(convert sT dT v).run P w=(fm v).run P w:=by
    rintro v ⟨a,l,c,rfl⟩;cases a<;>simp[convert,b8 hu,b8 ao,b8 aj]
   have hv:=h.src (ds:=ds) hs;revert p;generalize rd s x=a at hv;intro p;cases a<;>simp only[XU,bad] at p<;>try (cases p;done)
   case nilsl=>
    have C:=Sq hv;exact .val (v:=.string ⟨([]:List UInt8).toArray⟩) (by simp[bN,he,C,j,fm];rfl) rfl (VR.toSR .str)
   case sl sz els=>
    simp only[SR,Oh] at hv;generalize C:({ tmps:=tmps,defers:=ds }:gg).eval y=v at hv;cases hv with
    | @sl ad n cap _ _ b off r hn a2 a0 ha ax hw hr=>
     simp only[XU,ja,Fp] at p ⊢;subst hn
     by_cases hp:0<els.length
     ·obtain⟨rfl,a8⟩:=ha hp
      have I:∀ i,i<els.length->(els.getD i .any).cells=[els.getD i .any]:=fun i hi=>by
       simp only[et] at p;have:=p _ (Ow hi);revert this;generalize els.getD i .any=q;intro this;cases q<;>first|rfl|(simp[Ix] at this)
      have R:sz=1:=by have:=(ax 0 hp).1;rw[I 0 hp] at this;simpa using this.symm
      subst R;have T:=pN (w:=w) P p (cap:=cap) (r:=fun i=>r i 0) (S:=AS F g s.ob) (fun i hi=>by have:=hw i 0 hi (by omega);simpa using this) (fun i hi=>by have:=hr i 0 hi (by omega);rw[I i hi] at this;simpa using this);exact .val (v:=.string ⟨(els.map QH).toArray⟩) (by simp[bN,he,C,j,T]) rfl (VR.toSR .str)
     ·have h0:els=[]:=dX.1 (by omega);subst h0;refine .val (v:=.string ⟨([]:List UInt8).toArray⟩) ?_ rfl (VR.toSR .str);cases ad<;>simp[bN,he,C,j,fm,ku,j1]<;>rfl
   case own k=>
    obtain⟨hm,ho,C⟩:=hv;simp only[XU,ho,pO,ja,Fp] at p ⊢;have hh:=h.home k hm ho;rcases C with C|⟨hz,C⟩
    rotate_left
    ·rw[h.nil_els ho hz];refine .val (v:=.string ⟨([]:List UInt8).toArray⟩) ?_ rfl (VR.toSR .str);simp[bN,he,C,j,fm,ku,j1];rfl
    obtain⟨r,J⟩:=hh.cell
    by_cases hp:0<hm.els.length
    ·have I:∀ i,i<hm.els.length->(hm.els.getD i .any).cells=[hm.els.getD i .any]:=fun i hi=>by
      simp only[et] at p;have:=p _ (Ow hi);revert this;generalize hm.els.getD i .any=q;intro this;cases q<;>first|rfl|(simp[Ix] at this)
     have R:hm.sz=1:=by have:=(hh.cells 0 hp).1;rw[I 0 hp] at this;simpa using this.symm
     rw[R] at J;have T:=pN (w:=w) P p (b:=g.β k) (off:=0) (cap:=g.cap k) (r:=fun i=>r i 0) (S:=AS F g s.ob) (fun i hi=>by have:=(J i 0 hi (by omega)).1;simpa using this) (fun i hi=>by have:=(J i 0 hi (by omega)).2;rw[I i hi] at this;simpa using this);exact .val (v:=.string ⟨(hm.els.map QH).toArray⟩) (by simp[bN,he,C,j,T]) rfl (VR.toSR .str)
    ·have h0:hm.els=[]:=dX.1 (by omega);rw[h0] at C ⊢;refine .val (v:=.string ⟨([]:List UInt8).toArray⟩) ?_ rfl (VR.toSR .str);simp[bN,he,C,j,fm,ku,j1];rfl
  ·cases U
 ·cases hc
def AHt(P:bR)(vm ss:List Nat)(x:Src):Op->Bool
 | .convert s d y=>BU vm ss y x&&(jZ P s&&(match pQ P d with
  | some e=>nY P e==bI .u8
  | none=>b9))
 | _=>b9
theorem AJL(h:FR F g w tmps vm ss s){x:Src}(T:AHt P vm ss x o.op=b7)(I:(ml (Bh key) (rd s x)).ok=b7):
  BM (AS F g s.ob) w g s.ob key (ml (Bh key) (rd s x)) ((bN ({ tmps:=tmps,defers:=ds }:gg).eval o).run P w):=by
 unfold AHt at T;split at T
 ·rename_i sT dT y he;simp only[baT] at T;obtain⟨hs,U,C⟩:=T;split at C
  ·rename_i e aa;simp only[beq_iff_eq] at C;have J:=run_bytes_of_string (P:=P) w sT dT e;have hv:=h.src (ds:=ds) hs;revert I;generalize rd s x=a at hv;intro I;cases a<;>simp only[ml,bad] at I<;>try (cases I;done)
   case str l=>
    have ad:=Sp hv;have hr:=J ⟨l.toArray⟩ (Tj U) (OR aa) (Xq C);simp only[ml];generalize R:hD w (⟨l.toArray⟩:ByteArray).size 0 e=cap at hr
    have ab:l.length<=cap:=by
     have:(⟨l.toArray⟩:ByteArray).size<=cap:=by rw[← R];unfold hD;simp[Question.cut]
     rwa [OA] at this
    have ae:(l9 ⟨l.toArray⟩ cap).size=cap:=by
     simp[l9,OA];omega
    refine⟨.slice (bI ⟨w.heap.size,0,b'⟩) l.length cap,_,by simp[bN,he,ad,hr,OA];rfl,?_,.inr ⟨_,_,w.heap.size,cap,rfl,by simp[Bh],df _,fun S' hS=>?_,.inl ⟨rfl,.inl (by simp)⟩⟩⟩
    ·exact (AG.drew _ _).trans (AG.alloc _ _ _)
    ·refine⟨df _,by simpa using ab,fun i hi=>?_,fun _=>⟨l9 ⟨l.toArray⟩ cap,e,_,hC _ _,.inr ⟨rfl,df _⟩,by rw[ae,kn],fun i j hi hj=>?_⟩⟩
     ·have p:i<l.length:=by simpa using hi
      have:(l.map Fm).getD i .any=Fm (l.getD i 0):=by
       rw[gdE,eL,geE p,gdE,geE p];rfl
      rw[this];exact⟨rfl,rfl⟩
     ·have p:i<l.length:=by simpa using hi
      have av:j<1:=hj;have ac:j=0:=by omega
      subst ac
      have:(l.map Fm).getD i .any=Fm (l.getD i 0):=by
       rw[gdE,eL,geE p,gdE,geE p];rfl
      rw[this];have hb:=bytesRow_at ⟨l.toArray⟩ cap i (by simpa using p)
      have hg:(l9 ⟨l.toArray⟩ cap).getD (i*1+0) cA = .int .u8 ((l.getD i 0).toNat:Int):=by
       rw[agD,kn,fu,hb,gdE,geE p];rfl
      rw[hg];exact .int
  ·cases C
 ·cases T
theorem KE:∀ (xs:List AV) (i:List AV) (off:Nat),(EH i off xs).length=i.length
 | [],i,off=>rfl
 | x::r,i,off=>by simp only[EH];rw[KE r];simp
theorem LP:∀ (xs:List AV) (i:List AV) (off x:Nat),(EH i off xs).getD x .any=if off<=x∧x<off+xs.length∧x<i.length then xs.getD (x-off) .any else i.getD x .any
 | [],i,off,x=>by simp only[EH,hO];rw[if_neg (by omega)]
 | q::r,i,off,x=>by
  simp only[EH];rw[LP r];simp only[List.length_set,iZ]
  by_cases j:off+1<=x∧x<off+1+r.length∧x<i.length
  ·rw[if_pos j,if_pos (by omega)];rw[show x-off=(x-(off+1))+1 by omega,gn]
  ·rw[if_neg j]
   by_cases h2:off=x
   ·subst h2
    by_cases p:off<i.length
    ·rw[if_pos (by omega),k7,eu,gdE,hM p];rfl
    ·rw[if_neg (by omega),gdE,gdE,ew (by simp;omega),ew (by omega)]
   ·rw[if_neg (by omega),gdE,hW h2,gdE]
theorem ZV:∀ (l:List Value) (k off:Nat) (cs:Array Value),((l.zipIdx k).foldl (fun cs p=>cs.setIfInBounds (off+p.2) p.1) cs).size=cs.size ∧
  ∀ x,((l.zipIdx k).foldl (fun cs p=>cs.setIfInBounds (off+p.2) p.1) cs).getD x cA=if off+k<=x∧x<off+k+l.length∧x<cs.size then l.getD (x-(off+k)) cA else cs.getD x cA
 | [],k,off,cs=>⟨rfl,fun x=>by simp only[List.zipIdx_nil,List.foldl_nil,hO];rw[if_neg (by omega)]⟩
 | v::l,k,off,cs=>by
  have i:=ZV l (k+1) off (cs.setIfInBounds (off+k) v);refine⟨by simp only[l1,l6];rw[i.1];simp,fun x=>?_⟩;simp only[l1,l6];rw[i.2 x];simp only[fA,iZ]
  by_cases j:off+(k+1)<=x∧x<off+(k+1)+l.length∧x<cs.size
  ·rw[if_pos j,if_pos (by omega),show x-(off+k)=(x-(off+(k+1)))+1 by omega,gn]
  ·rw[if_neg j]
   by_cases h2:off+k=x
   ·subst h2
    by_cases C:off+k<cs.size
    ·rw[if_pos (by omega),k7,eu,Ju C]
    ·rw[if_neg (by omega),agD,agD,gb (by simp;omega),gb (by omega)]
   ·rw[if_neg (by omega),Ea h2]
theorem Td(i cs:Array Value)(off:Nat):i.zipIdx.foldl (fun cs (c,j)=>cs.setIfInBounds (off+j) c) cs=(i.toList.zipIdx 0).foldl (fun cs p=>cs.setIfInBounds (off+p.2) p.1) cs:=by
 rw[← Array.foldl_toList,Array.toList_zipIdx]
structure uW(S:Nat->Prop)(w:bS)(cs:Array Value)(as:List AV):Prop where
 n:cs.size=as.length
 at_:∀ j,j<as.length->(as.getD j .any).atom=b7
 r:∀ j,j<as.length->VR S w (cs.getD j cA) (as.getD j .any)
theorem uW.put{S:Nat->Prop}{cs:Array Value}{p:List AV}(h:uW S w cs p){v:Value}{a:AV}(R:VR S w v a)(J:a.atoms=b7){off:Nat}(T:off+a.cells.length<=p.length):
  uW S w (v.cells.zipIdx.foldl (fun cs (c,j)=>cs.setIfInBounds (off+j) c) cs) (EH p off a.cells):=by
 have I:=R.cells J;have C:=ZV v.cells.toList 0 off cs;rw[Td];refine⟨by rw[C.1,KE,h.n],fun j i=>?_,fun j i=>?_⟩
 ·rw[KE] at i;rw[LP];split
  ·exact Ht J (by omega)
  ·exact h.at_ j i
 ·rw[KE] at i;rw[LP,C.2 j];simp only[ff,I.1,fu,h.n];split
  ·rw[Ei];exact I.2 _ (by omega)
  ·exact h.r j i
theorem kK(P:bR)(w:bS){α β:Type}(f:α->Sem β)(q:α->β):∀ (l:List α),(∀ x,x∈l->(f x).run P w = .ok (q x) w)->(l.mapM f).run P w = .ok (l.map q) w
 | [],_=>by simp
 | x::l,h=>by
  rw[List.mapM_cons,e7,h x (by simp)];simp only[cS,e7,kK P w f q l (fun y i=>h y (by simp[i])),gv,e']
theorem gl(P:bR)(w:bS){α β:Type}(f:α->Sem β)(q:α->β)(xs:Array α)(h:∀ x,x∈xs->(f x).run P w = .ok (q x) w):(xs.mapM f).run P w = .ok (xs.map q) w:=by
 rw[Array.mapM_eq_mapM_toList,Sem.run_map,kK P w f q xs.toList (fun x i=>h x (by simpa using i))];cases xs;simp
def PQ(P:bR)(vm ss:List Nat)(i:Array lU):List (Nat×gf)->List (Nat×Nat×Src)->Bool
 | [],[]=>b7
 | p::r,q::t=>BU vm ss p.2 q.2.2&&((match i[p.1]? with
   | some f=>f.offset==q.1&&VW P f.type==bI q.2.1
   | none=>b9)&&PQ P vm ss i r t)
 | _,_=>b9
def oV(P:bR)(vm ss:List Nat)(z:List AV)(ps:List (Nat×Nat×Src)):Op->Bool
 | .build t parts=>(match P.underlying t with
  | some (.struct i)=>i.toList.all (fun f=>(VW P f.type).isSome)&&((match zZ P t with
   | some (.agg cs)=>XS cs.toList z
   | _=>b9)&&PQ P vm ss i parts.toList ps)
  | _=>b9)
 | _=>b9
theorem lI(h:FR F g w tmps vm ss s)(fs:Array lU)(C:∀ f,f∈fs->(VW P f.type).isSome=b7):∀ (parts:List (Nat×gf)) (ps:List (Nat×Nat×Src)) (cs:Array Value) (z:List AV),
  PQ P vm ss fs parts ps=b7->RI z.length (ps.map fun p=>(p.1,p.2.1,rd s p.2.2))=b7->uW (AS F g s.ob) w cs z ->
  ∃ j,ic (((fs.map fun f=>(f.offset,(VW P f.type).getD 0)))[·]?) cs (parts.map fun p=>(p.1,({ tmps:=tmps,defers:=ds }:gg).eval p.2))=bI j∧uW (AS F g s.ob) w j (Za z (ps.map fun p=>(p.1,p.2.1,rd s p.2.2)))
 | [],[],cs,z,_,_,hr=>⟨cs,rfl,hr⟩
 | [],_::_,_,_,T,_,_=>by simp[PQ] at T
 | _::_,[],_,_,T,_,_=>by simp[PQ] at T
 | p::r,q::t,cs,z,T,i,hr=>by
  simp only[PQ,baT] at T;obtain⟨hs,R,I⟩:=T;simp only[e',RI,baT,beq_iff_eq,dtE] at i;obtain⟨hl,ae,J,i⟩:=i;split at R
  ·rename_i f aj;simp only[baT,beq_iff_eq] at R;have hv:=(h.src (ds:=ds) hs).atoms J;have ao:=hv.cells J;have U:=hr.put hv J (off:=q.1) (by omega);have hz:(EH z q.1 (rd s q.2.2).cells).length=z.length:=KE _ _ _;obtain⟨j,e,ac⟩:=lI h fs C r t _ _ I (by rw[hz];exact i) U;refine⟨j,?_,by simp only[e',Za];exact ac⟩;have ad:(fs.map fun f=>(f.offset,(VW P f.type).getD 0))[p.1]? = bI (q.1,q.2.1):=by rw[Array.getElem?_map,aj];simp[R.1,R.2]
   rw[e',ic];simp only[ad];have k0:=R.1;have k1:(({ tmps:=tmps,defers:=ds }:gg).eval p.2).cells.size=q.2.1:=by rw[ao.1,hl]
   have k2:q.1+(({ tmps:=tmps,defers:=ds }:gg).eval p.2).cells.size<=cs.size:=by rw[k1,hr.n];exact ae
   rw[if_neg (by simp only[gk,dtE];omega)];exact e
  ·cases R
theorem zx(h:FR F g w tmps vm ss s){z:List AV}{ps:List (Nat×Nat×Src)}(C:oV P vm ss z ps o.op=b7)(aa:RI z.length (ps.map fun p=>(p.1,p.2.1,rd s p.2.2))=b7):
  BM (AS F g s.ob) w g s.ob key (Fp (RI z.length (ps.map fun p=>(p.1,p.2.1,rd s p.2.2))) (.agg (Za z (ps.map fun p=>(p.1,p.2.1,rd s p.2.2))))) ((bN ({ tmps:=tmps,defers:=ds }:gg).eval o).run P w):=by
 unfold oV at C;split at C
 ·rename_i t parts he;split at C
  ·rename_i fs hu;simp only[baT,et] at C;obtain⟨i,I,hp⟩:=C;split at I
   ·rename_i cs R;have hrel:uW (AS F g s.ob) w cs z:=⟨by simpa using Zc _ _ I,fun j hj=>(RJ _ _ j I hj).2,fun j hj=>by rw[← Ei];exact nx (RJ _ _ j I hj).1⟩;obtain⟨ad,e,T⟩:=lI (ds:=ds) h fs (fun f hf=>i f (by simpa using hf)) parts.toList ps cs z hp aa hrel
    have U:=gl P w (fun f:lU=>(do pure (f.offset,← sizeOf f.type):Sem (Nat×Nat))) (fun f=>(f.offset,(VW P f.type).getD 0)) fs (fun f hf=>by
     have:=i f (by simpa using hf);cases hs:VW P f.type with
     | none=>rw[hs] at this;cases this
     | some n=>simp[FW hs])
    refine .val (v:=.agg ad) ?_ rfl (VR.toSR (.agg T.n T.at_ T.r));have J:(parts.map fun p=>(p.1,({ tmps:=tmps,defers:=ds }:gg).eval p.2)).toList=parts.toList.map fun p=>(p.1,({ tmps:=tmps,defers:=ds }:gg).eval p.2):=by simp
    simp only[bN,he,Instr.build,e7,Rh R,cS,b8 hu,U,Value.cells];rw[J,e];simp
   ·cases I
  ·cases C
 ·cases C
def WR(vm ss:List Nat):List (Nat×gf)->List (Nat×Src)->Bool
 | [],[]=>b7
 | p::r,q::t=>BU vm ss p.2 q.2&&((p.1==q.1)&&WR vm ss r t)
 | _,_=>b9
def yj(P:bR)(vm ss:List Nat)(sz:Nat)(z:AV)(n:Nat)(ps:List (Nat×Src)):Op->Bool
 | .buildSlice t m parts=>(m==n)&&(cL (n*sz<=16777216)&&(cL (1<=sz)&&((match pQ P t with
  | some e=>VW P e==bI sz&&(match zZ P e with
   | some i=>eqv i z&&(z.cells.length==sz&&z.atoms)
   | none=>b9)
  | none=>b9)&&WR vm ss parts.toList ps)))
 | _=>b9
structure uV(S:Nat->Prop)(w:bS)(sz:Nat)(cs:Array Value)(els:List AV):Prop where
 n:cs.size=els.length*sz
 c:∀ i,i<els.length->(els.getD i .any).cells.length=sz∧(els.getD i .any).atoms=b7
 r:∀ i j,i<els.length->j<sz->VR S w (cs.getD (i*sz+j) cA) ((els.getD i .any).cells.getD j .any)
theorem RK{i j sz n:Nat}(hi:i<n)(p:j<sz):i*sz+j<n*sz:=by
 have:(i+1)*sz<=n*sz:=bX _ (by omega);rw[d'] at this;omega
theorem uV.put{S:Nat->Prop}{sz:Nat}{cs:Array Value}{els:List AV}(h:uV S w sz cs els){v:Value}{a:AV}(hv:VR S w v a)(ha:a.atoms=b7)(J:a.cells.length=sz){k:Nat}(hk:k<els.length):
  uV S w sz (v.cells.zipIdx.foldl (fun cs (c,j)=>cs.setIfInBounds (k*sz+j) c) cs) (els.set k a):=by
 have U:=hv.cells ha;have T:=ZV v.cells.toList 0 (k*sz) cs
 have C:∀ i,i<els.length->(els.set k a).getD i .any=if k=i then a else els.getD i .any:=by
  intro i hi;rw[gdE,kI]
  by_cases e:k=i
  ·simp[e,hi]
  ·simp[e,gdE]
 rw[Td];refine⟨by rw[T.1,h.n];simp,fun i hi=>?_,fun i j hi R=>?_⟩
 ·have p:i<els.length:=by simpa using hi
  rw[C i p];split
  ·exact⟨J,ha⟩
  ·exact h.c i p
 ·have p:i<els.length:=by simpa using hi
  rw[C i p,T.2];simp only[ff,U.1,J,fu,h.n];have hb:=RK p R
  by_cases e:k=i
  ·subst e;rw[if_pos rfl,if_pos (by omega),Nat.add_sub_cancel_left,Ei];exact U.2 j (by omega)
  ·rw[if_neg e,if_neg]
   ·exact h.r i j p R
   ·rintro⟨h1,h2,_⟩;rcases kB e with I|I
    ·have:(k+1)*sz<=i*sz:=bX _ (by omega);rw[d'] at this;omega
    ·have:(i+1)*sz<=k*sz:=bX _ (by omega);rw[d'] at this;omega
theorem eX(h:FR F g w tmps vm ss s)(sz:Nat):∀ (parts:List (Nat×gf)) (ps:List (Nat×Src)) (cs:Array Value) (els:List AV) (n:Nat),els.length=n ->
  WR vm ss parts ps=b7->setOk sz n (ps.map fun p=>(p.1,rd s p.2))=b7->uV (AS F g s.ob) w sz cs els ->
  ∃ C,ic (fun i=>bI (i*sz,sz)) cs (parts.map fun p=>(p.1,({ tmps:=tmps,defers:=ds }:gg).eval p.2))=bI C∧uV (AS F g s.ob) w sz C (OS els (ps.map fun p=>(p.1,rd s p.2)))
 | [],[],cs,els,n,_,_,_,U=>⟨cs,rfl,U⟩
 | [],_::_,_,_,_,_,R,_,_=>by simp[WR] at R
 | _::_,[],_,_,_,_,R,_,_=>by simp[WR] at R
 | p::r,q::t,cs,els,n,hn,R,j,U=>by
  simp only[WR,baT,beq_iff_eq] at R;obtain⟨hs,ab,I⟩:=R;simp only[e',setOk,baT,beq_iff_eq,dtE] at j;obtain⟨ao,hl,J,j⟩:=j;have hv:=(h.src (ds:=ds) hs).atoms J;have ac:=hv.cells J;have T:=U.put hv J hl (k:=q.1) (by omega);obtain⟨C,e,aa⟩:=eX h sz r t _ _ n (by simpa using hn) I j T;refine⟨C,?_,by simp only[e',OS];exact aa⟩;have k1:(({ tmps:=tmps,defers:=ds }:gg).eval p.2).cells.size=sz:=by rw[ac.1,hl]
  have k2:q.1*sz+(({ tmps:=tmps,defers:=ds }:gg).eval p.2).cells.size<=cs.size:=by
   rw[k1,U.n];have:(q.1+1)*sz<=els.length*sz:=bX _ (by omega);rw[d'] at this;omega
  rw[e',ic];simp only[ab];rw[if_neg (by simp only[gk,dtE];omega)];exact e
theorem YQ:∀ (ps:List (Nat×AV)) (els:List AV),(OS els ps).length=els.length
 | [],_=>rfl
 | p::r,els=>by simp only[OS];rw[YQ r];simp
theorem AFg(h:FR F g w tmps vm ss s){sz:Nat}{z:AV}{n:Nat}{ps:List (Nat×Src)}(hc:yj P vm ss sz z n ps o.op=b7)(a5:setOk sz n (ps.map fun p=>(p.1,rd s p.2))=b7):
  BM (AS F g s.ob) w g s.ob key ⟨setOk sz n (ps.map fun p=>(p.1,rd s p.2)),.own (Bh key),[(Bh key,⟨sz,OS (e5 n z) (ps.map fun p=>(p.1,rd s p.2))⟩)]⟩ ((bN ({ tmps:=tmps,defers:=ds }:gg).eval o).run P w):=by
 unfold yj at hc;split at hc
 ·rename_i t m parts he;simp only[baT,beq_iff_eq,dtE] at hc;obtain⟨hm,bo,hp,C,ao⟩:=hc;subst hm;split at C
  ·rename_i e a3;simp only[baT,beq_iff_eq] at C;obtain⟨a2,C⟩:=C;split at C
   ·rename_i zv hz;simp only[baT,beq_iff_eq] at C;obtain⟨a0,ad,ae⟩:=C;have hu:=OR a3;have aj:=(gN (S:=AS F g s.ob) (w:=w) a0).cells ae;have a1:zv.cells.size=sz:=by rw[aj.1,ad]
    let zc:Array Value:=if m*sz=0 then #[] else zv.cells
    let arr:Array Value:=(ke (m*sz)).map (zc[· % zc.size]!)
    have R:∀ i,i<m->(e5 m z).getD i .any=z:=fun i hi=>by
     rw[gdE,hK,if_pos hi];rfl
    have hrel:uV (AS F g s.ob) w sz arr (e5 m z):=by
     refine⟨by simp[arr],fun i hi=>?_,fun i j hi hj=>?_⟩
     ·rw[R i (by simpa using hi)];exact⟨ad,ae⟩
     ·have av:i<m:=by simpa using hi
      have a7:=RK av hj;have a6:m*sz≠0:=by omega
      have au:(i*sz+j)%sz=j:=by rw[gr,hP];exact hL hj
      have I:zc=zv.cells:=if_neg a6
      have:arr.getD (i*sz+j) cA=zv.cells.getD j cA:=by
       rw[agD,e8 (by simpa[arr] using a7)];simp only[arr,kA,kf,iN,I,a1,au];rw[getElem!_pos zv.cells j (by omega),agD,e8 (by omega)];rfl
      rw[R i av,this];exact aj.2 j (by omega)
    obtain⟨ab,ef,hr⟩:=eX (ds:=ds) h sz parts.toList ps arr (e5 m z) m (by simp) ao a5 hrel;have T:(parts.map fun p=>(p.1,({ tmps:=tmps,defers:=ds }:gg).eval p.2)).toList=parts.toList.map fun p=>(p.1,({ tmps:=tmps,defers:=ds }:gg).eval p.2):=by simp
    have hn:¬ (m*sz>2^24):=by omega
    have U:(OS (e5 m z) (ps.map fun p=>(p.1,rd s p.2))).length=m:=by rw[YQ];simp
    refine⟨.slice (bI ⟨w.heap.size,0,b'⟩) m m,w.alloc (.cells ab e),?_,AG.alloc _ _ _,.inr ⟨_,_,w.heap.size,m,rfl,by simp[Bh],df _,fun S' hS=>?_,.inl ⟨rfl,.inl (by rw[U])⟩⟩⟩
    ·have J:ic (fun i=>bI (i*sz,sz)) ((ke (m*sz)).map fun x=>zc[x%zc.size]!) (parts.toList.map fun p=>(p.1,({ tmps:=tmps,defers:=ds }:gg).eval p.2))=bI ab:=ef;simp only[bN,he,Instr.buildSlice,e7,b8 hu,cS,FW a2];rw[if_neg hn]
     by_cases h0:m*sz=0
     ·have I:zc = #[]:=if_pos h0;rw[I] at J;rw[if_pos h0];simp only[e7,gv,cS,T,J];simp[j9]
     ·have I:zc=zv.cells:=if_neg h0;rw[I] at J;rw[if_neg h0];simp only[e7,gv,cS,Rh hz,T,J];simp[j9]
    ·refine⟨hp,by rw[U];exact df _,hr.c,fun _=>⟨ab,e,(0,0),hC _ _,.inl rfl,by rw[hr.n,U],fun i j hi hj=>?_⟩⟩;refine (hr.r i j hi hj).mono (AG.alloc _ _ _) fun b hb hc=>?_
     rcases hS b hc with e|e
     ·exact e
     ·omega
   ·cases C
  ·cases C
 ·cases hc
end
def oj(g0:Gh)(o0:Cp)(g:Gh)(ob:Cp):Prop:=∀ k h,k%32=31->AK k ob=bI h ->
 ∃ i,AK k o0=bI i∧h.sz=i.sz∧i.els.length<=h.els.length∧(h.els.length=i.els.length->g.β k=g0.β k∧g.cap k=g0.cap k)
theorem oj.sub{g0 g:Gh}{o0 ob ob':Cp}(h:oj g0 o0 g ob)(hs:∀ k h,AK k ob'=bI h->AK k ob=bI h):oj g0 o0 g ob' :=
 fun k hm i j=>h k hm i (hs k hm j)
theorem oj.new{g0 g:Gh}{o0 ob:Cp}(h:oj g0 o0 g ob){k b cap:Nat}{hm:Hm}(I:k%32≠31):oj g0 o0 ⟨fun j=>if j=k then b else g.β j,fun j=>if j=k then cap else g.cap j⟩ (DA k hm ob):=by
 intro j J p C;have i:j≠k:=fun e=>I (e▸p)
 rw[BN,if_neg (fI i)] at C;simpa[i] using h j J p C
theorem oj.set{g0 g:Gh}{o0 ob:Cp}(h:oj g0 o0 g ob){k b cap:Nat}{hm h2:Hm}(R:AK k ob=bI hm)(I:h2.sz=hm.sz)(J:hm.els.length<=h2.els.length)(T:h2.els.length=hm.els.length->b=g.β k∧cap=g.cap k):
  oj g0 o0 ⟨fun j=>if j=k then b else g.β j,fun j=>if j=k then cap else g.cap j⟩ (DA k h2 ob):=by
 intro j h' C p;rw[BN] at p
 by_cases i:k=j
 ·subst i;rw[if_pos rfl] at p;cases p;obtain⟨U,e0,e1,e2,e3⟩:=h k hm C R;refine⟨U,e0,by rw[I,e1],hN e2 J,fun e=>?_⟩;obtain⟨a1,a2⟩:=T (by omega);obtain⟨b1,b2⟩:=e3 (by omega);simp[a1,a2,b1,b2]
 ·rw[if_neg i] at p;simpa[fI i] using h j h' C p
theorem oj.setSame{g0 g:Gh}{o0 ob:Cp}(h:oj g0 o0 g ob){k:Nat}{hm h2:Hm}(J:AK k ob=bI hm)(I:h2.sz=hm.sz)(hl:h2.els.length=hm.els.length):oj g0 o0 g (DA k h2 ob):=by
 intro j T C p;rw[BN] at p
 by_cases i:k=j
 ·subst i;rw[if_pos rfl] at p;cases p;obtain⟨R,e0,e1,e2,U⟩:=h k hm C J;exact⟨R,e0,by rw[I,e1],by omega,fun e=>U (by omega)⟩
 ·rw[if_neg i] at p;exact h j T C p
structure FX(F Iow:Nat->Prop)(w0:bS)(g0:Gh)(o0:Cp)(g:Gh)(w:bS)(tmps:Array Value)(vm ss:List Nat)(s:St):Prop extends FR F g w tmps vm ss s where
 same:AG Iow w0 w
 hio:∀ k,Ma g s.ob k->w0.heap.size<=g.β k∨Iow (g.β k)
 fio:∀ b,F b->¬ Iow b
 par:oj g0 o0 g s.ob
section
variable {F Iow:Nat->Prop}{w0:bS}{g0:Gh}{o0:Cp}{g:Gh}{w w':bS}{tmps:Array Value}{ds:List hT}{vm ss ss':List Nat}{s:St}{P:bR}{o:Oper}{key:Nat}
theorem FR.setLt(h:FR F g w tmps vm ss s){b:Nat}(i:AS F g s.ob b):b<w.heap.size:=by
 rcases i with i|⟨k,⟨⟨hm,p⟩,j⟩,rfl⟩
 ·exact h.fb b i
 ·exact (h.home k hm p).lt j
theorem AG.into(i:AG Iow w0 w)(j:AG (fun b=>w0.heap.size<=b∨Iow b) w w'):AG Iow w0 w':=by
 refine⟨j.os.trans i.os,j.tape.trans i.tape,j.output.trans i.output,hN i.size j.size,fun b C p=>?_⟩
 have I:¬ (w0.heap.size<=b∨Iow b):=by
  rintro (c|c)
  ·omega
  ·exact p c
 exact (j.block b (h6 C i.size) I).trans (i.block b C p)
theorem FX.mk'(h:FR F g w' tmps vm ss s){w:bS}(j:AG Iow w0 w)(i:AG (fun b=>w0.heap.size<=b∨Iow b) w w')(hio:∀ k,Ma g s.ob k->w0.heap.size<=g.β k∨Iow (g.β k))(fio:∀ b,F b->¬ Iow b)(par:oj g0 o0 g s.ob):FX F Iow w0 g0 o0 g w' tmps vm ss s :=
 ⟨h,j.into i,hio,fio,par⟩
theorem em{k d:Nat}{hm:Hm}(i:AK k (clear s d).ob=bI hm):AK k s.ob=bI hm:=by
 unfold Go.Proofs.YtegmpdmpgmpiaaaGreatDoor.clear at i;rw[AM] at i;split at i
 ·simp only[Hi] at i;split at i
  ·cases i
  ·exact i
 ·exact i
theorem lZ{k d:Nat}(j:KY (clear s d).ob k):KY s.ob k:=by
 obtain⟨hm,i⟩:=j;unfold Go.Proofs.YtegmpdmpgmpiaaaGreatDoor.clear at i;rw[AM] at i;split at i
 ·simp only[Hi] at i;split at i
  ·cases i
  ·exact⟨hm,i⟩
 ·exact⟨hm,i⟩
theorem FR.addNew(h:FR F g w tmps vm ss s)(R:AG (fun _=>False) w w'){k b cap:Nat}{hm:Hm}(I:¬ KY s.ob k)(hb:w.heap.size<=b)
  (C:∀ S':Nat->Prop,(∀ c,S' c->AS F g s.ob c∨c=b)->IK S' w' b cap hm.sz hm.els) :
  FR F ⟨fun j=>if j=k then b else g.β j,fun j=>if j=k then cap else g.cap j⟩ w' tmps vm ss { s with ob:=DA k hm s.ob }:=by
 have p:AG (AS F g s.ob) w w':=R.mono fun _ _ c=>c.elim
 have J:∀ c,c<w.heap.size->(AS F g s.ob c∨c=b)->AS F g s.ob c:=fun c hc T=>by
  rcases T with e|e
  ·exact e
  ·omega
 refine (h.grow R).add I (fun _ c hc e=>?_) C (fun U h' hg=>?_) (fun i hi=>?_) (fun i hi=>?_) (h.tab.mono p J)
 ·have:=h.setLt hc;omega
 ·exact (h.home U h' hg).mono p (fun hp=>R.block _ ((h.home U h' hg).lt hp) (fun c=>c)) J
 ·exact (h.vs i hi).mono p J fun k _ hm I=>⟨hm,I,rfl,rfl,rfl,rfl⟩
 ·exact (h.st i hi).mono p J fun k _ hm I=>⟨hm,I,rfl,rfl,rfl,rfl⟩
theorem FX.still(h:FX F Iow w0 g0 o0 g w tmps vm ss s)(ab:QM vm){dst:Option Nat}{D:Ji}(hd:Ew vm ss dst D=bI ss')(p:∀ d,dst=bI d->d<tmps.size){m:Mk}{r:Result Next}
  (hp:BM (AS F g s.ob) w g s.ob key m r):∃ v w' g',r = .ok (.value v) w'∧FX F Iow w0 g0 o0 g' w' (It tmps dst v) vm ss' (Dr s key D m):=by
 obtain⟨v,w',hr,hw,J⟩:=hp;have R:AG (fun b=>w0.heap.size<=b∨Iow b) w w':=hw.mono fun _ _ c=>c.elim
 rcases J with⟨I,hv⟩|⟨k,hm,b,cap,I,C,hb,aa,T⟩
 ·refine⟨v,w',g,hr,?_⟩;unfold Dr;rw[I];simp only[UG];have h1:=(h.toFR.grow hw).put ab hd p m.ok (v:=v) (a:=m.v) (fun _=>hv);have this:(BE s m.ok m.v D).ob=s.ob:=by cases D<;>rfl
  refine FX.mk' (w:=w) h1 h.same R (fun k C=>?_) h.fio (by rw[this];exact h.par);rw[this] at C;exact h.hio k C
 ·have h1:=h.toFR.clear key;have U:∀ c,AS F g (clear s key).ob c->AS F g s.ob c:=fun c hc=>Ii (fun k C=>lZ C) hc
  have h2:=h1.addNew hw (k:=k) (b:=b) (cap:=cap) (hm:=hm) (oF h.toFR C.1) hb (fun S' hS=>aa S' fun c hc=>by
   rcases hS c hc with e|e
   ·exact .inl (U c e)
   ·exact .inr e)
  refine⟨v,w',⟨fun j=>if j=k then b else g.β j,fun j=>if j=k then cap else g.cap j⟩,hr,?_⟩;unfold Dr;rw[I];simp only[UG,Sk,Fo]
  have h3:=h2.put ab hd p m.ok (v:=v) (a:=m.v) (fun _=>by
   rcases T with⟨e1,e3⟩|⟨e1,e2,rfl⟩
   ·rw[e1];exact⟨hm,by simp[BN],by simpa using e3⟩
   ·rw[e1];exact⟨hm,by simp[BN],e2,by simp⟩)
  have ao:∀ j h',AK j (clear s key).ob=bI h'->AK j s.ob=bI h':=fun j h' hg=>em hg
  refine FX.mk' (w:=w) h3 h.same R (fun j hj=>?_) h.fio (by
   have:(BE { clear s key with ob:=DA k hm (clear s key).ob } m.ok m.v D).ob=DA k hm (clear s key).ob:=by cases D<;>rfl
   rw[this];exact (h.par.sub ao).new C.2)
  have:(BE { clear s key with ob:=DA k hm (clear s key).ob } m.ok m.v D).ob=DA k hm (clear s key).ob:=by cases D<;>rfl
  rw[this] at hj
  by_cases i:j=k
  ·subst i;simp only[if_true];exact .inl (hN h.same.size hb)
  ·simp only[i,if_false];obtain⟨⟨aj,hg⟩,hp⟩:=hj;rw[BN,if_neg (fI i)] at hg;simp only[i,if_false] at hp;exact h.hio j ⟨lZ ⟨aj,hg⟩,hp⟩
theorem IK.sl{S S':Nat->Prop}{b cap sz:Nat}{els:List AV}(C:IK S w b cap sz els){r:Nat->Nat->Value}
  (p:∀ i j,i<els.length->j<sz->w.cell? ⟨b,i*sz+j,b'⟩=bI (r i j)∧VR S w (r i j) ((els.getD i .any).cells.getD j .any)) (hS:∀ c,S' c->S c) (U:0<cap->¬ S' b) :
  VR S' w (.slice (bI ⟨b,0,b'⟩) els.length cap) (.sl sz els)∧(cap=0->VR S' w (.slice b' 0 0) (.sl sz els)) ∧
  ∀ i off,i<els.length->VR S' w (.pointer (bI ⟨b,i*sz+off,b'⟩)) (.ptr sz els i off):=by
 have I:0<els.length->¬ S' b:=fun R=>U (by have:=C.len;omega)
 have T:∀ i j,i<els.length->j<sz->VR S' w (r i j) ((els.getD i .any).cells.getD j .any):=fun i j hi J=>
  (p i j hi J).2.mono (AG.refl _ _) fun b _ hb=>hS b hb
 refine⟨.sl b 0 r rfl C.len C.pos (fun R=>⟨rfl,I R⟩) C.cells (fun i j hi J=>by rw[cI];exact (p i j hi J).1) T,fun h0=>?_,fun i off hi=>?_⟩
 ·have he:els=[]:=by have:=C.len;rw[h0] at this;exact dX.1 (by omega)
  subst he;exact .sl 0 0 (fun _ _=>cA) rfl (df _) C.pos (fun R=>by simp at R) (fun i hi=>by simp at hi) (fun i j hi _=>by simp at hi) (fun i j hi _=>by simp at hi)
 ·have:=VR.ptr (S:=S') (w:=w) (i0:=i) (o0:=off) b 0 r C.pos hi (I (by omega)) C.cells (fun i j hi J=>by rw[cI];exact (p i j hi J).1) T
  rwa [cI] at this
theorem FR.sl_of(h:FR F g w tmps vm ss s){k:Nat}{hm:Hm}(hk:AK k s.ob=bI hm){S':Nat->Prop}(U:∀ b,S' b->AS F g s.ob b∧(0<g.cap k->b≠g.β k)):
  VR S' w (.slice (bI ⟨g.β k,0,b'⟩) hm.els.length (g.cap k)) (.sl hm.sz hm.els) ∧
  ∀ i off,i<hm.els.length->VR S' w (.pointer (bI ⟨g.β k,i*hm.sz+off,b'⟩)) (.ptr hm.sz hm.els i off):=by
 have C:=h.home k hm hk;obtain⟨r,p⟩:=C.cell;have I:0<hm.els.length->¬ S' (g.β k):=fun T c=>(U _ c).2 (by have:=C.len;omega) rfl
 have R:∀ i j,i<hm.els.length->j<hm.sz->VR S' w (r i j) ((hm.els.getD i .any).cells.getD j .any):=fun i j hi J=>
  (p i j hi J).2.mono (AG.refl _ _) fun b _ hb=>(U b hb).1
 refine⟨.sl (g.β k) 0 r rfl C.len C.pos (fun T=>⟨rfl,I T⟩) C.cells (fun i j hi J=>by rw[cI];exact (p i j hi J).1) R,fun i off hi=>?_⟩;have:=VR.ptr (S:=S') (w:=w) (i0:=i) (o0:=off) (g.β k) 0 r C.pos hi (I (by omega)) C.cells (fun i j hi J=>by rw[cI];exact (p i j hi J).1) R
 rwa [cI] at this
theorem TQ(h:FR F g w tmps vm ss s){k:Nat}{hm:Hm}(C:AK k s.ob=bI hm){v:Value}{a:AV}(ha:Oh (AS F g s.ob) w g s.ob v a):Oh (AS F g (LQ k s.ob)) w g (LQ k s.ob) v (a.fz1 k hm):=by
 have hS:∀ b,AS F g (LQ k s.ob) b->AS F g s.ob b∧(0<g.cap k->b≠g.β k):=by
  intro b hb;rcases hb with hb|⟨j,⟨⟨p,T⟩,U⟩,e⟩
  ·exact⟨.inl hb,fun U e=>h.nF k ⟨⟨hm,C⟩,U⟩ (e▸hb)⟩
  ·rw[Dv] at T;split at T
   ·cases T
   ·rename_i J;exact⟨.inr ⟨j,⟨⟨p,T⟩,U⟩,e⟩,fun ac e2=>J (h.inj k j ⟨⟨hm,C⟩,ac⟩ ⟨⟨p,T⟩,U⟩ (by rw[e,e2]))⟩
 have keep:∀ j p,j≠k->AK j s.ob=bI p->AK j (LQ k s.ob)=bI p:=fun j p J T=>by rw[Dv,if_neg (fI J)];exact T
 cases a
 case own j=>
  obtain⟨p,I,e⟩:=ha;simp only[AV.fz1,AM,beq_iff_eq];split
  ·rename_i R;subst R;rw[C] at I;cases I;rcases e with e|⟨hz,e⟩
   ·rw[e];exact (h.sl_of C hS).1
   ·rw[e,h.nil_els C hz];exact .sl 0 0 (fun _ _=>cA) rfl (df _) (h.home j hm C).pos (fun U=>by simp at U) (fun i hi=>by simp at hi) (fun i j hi _=>by simp at hi) (fun i j hi _=>by simp at hi)
  ·rename_i R;exact⟨p,keep j p R I,e⟩
 case ref j i off=>
  obtain⟨p,I,hi,e⟩:=ha;simp only[AV.fz1,AM,beq_iff_eq];split
  ·rename_i R;subst R;rw[C] at I;cases I;rw[e];exact (h.sl_of C hS).2 i off hi
  ·rename_i R;exact⟨p,keep j p R I,hi,e⟩
 all_goals
  simp only[Oh,AV.fz1] at ha ⊢;exact ha.mono (AG.refl _ _) fun b _ hb=>(hS b hb).1
theorem AES(h:FR F g w tmps vm ss s){k:Nat}{hm:Hm}(C:AK k s.ob=bI hm){v:Value}{a:AV}(p:SR (AS F g s.ob) w g s.ob v a):SR (AS F g (LQ k s.ob)) w g (LQ k s.ob) v (a.fz k hm):=by
 have J:∀ (l:List AV) j,(l.map (AV.fz1 k hm)).getD j .any=(l.getD j .any).fz1 k hm:=fun l j=>Bv _ rfl l j
 cases a
 case fn f a1 a2=>
  obtain⟨v1,v2,e,n1,n2,T,h2⟩:=p;exact⟨v1,v2,e,by simpa using n1,by simpa using n2,fun j I=>by rw[J];exact TQ h C (T j (by simpa using I)),fun j I=>by rw[J];exact TQ h C (h2 j (by simpa using I))⟩
 case tup U=>
  obtain⟨vs,e,n,T⟩:=p;exact⟨vs,e,by simpa using n,fun j I=>by rw[J];exact TQ h C (T j (by simpa using I))⟩
 case opt b a=>
  simp only[SR,AV.fz] at p ⊢;split at p
  ·rename_i R;rw[if_pos R];exact TQ h C p
  ·rename_i R;rw[if_neg R];exact p
 case own j=>exact (TQ h C (a:=.own j) p).toSR
 case ref j i off=>exact (TQ h C (a:=.ref j i off) p).toSR
 all_goals
  simp only[SR] at p;exact (TQ h C p).toSR
theorem FX.freezeH(h:FX F Iow w0 g0 o0 g w tmps vm ss s)(k:Nat):FX F Iow w0 g0 o0 g w tmps vm ss (freezeH s k (AK k s.ob)):=by
 cases U:AK k s.ob with
 | none=>exact h
 | some hm=>
  have C:∀ j,KY (LQ k s.ob) j->KY s.ob j:=fun j ⟨I,p⟩=>by
   rw[Dv] at p;split at p
   ·cases p
   ·exact⟨I,p⟩
  have J:FR F g w tmps vm ss (Go.Proofs.YtegmpdmpgmpiaaaGreatDoor.freezeH s k (bI hm)):=by
   refine⟨fun j I p=>?_,fun j T a b=>h.inj j T ⟨C j a.1,a.2⟩ ⟨C T b.1,b.2⟩,fun j a=>h.nF j ⟨C j a.1,a.2⟩,h.fb,by simpa[Go.Proofs.YtegmpdmpgmpiaaaGreatDoor.freezeH] using h.vl,by simpa[Go.Proofs.YtegmpdmpgmpiaaaGreatDoor.freezeH] using h.sl,fun i hi=>?_,fun i hi=>?_,h.fit,h.tab.mono (AG.refl _ _) fun b _ R=>Ii C R⟩
   ·simp only[Go.Proofs.YtegmpdmpgmpiaaaGreatDoor.freezeH] at p ⊢;rw[Dv] at p;split at p
    ·cases p
    ·exact (h.home j I p).mono (AG.refl _ _) (fun _=>rfl) fun b _ R=>Ii C R
   ·simp only[Go.Proofs.YtegmpdmpgmpiaaaGreatDoor.freezeH];rw[Bv _ rfl];exact AES h.toFR U (h.vs i hi)
   ·simp only[Go.Proofs.YtegmpdmpgmpiaaaGreatDoor.freezeH];rw[Bv _ rfl];exact AES h.toFR U (h.st i hi)
  exact⟨J,h.same,fun j hj=>h.hio j ⟨C j hj.1,hj.2⟩,h.fio,h.par.sub fun j I p=>by
   simp only[Go.Proofs.YtegmpdmpgmpiaaaGreatDoor.freezeH] at p;rw[Dv] at p;split at p
   ·cases p
   ·exact p⟩
theorem FX.freezeAll(ks:List Nat):∀ {s:St},FX F Iow w0 g0 o0 g w tmps vm ss s->FX F Iow w0 g0 o0 g w tmps vm ss (freezeAll s ks):=by
 induction ks with
 | nil=>intro s h;exact h
 | cons k r i=>intro s h;exact i (h.freezeH k)
end
open Go Go.RowKit
section
variable {F Iow:Nat->Prop}{w0:bS}{g0:Gh}{o0:Cp}{g:Gh}{w w':bS}{tmps:Array Value}{ds:List hT}{vm ss ss':List Nat}{s:St}{P:bR}{o:Oper}{key:Nat}
theorem jg{b off:Nat}{i:Array Value}{T:c'}{j:Nat×Nat}{v:Value}(C:w.heap[b]? = bI (.cells i T j)):
  (w.setCell ⟨b,off,b'⟩ v).heap[b]? = bI (.cells (i.setIfInBounds off v) T j)∧AG (fun c=>c=b) w (w.setCell ⟨b,off,b'⟩ v):=by
 refine⟨by simp[World.setCell,Array.getElem?_modify,C],⟨rfl,rfl,rfl,by simp,fun c I p=>?_⟩⟩;exact Below.heap_setCell w _ _ c p
theorem OT(b:Nat)(T:c')(fz:Nat×Nat):∀ (vs:List Value) (o i:Nat) (arr:Array Value) (w:bS),w.heap[b]? = bI (.cells arr T fz)->(fz=(0,0)∨arr.size<=fz.1)->o+i+vs.length<=arr.size->(∀ v,v∈vs->v.oneCell'=b7) ->
  ∃ w' j,(k8 ⟨b,o,b'⟩ vs i).run P w = .ok () w'∧AG (fun c=>c=b) w w'∧w'.heap[b]? = bI (.cells j T fz)∧j.size=arr.size ∧
   ∀ x,j.getD x cA=if o+i<=x∧x<o+i+vs.length then vs.getD (x-(o+i)) cA else arr.getD x cA
 | [],o,i,arr,w,hb,_,_,_=>⟨w,arr,rfl,AG.refl _ _,hb,rfl,fun x=>by simp only[hO];rw[if_neg (by omega)]⟩
 | v::vs,o,i,arr,w,hb,U,J,h1=>by
  have I:o+i<arr.size:=by simp at J;omega
  have C:w.cell? ⟨b,o+i,b'⟩=bI arr[o+i]:=by simp[ka,hb,I]
  have aa:w.frozen? ⟨b,o+i,b'⟩=b9:=by
   simp only[World.frozen?,hb];rcases U with e|e
   ·subst e;simp
   ·simp;omega
  have ae:(store ((⟨b,o,b'⟩:Addr).add i) v).run P w = .ok () (w.setCell ⟨b,o+i,b'⟩ v):=by
   rw[Hb,run_store P w _ v _ (h1 v (by simp)),C];simp[aa]
  obtain⟨ao,p⟩:=jg (off:=o+i) (v:=v) hb;obtain⟨w',j,hr,hs,aj,ad,R⟩:=OT b T fz vs o (i+1) (arr.setIfInBounds (o+i) v) (w.setCell ⟨b,o+i,b'⟩ v) ao (by simpa using U) (by simp at J ⊢;omega) (fun x hx=>h1 x (by simp[hx]));refine⟨w',j,by simp only[k8,e7,ae,cS,hr],p.trans hs,aj,by simpa using ad,fun x=>?_⟩;rw[R x];simp only[iZ]
  by_cases c1:o+(i+1)<=x∧x<o+(i+1)+vs.length
  ·rw[if_pos c1,if_pos (by omega),show x-(o+i)=(x-(o+(i+1)))+1 by omega,gn]
  ·rw[if_neg c1]
   by_cases c2:o+i=x
   ·subst c2;rw[if_pos (by omega),k7,eu,Ju I]
   ·rw[if_neg (by omega),Ea c2]
def oR(P:bR)(vm ss:List Nat)(sz:Nat)(p x:Src):Op->Bool
 | .store t a b=>BU vm ss a p&&(BU vm ss b x&&VW P t==bI sz)
 | _=>b9
theorem mB{a:AV}(h:a.atom=b7):a.isAgg=b9:=by cases a<;>first|rfl|(simp[AV.atom] at h)
theorem uD(l:List AV)(j:Nat)(h:j<l.length):l[j]=l.getD j .any:=by
 rw[gdE,geE h];rfl
theorem nO{el:AV}{xs:List AV}{off:Nat}(C:∀ j,j<xs.length->(xs.getD j .any).atom=b7)(i:off+xs.length<=el.cells.length):(el.like (EH el.cells off xs)).cells=EH el.cells off xs:=by
 by_cases I:el.isAgg=b7
 ·cases el<;>simp[AV.isAgg] at I
  rfl
 ·have J:=WS (by simpa using I:el.isAgg=b9);rw[J] at i ⊢;simp only[List.length_singleton] at i;have p:∀ y,el.like [y]=y:=fun y=>by cases el<;>first|rfl|(simp[AV.isAgg] at I)
  match xs,C,i with
  | [],_,_=>simp only[EH];rw[p,J]
  | [y],C,i=>
   have R:off=0:=by simp at i;omega
   subst R;simp only[EH,List.set_cons_zero];rw[p];exact WS (mB (by simpa using C 0 (by simp)))
  | y::z::r,_,i=>simp at i;omega
theorem Sg.set{k:Nat}{hm h2:Hm}(I:AK k s.ob=bI hm)(C:h2.els.length=hm.els.length)(p:h2.sz=hm.sz)(j:Nat):Sg g g s.ob (DA k h2 s.ob) j:=by
 intro J i
 by_cases e:k=j
 ·subst e;rw[I] at i;cases i;exact⟨h2,by rw[BN,if_pos rfl],C,p,rfl,rfl⟩
 ·exact⟨J,by rw[BN,if_neg e];exact i,rfl,rfl,rfl,rfl⟩
theorem PF{k j:Nat}{hm h2:Hm}{ob:Cp}(p:AK k ob=bI hm)(C:KY (DA k h2 ob) j):KY ob j:=by
 obtain⟨I,i⟩:=C;rw[BN] at i;split at i
 ·rename_i e;subst e;exact⟨hm,p⟩
 ·exact⟨I,i⟩
theorem FX.change(h:FX F Iow w0 g0 o0 g w tmps vm ss s){k:Nat}{hm h2:Hm}(C:AK k s.ob=bI hm)(hp:0<g.cap k)(hl:h2.els.length=hm.els.length)(hz:h2.sz=hm.sz)(hw:AG (fun c=>c=g.β k) w w')
  (R:IK (AS F g s.ob) w' (g.β k) (g.cap k) h2.sz h2.els) (ok:Bool):FX F Iow w0 g0 o0 g w' tmps vm ss { s with ob:=DA k h2 s.ob,ok:=ok }:=by
 have i:∀ c,AS F g (DA k h2 s.ob) c->AS F g s.ob c:=fun c hc=>Ii (fun j U=>PF C U) hc
 have p:AG (AS F g s.ob) w w':=hw.mono fun c _ e=>.inr ⟨k,⟨⟨hm,C⟩,hp⟩,e.symm⟩
 have T:=h.toFR.slots (w':=w') (g':=g) (ob':=DA k h2 s.ob) id rfl p (fun b _ c=>i b c) (fun a v _=>.inr ⟨rfl,fun j _=>Sg.set C hl hz j⟩) (fun j h' I=>by
  rw[BN] at I;split at I
  ·rename_i e;subst e;cases I;exact R.mono (AG.refl _ _) (fun _=>rfl) fun b _ c=>i b c
  ·rename_i e;exact (h.home j h' I).mono p (fun J=>hw.block _ ((h.home j h' I).lt J) fun e2=>e (h.inj k j ⟨⟨hm,C⟩,hp⟩ ⟨⟨h',I⟩,J⟩ e2.symm)) fun b _ c=>i b c) (fun j j' a b=>h.inj j j' ⟨PF C a.1,a.2⟩ ⟨PF C b.1,b.2⟩) (fun j a=>h.nF j ⟨PF C a.1,a.2⟩) ok
 simp only[List.map_id] at T;refine FX.mk' (w:=w) T h.same (hw.mono fun c _ e=>?_) (fun j U=>h.hio j ⟨PF C U.1,U.2⟩) h.fio (h.par.setSame C hz hl);rw[e];exact h.hio k ⟨⟨hm,C⟩,hp⟩
theorem FX.store(h:FX F Iow w0 g0 o0 g w tmps vm ss s){sz:Nat}{p x:Src}(hc:oR P vm ss sz p x o.op=b7)(C:(LJ s sz (rd s x) (rd s p)).ok=b7):
  ∃ w',(bN ({ tmps:=tmps,defers:=ds }:gg).eval o).run P w = .ok .skip w'∧FX F Iow w0 g0 o0 g w' tmps vm ss (LJ s sz (rd s x) (rd s p)):=by
 unfold oR at hc;split at hc
 ·rename_i t a b he;simp only[baT,beq_iff_eq] at hc;obtain⟨b0,bv,bs⟩:=hc;have a3:=h.toFR.src (ds:=ds) b0;have a1:=h.toFR.src (ds:=ds) bv;revert C;generalize rd s p=ap at a3;generalize rd s x=ax at a1;intro C;cases ap<;>simp only[LJ,fail] at C<;>try (cases C;done)
  case ref k i off=>
   obtain⟨hm,ho,hi,b2⟩:=a3;simp only[LJ,ho,Sn] at C ⊢;simp only[Tk,baT,beq_iff_eq,dtE] at C;obtain⟨_,b5,U,a5,ad⟩:=C;have hh:=h.home k hm ho;obtain⟨arr,T,fz,hr,hf,av,a2⟩:=hh.row (by have:=hh.len;omega);have bo:=a1.atoms ad;have J:=bo.cells ad;have R:=hh.cells i hi
   have be:i*hm.sz+hm.sz<=arr.size:=by
    have h1:=hh.len;have:(i+1)*hm.sz<=g.cap k*hm.sz:=bX _ (by omega);rw[d'] at this;omega
   obtain⟨w',a9,a4,aa,b4,au,a7⟩:=OT (P:=P) (g.β k) T fz (({ tmps:=tmps,defers:=ds }:gg).eval b).cells.toList (i*hm.sz+off) 0 arr w hr (hf.imp_right And.right) (by simp only[ff,J.1,U];rw[R.1] at a5;omega) (fun u hu=>by
    obtain⟨j,hj,rfl⟩:=hY hu;have a6:j<ax.cells.length:=by rw[← J.1];simpa using hj
    have:=(J.2 j a6).oneCell (Ht ad a6);rw[← Ei,gdE,geE hj] at this;exact this)
   refine⟨w',?_,?_⟩
   ·have b3:(({ tmps:=tmps,defers:=ds }:gg).eval b).cells.size=sz:=by rw[J.1,U]
    simp[bN,he,Instr.storeAt,hQ,b2,storeVar,FW bs,b3,a4]
   ·have a0:=nO (el:=hm.els.getD i .any) (xs:=ax.cells) (off:=off) (fun j hj=>Ht ad hj) (by omega);refine h.change (h2:=⟨hm.sz,hm.els.set i ((hm.els.getD i .any).like (EH (hm.els.getD i .any).cells off ax.cells))⟩) ho (by have:=hh.len;omega) (by simp) rfl aa ?_ _;have I:AG (AS F g s.ob) w w':=aa.mono fun c _ e=>.inr ⟨k,⟨⟨hm,ho⟩,by have:=hh.len;omega⟩,e.symm⟩
    have ao:∀ i',i'<hm.els.length->(hm.els.set i ((hm.els.getD i .any).like (EH (hm.els.getD i .any).cells off ax.cells))).getD i' .any=if i=i' then (hm.els.getD i .any).like (EH (hm.els.getD i .any).cells off ax.cells) else hm.els.getD i' .any:=by
     intro i' ac;rw[gdE,kI]
     by_cases e:i=i'
     ·simp[e,ac]
     ·simp[e,gdE]
    have ay:(EH (hm.els.getD i .any).cells off ax.cells).length=hm.sz:=by rw[KE,R.1]
    refine⟨hh.pos,by simpa using hh.len,fun i' ac=>?_,fun _=>⟨a9,T,fz,b4,by rw[au];exact hf,by rw[au,av],fun i' j ac hj=>?_⟩⟩
    ·have ab:i'<hm.els.length:=by simpa using ac
     rw[ao i' ab];split
     ·refine⟨by rw[a0,ay],?_⟩;simp only[AV.atoms,a0,et];intro q hq;obtain⟨j,hj,rfl⟩:=hY hq;rw[uD _ j hj,LP];split
      ·exact Ht ad (by omega)
      ·exact Ht R.2 (by rw[R.1];omega)
     ·exact hh.cells i' ab
    ·have ab:i'<hm.els.length:=by simpa using ac
     have ca:j<hm.sz:=hj;rw[ao i' ab,a7];simp only[ff,J.1,U,fu]
     by_cases e:i=i'
     ·subst e;rw[if_pos rfl,a0,LP]
      by_cases c1:off<=j∧j<off+sz
      ·rw[if_pos (by omega),if_pos (by rw[U,R.1];omega),Ei,show i*hm.sz+j-(i*hm.sz+off)=j-off by omega];exact (J.2 (j-off) (by omega)).ext I
      ·rw[if_neg (by omega),if_neg (by rw[U];omega)];exact (a2 i j hi hj).ext I
     ·rw[if_neg e,if_neg]
      ·exact (a2 i' j ab hj).ext I
      ·rw[R.1] at a5;rintro⟨c1,c2⟩;rcases kB e with b1|b1
       ·have:(i+1)*hm.sz<=i'*hm.sz:=bX _ (by omega);rw[d'] at this;omega
       ·have:(i'+1)*hm.sz<=i*hm.sz:=bX _ (by omega);rw[d'] at this;omega
 ·cases hc
def Vv(P:bR)(t:c'):Bool :=
 match P.underlying t with
 | some (.slice _)=>b7
 | some .string=>b7
 | _=>b9
def ABg(P:bR)(vm ss:List Nat)(sz bytes:Nat)(z:AV)(a x:Src):Op->Bool
 | .call { callee:=.builtin .append,args:=args,argTypes:=tys }=>(match args.toList,tys.toList with
  | [p,q],[t,u]=>BU vm ss p a&&(BU vm ss q x&&(Vv P u&&(cL (1<=sz)&&(match pQ P t with
   | some e=>VW P e==bI sz&&(byT P e==bI bytes&&(match zZ P e with
    | some i=>i.cells.size==sz&&cL (1<=bytes)
    | none=>b9))
   | none=>b9))))
  | _,_=>b9)
 | _=>b9
structure Ut(S:Nat->Prop)(w:bS)(P:bR)(sz:Nat)(v:Value)(ys:List AV)(news:Array Value):Prop where
 n:(hX v).run P w = .ok ys.length w
 c:(e9 sz ys.length v).run P w = .ok news w
 l:news.size=ys.length*sz
 e:∀ i,i<ys.length->(ys.getD i .any).cells.length=sz∧(ys.getD i .any).atoms=b7
 r:∀ i j,i<ys.length->j<sz->VR S w (news.getD (i*sz+j) cA) ((ys.getD i .any).cells.getD j .any)
theorem Ye(f:Nat->Value)(n x:Nat)(h:x<n):((j7 n).map f).toArray.getD x cA=f x:=by
 rw[Pa,gdE,eL,List.getElem?_range h];rfl
theorem fP{x n sz:Nat}(i:1<=sz)(h:x<n*sz):x/sz<n∧x%sz<sz∧x=x/sz*sz+x%sz :=
 ⟨Nat.div_lt_of_lt_mul (by rw[gr];exact h),Nat.mod_lt _ (by omega),by rw[gr];exact (Nat.div_add_mod x sz).symm⟩
theorem NM(h:FR F g w tmps vm ss s){sz:Nat}(a3:1<=sz){v:Value}{a:AV}(T:SR (AS F g s.ob) w g s.ob v a)(p:(Cv sz s.ob a).ok=b7)(aa:(Cv sz s.ob a).sz=sz):
  ∃ news,Ut (AS F g s.ob) w P sz v (Cv sz s.ob a).els news:=by
 cases a<;>simp only[Cv] at p<;>try (cases p;done)
 case str l=>
  have e:=Sp T;subst e;simp only[beq_iff_eq] at p;subst p;simp only[Cv]
  have hg:∀ i,i<l.length->(l.map Fm).getD i .any=Fm (l.getD i 0):=fun i hi=>by
   rw[gdE,eL,geE hi,gdE,geE hi];rfl
  refine⟨(l.map fun b=>Value.int .u8 (b.toNat:Int)).toArray,⟨by simp[hX,OA],?_,by simp,fun i hi=>?_,fun i j hi I=>?_⟩⟩
  ·simp only[e9,l5];rw[ByteArray.extract_mk];simp
  ·rw[hg i (by simpa using hi)];exact⟨rfl,rfl⟩
  ·have R:i<l.length:=by simpa using hi
   have aj:j=0:=by omega
   subst aj;rw[hg i R,kn,fu,Pa]
   have:(l.map fun b=>Value.int .u8 (b.toNat:Int)).getD i cA = .int .u8 ((l.getD i 0).toNat:Int):=by
    rw[gdE,eL,geE R,gdE,geE R];rfl
   rw[this];exact .int
 case nilsl=>
  have e:=Sq T;subst e;simp only[Cv];exact⟨#[],⟨rfl,rfl,by simp,fun i hi=>by simp at hi,fun i j hi _=>by simp at hi⟩⟩
 case sl sz2 els=>
  simp only[SR,Oh] at T;simp only[beq_iff_eq] at p;subst p;simp only[Cv];cases T with
  | @sl ad n cap _ _ b off r hn a0 U ha au hw hr=>
   subst hn
   by_cases hp:0<els.length
   ·obtain⟨rfl,a6⟩:=ha hp
    have hl:=j0 (P:=P) w ⟨b,off,b'⟩ (els.length*sz2) (fun x=>r (x/sz2) (x%sz2)) (fun x hx=>by
     obtain⟨h1,h2,h3⟩:=fP U hx;rw[Hb];have:=hw (x/sz2) (x%sz2) h1 h2
     rwa [← h3] at this)
    refine⟨_,⟨rfl,by simp only[e9];exact hl,by simp,au,fun i j hi I=>?_⟩⟩;have J:=RK hi I;rw[Ye _ _ _ J,gr i,lg (by omega),l3 I,fu,hP,hL I];exact hr i j hi I
   ·have h0:els=[]:=dX.1 (by omega);subst h0;refine⟨#[],⟨rfl,?_,by simp,fun i hi=>by simp at hi,fun i j hi _=>by simp at hi⟩⟩;cases ad<;>simp[e9,ku,j1]
 case own k=>
  obtain⟨hm,ho,e⟩:=T;rcases e with e|⟨hz,e⟩
  rotate_left
  ·subst e;simp only[Cv,ho,dK];rw[h.nil_els ho hz];exact⟨#[],⟨rfl,rfl,by simp,fun i hi=>by simp at hi,fun i j hi _=>by simp at hi⟩⟩
  subst e;simp only[Cv,ho,dK] at p aa ⊢;subst aa;have hh:=h.home k hm ho;obtain⟨r,C⟩:=hh.cell
  have hl:=j0 (P:=P) w ⟨g.β k,0,b'⟩ (hm.els.length*hm.sz) (fun x=>r (x/hm.sz) (x%hm.sz)) (fun x hx=>by
   obtain⟨h1,h2,h3⟩:=fP hh.pos hx;rw[Hb,cI];have:=(C (x/hm.sz) (x%hm.sz) h1 h2).1
   rwa [← h3] at this)
  refine⟨_,⟨rfl,by simp only[e9];exact hl,by simp,hh.cells,fun i j hi I=>?_⟩⟩;have J:=RK hi I;rw[Ye _ _ _ J,gr i,lg (by omega),l3 I,fu,hP,hL I];exact (C i j hi I).2
end
section
variable {F Iow:Nat->Prop}{w0:bS}{g0:Gh}{o0:Cp}{g:Gh}{w w':bS}{tmps:Array Value}{ds:List hT}{vm ss ss':List Nat}{s:St}{P:bR}{o:Oper}{key:Nat}
theorem kX(k:Nat):AV.kill k .any = .any:=by simp[AV.kill,AV.names,AV.keys]
theorem Yy(k:Nat)(a:AV):AV.kill k a = .any∨(AV.kill k a=a∧k ∉ a.keys):=by
 by_cases i:a.names k=b7
 ·exact .inl (by simp[AV.kill,i])
 ·exact .inr ⟨by simp[AV.kill,i],fun h=>i (LR.2 h)⟩
theorem FX.reown'(h:FX F Iow w0 g0 o0 g w tmps vm ss s){k:Nat}{hm h2:Hm}{b cap:Nat}(hk:AK k s.ob=bI hm)(hw:AG (fun c=>c=g.β k∧0<g.cap k) w w')
  (p:0<cap->(b=g.β k∧0<g.cap k)∨w.heap.size<=b) (ax:∀ S':Nat->Prop,(∀ c,S' c->AS F g s.ob c∨c=b)->IK S' w' b cap h2.sz h2.els) (av:oj g0 o0 ⟨fun j=>if j=k then b else g.β j,fun j=>if j=k then cap else g.cap j⟩ (DA k h2 s.ob)) (ok:Bool) :
  FX F Iow w0 g0 o0 ⟨fun j=>if j=k then b else g.β j,fun j=>if j=k then cap else g.cap j⟩ w' tmps vm ss { vs:=s.vs.map (AV.kill k),st:=s.st.map (AV.kill k),ob:=DA k h2 s.ob,ok:=ok }:=by
 have U:AG (AS F g s.ob) w w':=hw.mono fun c _ e=>.inr ⟨k,⟨⟨hm,hk⟩,e.2⟩,e.1.symm⟩
 have a1:∀ {j},KY (DA k h2 s.ob) j->KY s.ob j:=fun J=>PF hk J
 have ac:∀ c,AS F ⟨fun j=>if j=k then b else g.β j,fun j=>if j=k then cap else g.cap j⟩ (DA k h2 s.ob) c->AS F g s.ob c∨(c=b∧0<cap):=by
  intro c hc;rcases hc with hc|⟨j,⟨J,hp⟩,e⟩
  ·exact .inl (.inl hc)
  ·by_cases i:j=k
   ·subst i;exact .inr ⟨by simpa using e.symm,by simpa using hp⟩
   ·exact .inl (.inr ⟨j,⟨a1 J,by simpa[i] using hp⟩,by simpa[i] using e⟩)
 have T:∀ c,c<w.heap.size->AS F ⟨fun j=>if j=k then b else g.β j,fun j=>if j=k then cap else g.cap j⟩ (DA k h2 s.ob) c->AS F g s.ob c:=by
  intro c hc hs;rcases ac c hs with e|e
  ·exact e
  ·rcases p e.2 with p|p
   ·exact .inr ⟨k,⟨⟨hm,hk⟩,p.2⟩,by rw[e.1,p.1]⟩
   ·omega
 have ay:0<cap->∀ j,j≠k->Ma g s.ob j->g.β j≠b:=by
  intro ab j J hl e;rcases p ab with p|p
  ·exact J (h.inj j k hl ⟨⟨hm,hk⟩,p.2⟩ (by rw[e,p.1]))
  ·obtain⟨⟨h',hg⟩,hp⟩:=hl;have:=(h.home j h' hg).lt hp;omega
 have I:∀ j,j≠k->Ma ⟨fun j=>if j=k then b else g.β j,fun j=>if j=k then cap else g.cap j⟩ (DA k h2 s.ob) j->Ma g s.ob j:=fun j J hl=>⟨a1 hl.1,by simpa[J] using hl.2⟩
 have a4:=h.toFR.slots (w':=w') (g':=⟨fun j=>if j=k then b else g.β j,fun j=>if j=k then cap else g.cap j⟩) (ob':=DA k h2 s.ob) (AV.kill k) (kX k) U T (fun a v _=>by
   rcases Yy k a with e|⟨e,hn⟩
   ·exact .inl e
   ·refine .inr ⟨e,fun j J h' hg=>?_⟩;have i:j≠k:=fun e=>hn (e▸J)
    exact⟨h',by rw[BN,if_neg (fI i)];exact hg,rfl,rfl,by simp[i],by simp[i]⟩) (fun j h' hg=>by
  rw[BN] at hg
  by_cases i:k=j
  ·subst i;rw[if_pos rfl] at hg;cases hg;simp only[if_true];exact ax _ fun c hc=>(ac c hc).imp id fun e=>e.1
  ·rw[if_neg i] at hg;simp only[if_neg (fI i)];refine (h.home j h' hg).mono U (fun au=>hw.block _ ((h.home j h' hg).lt au) fun R=>?_) T;exact i (h.inj k j ⟨⟨hm,hk⟩,R.2⟩ ⟨⟨h',hg⟩,au⟩ R.1.symm)) (fun j j' a c e=>by
  by_cases C:j=k
  ·by_cases R:j'=k
   ·rw[C,R]
   ·simp only[C,R,if_true,if_false] at e;exact absurd e.symm (ay (by simpa[C] using a.2) j' R (I j' R c))
  ·by_cases R:j'=k
   ·simp only[C,R,if_true,if_false] at e;exact absurd e (ay (by simpa[R] using c.2) j C (I j C a))
   ·simp only[C,R,if_false] at e;exact h.inj j j' (I j C a) (I j' R c) e) (fun j a=>by
  by_cases C:j=k
  ·have ab:0<cap:=by simpa[C] using a.2
   simp only[C,if_true];rcases p ab with p|p
   ·rw[p.1];exact h.nF k ⟨⟨hm,hk⟩,p.2⟩
   ·intro hf;have:=h.fb b hf;omega
  ·simp only[C,if_false];exact h.nF j (I j C a)) ok
 refine FX.mk' (w:=w) a4 h.same (hw.mono fun c _ e=>?_) (fun j J=>?_) h.fio av
 ·rw[e.1];exact h.hio k ⟨⟨hm,hk⟩,e.2⟩
 ·by_cases C:j=k
  ·have ab:0<cap:=by simpa[C] using J.2
   simp only[C,if_true];rcases p ab with p|p
   ·rw[p.1];exact h.hio k ⟨⟨hm,hk⟩,p.2⟩
   ·exact .inl (hN h.same.size p)
  ·simp only[C,if_false];exact h.hio j (I j C J)
theorem FX.reown(h:FX F Iow w0 g0 o0 g w tmps vm ss s){k:Nat}{hm h2:Hm}{b cap:Nat}(C:AK k s.ob=bI hm)(J:AG (fun c=>c=g.β k∧0<g.cap k) w w')
  (T:0<cap->(b=g.β k∧0<g.cap k)∨w.heap.size<=b) (i:∀ S':Nat->Prop,(∀ c,S' c->AS F g s.ob c∨c=b)->IK S' w' b cap h2.sz h2.els) (I:h2.sz=hm.sz) (R:hm.els.length<=h2.els.length) (p:h2.els.length=hm.els.length->b=g.β k∧cap=g.cap k) (ok:Bool) :
  FX F Iow w0 g0 o0 ⟨fun j=>if j=k then b else g.β j,fun j=>if j=k then cap else g.cap j⟩ w' tmps vm ss { vs:=s.vs.map (AV.kill k),st:=s.st.map (AV.kill k),ob:=DA k h2 s.ob,ok:=ok } :=
 h.reown' C J T i (h.par.set C I R p) ok
theorem Ym{u:c'}(h:Vv P u=b7):(∃ e,P.underlying u=bI (.slice e))∨P.underlying u=bI .string:=by
 unfold Vv at h;split at h
 ·rename_i e i;exact .inl ⟨e,i⟩
 ·rename_i i;exact .inr i
 ·cases h
theorem Mx{t u e ty:c'}{sz n cap m:Nat}{base:Option Addr}{x:Value}{news:Array Value}(I:P.underlying t=bI (.slice e))(T:Vv P u=b7)(i:VW P e=bI sz)
  (J:(hX x).run P w = .ok m w) (R:(e9 sz m x).run P w = .ok news w) (j:n+m<=cap) (p:∀ a,base=bI a->(k8 (a.add (n*sz)) news.toList).run P w = .ok () w') (C:base=b'->w'=w) :
  (e6 #[t,u] ty #[.slice base n cap,x]).run P w = .ok (.slice base (n+m) cap) w':=by
 rcases Ym T with⟨d,hd⟩|hd
 ·cases base with
  | none=>have:=C rfl;subst this;simp[e6,b8 I,b8 hd,FW i,J,R,j]
  | some a=>have:=p a rfl;simp[e6,b8 I,b8 hd,FW i,J,R,j,this]
 ·cases base with
  | none=>have:=C rfl;subst this;simp[e6,b8 I,b8 hd,FW i,J,R,j]
  | some a=>have:=p a rfl;simp[e6,b8 I,b8 hd,FW i,J,R,j,this]
theorem Tz{t u e ty:c'}{sz bytes n cap m:Nat}{base:Option Addr}{x U:Value}{olds news:Array Value}(ht:P.underlying t=bI (.slice e))(hu:Vv P u=b7)(C:VW P e=bI sz)
  (T:byT P e=bI bytes) (p:zZ P e=bI U) (au:1<=bytes)
  (hn:(hX x).run P w = .ok m w) (hc:(e9 sz m x).run P w.drew = .ok news w.drew) (ho:(e9 sz n (.slice base n cap)).run P w.drew = .ok olds w.drew)
  (hg:cap<n+m) (j:(n+m)*bytes<=140737488355328) :
  (e6 #[t,u] ty #[.slice base n cap,x]).run P w =
   .ok (.slice (bI ⟨w.heap.size,0,b'⟩) (n+m) (hD w (n+m) cap e)) (w.drew.alloc (.cells (olds++news++ik U.cells (hD w (n+m) cap e-(n+m))) e)):=by
 obtain⟨i,hi,R⟩:=lx T;have I:¬ (n+m<=cap):=by omega
 have h0:i.bytes≠0:=by omega
 have J:¬ (281474976710656<Builtin.nextslicecap (n+m) cap*i.bytes):=by have:=growslice_fits hg j;rw[R];omega
 rcases Ym hu with⟨d,hd⟩|hd
 ·simp[e6,b8 ht,b8 hd,FW C,hn,hc,ho,I,Tx hi,h0,J,Question.forced,Rh p,j9,hD]
 ·simp[e6,b8 ht,b8 hd,FW C,hn,hc,ho,I,Tx hi,h0,J,Question.forced,Rh p,j9,hD]
theorem PT{a b:Array Value}{x:Nat}:(a++b).getD x cA=if x<a.size then a.getD x cA else b.getD (x-a.size) cA:=by
 simp only[agD,Array.getElem?_append];split<;>rfl
theorem JA{l r:List AV}{i:Nat}:(l++r).getD i .any=if i<l.length then l.getD i .any else r.getD (i-l.length) .any:=by
 simp only[gdE,List.getElem?_append];split<;>rfl
theorem Ut.both{S:Nat->Prop}{sz:Nat}{u v:Value}{xs p:List AV}{olds news:Array Value}(C:Ut S w P sz u xs olds)(R:Ut S w P sz v p news){rest:Array Value}:
  (∀ i,i<(xs++p).length->((xs++p).getD i .any).cells.length=sz∧((xs++p).getD i .any).atoms=b7) ∧
  ∀ i j,i<(xs++p).length->j<sz->VR S w ((olds++news++rest).getD (i*sz+j) cA) (((xs++p).getD i .any).cells.getD j .any):=by
 refine⟨fun i hi=>?_,fun i j hi I=>?_⟩
 ·rw[JA];rw[gw] at hi;split
  ·exact C.e i (by omega)
  ·exact R.e _ (by omega)
 ·rw[gw] at hi
  have T:i*sz+j<(olds++news).size:=by
   rw[iI,C.l,R.l,← d'];exact RK hi I
  rw[PT,if_pos T,PT,C.l,JA]
  by_cases J:i<xs.length
  ·rw[if_pos (RK J I),if_pos J];exact C.r i j J I
  ·have U:xs.length*sz<=i*sz:=bX _ (by omega);rw[if_neg (by omega),if_neg J];have:=R.r (i-xs.length) j (by omega) I
   rwa [me,show i*sz-xs.length*sz+j=i*sz+j-xs.length*sz by omega] at this
theorem wE{S:Nat->Prop}{sz:Nat}{v:Value}{C:List AV}{news:Array Value}(p:1<=sz)(i:Ut S w P sz v C news):∀ u,u∈news.toList->u.oneCell'=b7:=by
 intro u T;obtain⟨x,I,rfl⟩:=hY T;have j:x<C.length*sz:=by rw[← i.l];simpa using I
 obtain⟨R,h2,h3⟩:=fP p j;have U:=i.r (x/sz) (x%sz) R h2;have J:=i.e (x/sz) R;have:=U.oneCell (Ht J.2 (by rw[J.1];exact h2));rw[← h3,← Ei,gdE,geE I] at this;exact this
theorem eO{S:Nat->Prop}{sz n cap:Nat}{u v I:Value}{xs p:List AV}{olds news:Array Value}{e:c'}(R:1<=sz)(J:I.cells.size=sz)(U:Ut S w.drew P sz u xs olds)(T:Ut S w.drew P sz v p news)
  (C:xs.length+p.length<=cap) {S':Nat->Prop} (hS:∀ c,S' c->S c∨c=w.heap.size) :
  IK S' (w.drew.alloc (.cells (olds++news++ik I.cells (cap-(xs.length+p.length))) e)) w.heap.size cap sz (xs++p):=by
 obtain⟨h1,h2⟩:=U.both T (rest:=ik I.cells (cap-(xs.length+p.length)));refine⟨R,by simpa using C,h1,fun _=>⟨_,e,(0,0),hC w.drew _,.inl rfl,?_,fun i j hi hj=>?_⟩⟩
 ·rw[iI,iI,size_zeroCells,U.l,T.l,J,← d',← d']
  congr 1;omega
 ·refine (h2 i j hi hj).mono (AG.alloc _ _ _) fun b hb hc=>?_
  rcases hS b hc with e|e
  ·exact e
  ·exact absurd hb (by rw[e];exact h9 _)
theorem yo{sz bytes:Nat}{z:AV}{a x:Src}{op:Op}(j:ABg P vm ss sz bytes z a x op=b7):
  ∃ t u p q e I ty args i,op = .call { callee:=.builtin .append,args:=args,argTypes:=i }∧args = #[p,q]∧i = #[t,u]∧BU vm ss p a=b7∧BU vm ss q x=b7∧Vv P u=b7∧1<=sz ∧
   P.underlying t=bI (.slice e)∧VW P e=bI sz∧byT P e=bI bytes∧zZ P e=bI I∧I.cells.size=sz∧1<=bytes∧ty=(0:c'):=by
 unfold ABg at j;split at j
 ·rename_i args i;split at j
  ·rename_i p q t u U h2;simp only[baT,dtE] at j;obtain⟨c1,c2,c3,c4,J⟩:=j;split at J
   ·rename_i e R;simp only[baT,beq_iff_eq] at J;obtain⟨c6,c7,C⟩:=J;split at C
    ·rename_i I T;simp only[baT,beq_iff_eq,dtE] at C;exact⟨t,u,p,q,e,I,0,args,i,rfl,by rw[← kb (xs:=args),U],by rw[← kb (xs:=i),h2],c1,c2,c3,c4,OR R,c6,c7,T,C.1,C.2,rfl⟩
    ·cases C
   ·cases J
  ·cases j
 ·cases j
theorem FX.app(h:FX F Iow w0 g0 o0 g w tmps vm ss s)(cs:QM vm){D:Ji}(hd:Ew vm ss o.dst D=bI ss')(b0:∀ d,o.dst=bI d->d<tmps.size){sz bytes:Nat}{z:AV}{a x:Src}(hc:ABg P vm ss sz bytes z a x o.op=b7)
  (au:(TX s key D sz bytes (Cv sz s.ob (rd s x)) (rd s a)).ok=b7) :
  ∃ v w' g',(bN ({ tmps:=tmps,defers:=ds }:gg).eval o).run P w = .ok (.value v) w'∧FX F Iow w0 g0 o0 g' w' (It tmps o.dst v) vm ss' (TX s key D sz bytes (Cv sz s.ob (rd s x)) (rd s a)):=by
 obtain⟨t,u,p,q,e,zv,ty,args,ej,he,rfl,rfl,cl,cf,hu,C,ht,a3,c6,cc,cb,c7,-⟩:=yo hc;have b3:=h.toFR.src (ds:=ds) cl;have b2:=h.toFR.src (ds:=ds) cf
 have av:∀ r w',(e6 #[t,u] o.type #[({ tmps:=tmps,defers:=ds }:gg).eval p,({ tmps:=tmps,defers:=ds }:gg).eval q]).run P w = .ok r w'->(bN ({ tmps:=tmps,defers:=ds }:gg).eval o).run P w = .ok (.value r) w':=by
  intro r w' hr;unfold bN;simp only[he,j3,k9,j4,e7,gv,cS,List.map_toArray,e',List.map_nil,hr]
 have b6:AG (fun _=>False) w w.drew:=AG.drew _ _;have a4:=h.toFR.grow b6;have a6:=a4.src (ds:=ds) cl;have a5:=a4.src (ds:=ds) cf;revert au;generalize rd s x=ax at b2 a5;generalize rd s a=aa at b3 a6;intro au;cases aa<;>simp only[TX,fail] at au<;>try (cases au;done)
 case nilsl=>
  have I:=Sq b3
  have hk:(Dr s key D ⟨((Cv sz s.ob ax).sz==sz)&&((Cv sz s.ob ax).ok&&DH (Cv sz s.ob ax).els.length bytes),.own (Bh key),[(Bh key,⟨sz,(Cv sz s.ob ax).els⟩)]⟩).ok=b7->((Cv sz s.ob ax).sz=sz∧(Cv sz s.ob ax).ok=b7∧(Cv sz s.ob ax).els.length*bytes<=140737488355328):=by
   intro h0;cases D<;>simpa[Dr,UG,BE,DH] using (by simpa[Dr,UG,BE,DH] using h0:_∧_).2
  obtain⟨U,ab,be⟩:=hk au;obtain⟨news,J⟩:=NM (P:=P) h.toFR C b2 ab U;obtain⟨ad,a1⟩:=NM (P:=P) a4 C a5 ab U;obtain⟨ac,ae⟩:=NM (P:=P) a4 C (a:=.nilsl) (sz:=sz) a6 rfl rfl;refine FX.still h cs hd b0 ?_;simp only[Cv] at ae;have a2:=ae.c;rw[I] at a2;simp only[hO] at a2;rcases iB (Cv sz s.ob ax).els.length with h0|h0
  ·have dw:(Cv sz s.ob ax).els=[]:=dX.1 h0;rw[dw] at J ⊢;have hr:=Mx (P:=P) (w:=w) (w':=w) (ty:=o.type) (base:=none) (n:=0) (cap:=0) ht hu a3 J.n J.c (by simp) (fun a e=>by cases e) (fun _=>rfl);refine⟨.slice b' 0 0,w,av _ _ (by rw[I];exact hr),AG.refl _ _,.inr ⟨Bh key,⟨sz,[]⟩,w.heap.size,0,rfl,by simp[Bh],df _,fun S' hS=>?_,.inl ⟨rfl,.inr ⟨rfl,rfl⟩⟩⟩⟩;exact⟨C,df _,fun i hi=>by simp at hi,fun hp=>absurd hp (h9 _)⟩
  ·have hg:=Tz (P:=P) (w:=w) (ty:=o.type) (base:=none) (n:=0) (cap:=0) (olds:=ac) (news:=ad) ht hu a3 c6 cc c7 J.n a1.c a2 (by omega) (by rw[cI];exact be);refine⟨_,_,av _ _ (by rw[I];exact hg),(AG.drew _ _).trans (AG.alloc _ _ _),.inr ⟨Bh key,⟨sz,(Cv sz s.ob ax).els⟩,w.heap.size,hD w (0+(Cv sz s.ob ax).els.length) 0 e,rfl,by simp[Bh],df _,fun S' hS=>?_,.inl ⟨rfl,.inl (by rw[cI])⟩⟩⟩;have:=eO (w:=w) (P:=P) (e:=e) (n:=0) C cb ae a1 (cap:=hD w (0+(Cv sz s.ob ax).els.length) 0 e) (by simpa using grownCap_ge w (0+(Cv sz s.ob ax).els.length) 0 e) hS;simpa using this
 case own k=>
  obtain⟨hm,ho,I⟩:=b3;simp only[TX,ho,WX] at au ⊢
  have hk:hm.sz=sz∧(Cv sz s.ob ax).sz=sz∧(Cv sz s.ob ax).ok=b7∧(hm.els.length+(Cv sz s.ob ax).els.length)*bytes<=140737488355328:=by
   cases D<;>simpa[BE,DH] using (by simpa[BE,DH] using au:_∧_).2
  obtain⟨ay,U,ab,be⟩:=hk;obtain⟨news,J⟩:=NM (P:=P) h.toFR C b2 ab U;obtain⟨ad,a1⟩:=NM (P:=P) a4 C a5 ab U;have b5:(Cv sz s.ob (.own k))=⟨b7,hm.sz,hm.els⟩:=by simp[Cv,ho,dK]
  obtain⟨ac,ae⟩:=NM (P:=P) a4 C (a:=.own k) (sz:=sz) a6 (by rw[b5]) (by rw[b5];exact ay);rw[b5] at ae;have hh:=h.home k hm ho;generalize el:(Cv sz s.ob ax).els=ys at J a1 be ⊢
  have bs:∀ (b cap:Nat) (v:Value) (w':bS),(ys.length=0->b=g.β k∧cap=g.cap k)->(e6 #[t,u] o.type #[({ tmps:=tmps,defers:=ds }:gg).eval p,({ tmps:=tmps,defers:=ds }:gg).eval q]).run P w = .ok v w' ->
    AG (fun c=>c=g.β k∧0<g.cap k) w w'->(0<cap->(b=g.β k∧0<g.cap k)∨w.heap.size<=b)->(∀ S':Nat->Prop,(∀ c,S' c->AS F g s.ob c∨c=b)->IK S' w' b cap sz (hm.els++ys)) ->
    (v = .slice (bI ⟨b,0,b'⟩) (hm.els.length+ys.length) cap∨(cap=0∧v = .slice b' 0 0)) ->
    ∃ v w' g',(bN ({ tmps:=tmps,defers:=ds }:gg).eval o).run P w = .ok (.value v) w'∧FX F Iow w0 g0 o0 g' w' (It tmps o.dst v) vm ss' (BE { s with vs:=s.vs.map (AV.kill k),st:=s.st.map (AV.kill k),ob:=DA k ⟨sz,hm.els++ys⟩ s.ob }
     ((hm.sz==sz)&&(((Cv sz s.ob ax).sz==sz)&&((Cv sz s.ob ax).ok&&cL ((hm.els.length+ys.length)*bytes<=140737488355328)))) (.own k) D):=by
   intro b cap v w' ea hr d0 hb cn hv;have h1:=h.reown (h2:=⟨sz,hm.els++ys⟩) (b:=b) (cap:=cap) ho d0 hb cn ay.symm (by simp) (fun e=>ea (by simp at e;simp[e])) s.ok;refine⟨v,w',⟨fun j=>if j=k then b else g.β j,fun j=>if j=k then cap else g.cap j⟩,av _ _ hr,?_⟩;have h2:=h1.toFR.put cs hd b0 ((hm.sz==sz)&&(((Cv sz s.ob ax).sz==sz)&&((Cv sz s.ob ax).ok&&cL ((hm.els.length+ys.length)*bytes<=140737488355328)))) (v:=v) (a:=.own k) (fun _=>⟨⟨sz,hm.els++ys⟩,by simp[BN],by simpa using hv⟩);refine⟨h2,h1.same,fun j hj=>h1.hio j ?_,h1.fio,?_⟩
   ·revert hj;cases D<;>exact id
   ·have:=h1.par;revert this;cases D<;>exact id
  by_cases ao:hm.els.length+ys.length<=g.cap k
  ·rcases iB (g.cap k) with hz|hz
   ·have bo:hm.els=[]:=h.nil_els ho hz;have dz:ys=[]:=dX.1 (by omega);subst dz;have d4:news = #[]:=iR (by simpa using J.l);subst d4;have hH:∀ S':Nat->Prop,IK S' w (g.β k) 0 sz (hm.els++[]):=fun S'=>⟨C,by simp[bo],fun i hi=>by simp[bo] at hi,fun hp=>absurd hp (h9 _)⟩
    rcases I with I|⟨_,I⟩
    ·have hr:=Mx (P:=P) (w:=w) (w':=w) (ty:=o.type) (base:=some ⟨g.β k,0,b'⟩) (n:=0) (cap:=0) ht hu a3 J.n J.c (by simp) (fun a e=>by simp[k8]) (fun e=>by cases e);exact bs (g.β k) 0 _ w (fun _=>⟨rfl,hz.symm⟩) (by rw[I,bo,hz];exact hr) (AG.refl _ _) (fun hp=>absurd hp (h9 _)) (fun S' _=>hH S') (.inl (by simp[bo]))
    ·have hr:=Mx (P:=P) (w:=w) (w':=w) (ty:=o.type) (base:=none) (n:=0) (cap:=0) ht hu a3 J.n J.c (by simp) (fun a e=>by cases e) (fun _=>rfl);exact bs (g.β k) 0 _ w (fun _=>⟨rfl,hz.symm⟩) (by rw[I];exact hr) (AG.refl _ _) (fun hp=>absurd hp (h9 _)) (fun S' _=>hH S') (.inr ⟨rfl,by simp⟩)
   ·rcases I with I|⟨ek,_⟩
    rotate_left
    ·omega
    obtain⟨arr,T,fz,hr,hf,aj,cd⟩:=hh.row hz;rw[ay] at hf aj cd
    have dc:hm.els.length*sz+ys.length*sz<=arr.size:=by
     rw[aj,← d'];exact bX _ ao
    obtain⟨w',db,cm,a7,ec,b1,ct⟩:=OT (P:=P) (g.β k) T fz news.toList (hm.els.length*sz) 0 arr w hr (hf.imp_right And.right) (by simp only[ff,J.l];omega) (wE C J);have d1:=Mx (P:=P) (w:=w) (w':=w') (ty:=o.type) (base:=some ⟨g.β k,0,b'⟩) (n:=hm.els.length) (cap:=g.cap k) ht hu a3 J.n J.c ao (fun a e=>by cases e;rw[Hb,cI];exact cm) (fun e=>by cases e);refine bs (g.β k) (g.cap k) _ w' (fun _=>⟨rfl,rfl⟩) (by rw[I];exact d1) (a7.mono fun c _ e=>⟨e,hz⟩) (fun _=>.inl ⟨rfl,hz⟩) (fun S' hS=>?_) (.inl rfl)
    have c8:∀ c,S' c->AS F g s.ob c:=fun c hc=>by
     rcases hS c hc with e|e
     ·exact e
     ·exact .inr ⟨k,⟨⟨hm,ho⟩,hz⟩,e.symm⟩
    have a9:AG (AS F g s.ob) w w':=a7.mono fun c _ e=>.inr ⟨k,⟨⟨hm,ho⟩,hz⟩,e.symm⟩
    refine⟨C,by simpa using ao,fun i hi=>?_,fun _=>⟨db,T,fz,ec,by rw[b1];exact hf,by rw[b1,aj],fun i j hi hj=>?_⟩⟩
    ·rw[JA];rw[gw] at hi;split
     ·rename_i hc;rw[← ay];exact hh.cells i hc
     ·exact J.e _ (by omega)
    ·rw[gw] at hi;rw[ct,JA];simp only[fu,ff,J.l]
     by_cases hc:i<hm.els.length
     ·rw[if_neg (by have:=RK hc hj;omega),if_pos hc];exact (cd i j hc hj).mono a9 fun b _ c=>c8 b c
     ·have c5:hm.els.length*sz<=i*sz:=bX _ (by omega);have d5:i*sz+j<(hm.els.length+ys.length)*sz:=RK hi hj;rw[d'] at d5;rw[if_pos (by omega),if_neg hc,Ei];have:=J.r (i-hm.els.length) j (by omega) hj;rw[me,show i*sz-hm.els.length*sz+j=i*sz+j-hm.els.length*sz by omega] at this;exact this.mono a9 fun b _ c=>c8 b c
  ·have R:∃ base,({ tmps:=tmps,defers:=ds }:gg).eval p = .slice base hm.els.length (g.cap k):=by
    rcases I with I|⟨hz,I⟩
    ·exact⟨_,I⟩
    ·exact⟨b',by rw[I,hz,h.nil_els ho hz];rfl⟩
   obtain⟨base,R⟩:=R;have a2:=ae.c;rw[R] at a2;have hg:=Tz (P:=P) (w:=w) (ty:=o.type) (base:=base) (n:=hm.els.length) (cap:=g.cap k) (olds:=ac) (news:=ad) ht hu a3 c6 cc c7 J.n a1.c a2 (by omega) be;have c5:=grownCap_ge w (hm.els.length+ys.length) (g.cap k) e;refine bs w.heap.size (hD w (hm.els.length+ys.length) (g.cap k) e) _ _ (fun e0=>absurd hh.len (by omega)) (by rw[R];exact hg) ?_ (fun _=>.inr (df _)) (fun S' hS=>eO (w:=w) (P:=P) (e:=e) (n:=0) C cb ae a1 c5 hS) (.inl rfl);exact AG.mono (S:=fun _=>False) ((AG.drew _ _).trans (AG.alloc _ _ _)) fun _ _ c=>c.elim
def oQ(P:bR)(vm ss:List Nat)(sz:Nat)(x hi:Src):Op->Bool
 | .slice t y b' (bI h) b'=>BU vm ss y x&&(BU vm ss h hi&&(match pQ P t with
  | some e=>VW P e==bI sz && !(sz==0)
  | none=>b9))
 | _=>b9
theorem PL{els:List AV}{n i:Nat}(hi:i<n):(els.take n).getD i .any=els.getD i .any:=by
 rw[gdE,gdE,h4,if_pos hi]
theorem vt{s:St}{c:Bool}{a:AV}{D:Ji}(h:(BE s c a D).ok=b7):c=b7:=by
 have:s.ok=b7∧c=b7:=by cases D<;>simpa[BE] using h
 exact this.2
theorem FX.trunc(h:FX F Iow w0 g0 o0 g w tmps vm ss s)(a4:QM vm){D:Ji}(hd:Ew vm ss o.dst D=bI ss')(ad:∀ d,o.dst=bI d->d<tmps.size){sz:Nat}{x hi:Src}(hc:oQ P vm ss sz x hi o.op=b7)
  (p:(LI s D sz (bz (rd s hi)) (rd s x)).ok=b7) :
  ∃ v w' g',(bN ({ tmps:=tmps,defers:=ds }:gg).eval o).run P w = .ok (.value v) w'∧FX F Iow w0 g0 o0 g' w' (It tmps o.dst v) vm ss' (LI s D sz (bz (rd s hi)) (rd s x)):=by
 unfold oQ at hc;split at hc
 ·rename_i t y hh he;simp only[baT] at hc;obtain⟨hs,a7,J⟩:=hc;split at J
  ·rename_i e a2;simp only[baT,beq_iff_eq] at J;have ab:=J.1;have hu:=OR a2;have hv:=h.toFR.src (ds:=ds) hs;revert p;generalize hn:bz (rd s hi)=n;generalize rd s x=a at hv;intro p;cases a<;>simp only[LI,fail] at p<;>try (cases p;done)
   rename_i k;obtain⟨hm,ho,I⟩:=hv;simp only[LI,ho,VZ] at p ⊢
   have hk:hm.sz=sz∧k%32≠31∧0<=n∧n<=(hm.els.length:Int):=by
    have:=vt p;simp only[If,baT,beq_iff_eq,dtE,h8,beq_eq_false_iff_ne] at this;exact⟨this.1,this.2.1,this.2.2.2.1,this.2.2.2.2⟩
   obtain⟨bv,ac,h0,hb⟩:=hk;have hH:=h.home k hm ho
   have a8:∃ kk,({ tmps:=tmps,defers:=ds }:gg).eval hh = .int kk n:=by
    have:=YL (h.toFR.src (ds:=ds) a7) (by rw[hn];exact h0)
    rwa [hn] at this
   have b0:=hH.len;have C:=QI P w (isS:=true) (len:=hm.els.length) (cap:=g.cap k) (lo:=none) (hi:=some (({ tmps:=tmps,defers:=ds }:gg).eval hh)) (a:=0) (b:=n) rfl a8 (Int.le_refl 0) h0 (by omega)
   have aj:∀ S':Nat->Prop,(∀ c,S' c->AS F g s.ob c∨c=g.β k)->IK S' w (g.β k) (g.cap k) hm.sz (hm.els.take n.toNat):=by
    intro S' hS;refine⟨hH.pos,by rw[hJ];omega,fun i aa=>?_,fun hp=>?_⟩
    ·rw[hJ] at aa;rw[PL (by omega)];exact hH.cells i (by omega)
    ·obtain⟨arr,T,fz,hr,hf,U,a1⟩:=hH.row hp;refine⟨arr,T,fz,hr,hf,U,fun i j aa hj=>?_⟩;rw[hJ] at aa;rw[PL (by omega)];refine (a1 i j (by omega) hj).mono (AG.refl _ _) fun b _ a9=>?_
     rcases hS b a9 with e1|e1
     ·exact e1
     ·exact .inr ⟨k,⟨⟨hm,ho⟩,hp⟩,e1.symm⟩
   have h1:=h.reown' (h2:=⟨hm.sz,hm.els.take n.toNat⟩) (b:=g.β k) (cap:=g.cap k) ho (AG.refl _ w) (fun hp=>.inl ⟨rfl,hp⟩) aj (h.par.new (b:=g.β k) (cap:=g.cap k) ac) s.ok
   have R:∀ v,(bN ({ tmps:=tmps,defers:=ds }:gg).eval o).run P w = .ok (.value v) w->(v = .slice (bI ⟨g.β k,0,b'⟩) n.toNat (g.cap k)∨(g.cap k=0∧v = .slice b' 0 0)) ->
     ∃ v w' g',(bN ({ tmps:=tmps,defers:=ds }:gg).eval o).run P w = .ok (.value v) w'∧FX F Iow w0 g0 o0 g' w' (It tmps o.dst v) vm ss' (BE { s with vs:=s.vs.map (AV.kill k),st:=s.st.map (AV.kill k),ob:=DA k ⟨hm.sz,hm.els.take n.toNat⟩ s.ob }
      ((hm.sz==sz)&&((!(k%32==31))&&If 0 n hm.els.length)) (.own k) D):=by
    intro v hr hv;refine⟨v,w,⟨fun j=>if j=k then g.β k else g.β j,fun j=>if j=k then g.cap k else g.cap j⟩,hr,?_⟩
    have h2:=h1.toFR.put a4 hd ad ((hm.sz==sz)&&((!(k%32==31))&&If 0 n hm.els.length)) (v:=v) (a:=.own k) (fun _=>⟨⟨hm.sz,hm.els.take n.toNat⟩,by simp[BN],by
     have e:(hm.els.take n.toNat).length=n.toNat:=by rw[hJ];omega
     simpa[e] using hv⟩)
    refine⟨h2,h1.same,fun j hj=>h1.hio j ?_,h1.fio,?_⟩
    ·revert hj;cases D<;>exact id
    ·have:=h1.par;revert this;cases D<;>exact id
   rcases I with I|⟨hz,I⟩
   ·refine R (.slice (bI ⟨g.β k,0,b'⟩) n.toNat (g.cap k)) ?_ (.inl rfl);simp[bN,he,h7,hR,b8 hu,I,C,FW ab,Hb]
   ·have a0:hm.els.length=0:=by omega
    have a5:n=0:=by omega
    refine R (.slice b' 0 0) ?_ (.inr ⟨hz,rfl⟩);rw[a0,hz,a5] at C;simp[bN,he,h7,hR,b8 hu,I,C,FW ab]
  ·cases J
 ·cases hc
end
