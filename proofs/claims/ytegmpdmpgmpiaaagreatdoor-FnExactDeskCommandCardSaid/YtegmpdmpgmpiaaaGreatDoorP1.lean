/- Lemmas. No condition. -/
import Derived.WalkKit
open Array renaming getElem?_eq_getElem->et,length_toList->fx,size_setIfInBounds->ga,getElem?_eq_none->gk,size_append->j2,eq_empty_of_size_eq_zero->j4,toArray_toList->kA,range->kB,getElem_range->kI,getElem_map->l4,toList_map->lb
open BitVec renaming ofInt->fB
open Bool renaming true->bI,false->bR,or_eq_true->gv,not_eq_true'->hI
open Decidable renaming decide->cS
open Go renaming run_underlying->bN,execOp->bX,Program->b',World->cb,undef->cB,TypeId->dx,IntKind->fI,Operand->gn,Act->gr,heap_alloc_new->hK,grownCap->hL,Deferred->hZ,BinOp->ir,run_loadCells->j7,loadCellsFrom->j8,resolve->jm,builtin->jn,part->k6,newRow->k7,eqGuard->k9,asIntOf->kb,storeCells->kf,invoke->kn,loadCells->l2,typeInfo->me,bytesRow->ml,loadVar->n7,Field->n9,run_eqGuard_agg->nn
open Go.Builtin renaming append_->e9,firstCells->eu,len_->hN,lenOf->iI,zeroCells->iZ,min2->mn,max2->mu
open Go.Conv renaming bytesToString->fy
open Go.Instr renaming sliceBounds->gf,sliceAt->hG,sureAddr->hX,slice->hY,fill->iS,makeSlice->j9,sliceBound->l8,indexAt->n0,fieldAt->n5,field->n8
open Go.Op renaming stringOp->gu,bytesLess->hC,intCmp->iR,intArith->k3,intBits->k8,eqFields->l3,equalIn->ln
open Go.Result renaming andThen_ok->c'
open Go.Sem renaming run_bind->ed,run_pure->h7
open Go.World renaming block_lt_of_cell?->hM,cell?->kp
open List renaming length_eq_zero_iff->d',replicate->e8,all_eq_true->ew,getD_cons_zero->eL,getElem_mem->e',getElem?_eq_none->fa,getElem?_map->fm,map_cons->fp,getD_cons_succ->h4,length_append->h8,getElem?_take->h9,length_take->hO,getElem?_replicate->hP,getElem?_set_self->hR,length_nil->hV,getElem?_set_ne->iB,getElem_of_mem->iN,getElem?_drop->j0,length_cons->j6,range->k5,flatMap_append->l1,getElem?_set->l7,zipIdx_cons->lg,mem_append->lv,length_map->lz,foldl_cons->lJ,all_append->l',all_cons->n6
open Nat renaming mul_le_mul_right->cd,zero_add->cI,le_refl->dU,add_mul->e7,add_assoc->fu,add_zero->fA,mul_comm->h5,lt_or_ge->h6,lt_of_lt_of_le->hD,lt_irrefl->hJ,mod_eq_of_lt->hQ,le_trans->hT,mul_add_mod->hW,eq_zero_or_pos->j1,zero_mul->kc,sub_self->ke,mul_one->kR,lt_or_gt_of_ne->l5,div_eq_of_lt->lu,mul_add_div->m',add_comm->nc,sub_mul->nm
open Ne renaming symm->gb
open Option renaming some->bS,none->cA,getD_some->j3,map_some->j5,isSome_iff_exists->k4
open Option.some renaming injEq->ev
set_option linter.defProp false
set_option linter.unusedSimpArgs false
set_option linter.unusedVariables false
open Go.IntKind (i64 u64)
noncomputable section
namespace Go.Proofs.YtegmpdmpgmpiaaaGreatDoor
abbrev L8:=List UInt8
open Go
theorem F'{α:Type}{o:Option α}{x y:α}(h:o=.some x)(k:x=y:=by kernel_rfl):o=.some y:=h.trans (congrArg _ k)
theorem n'{P:Prop}(h:P:=by omega):P:=h
theorem o'{P:Prop}(h:P:=by kernel_rfl):P:=h
theorem p'{P:Prop}(h:P:=by simp):P:=h
theorem t'{P:Prop}(h:P:=by simp;omega):P:=h
theorem x'{P:Prop}(h:P:=by decide):P:=h
theorem z'{P:Prop}(h:P:=by decide +kernel):P:=h
theorem A'{P:Prop}(h:P:=by simp only;omega):P:=h
abbrev C':Nat->Prop:=fun _=>False
abbrev D'(a:Array Value)(b:List hZ):gr:={tmps:=a,defers:=b}
def gdE:=@List.getD_eq_getElem?_getD
def obS:=@Option.bind_some
def baT:=@Bool.and_eq_true
def geE:=@List.getElem?_eq_getElem
def bfT:=@Bool.false_eq_true
def tnC:=@Int.toNat_natCast
def agD:=@Array.getD_eq_getD_getElem?
def dtE:=@decide_eq_true_eq
def zX{α : Type _}{x : Option α}(h : x.isSome=bI): ∃a, x=bS a := k4.1 h
inductive AV where
  |int (k:fI) (n:Int)
  |bool (b:Bool)
  |str (l:L8)
  |cv (v:Value)
  |agg (cs:List AV)
  |tup (cs:List AV)
  |sl (sz:Nat) (els:List AV)
  |nilsl
  |ptr (sz:Nat) (els:List AV) (i off:Nat)
  |fn (f:Fn) (first caps:List AV)
  |own (k:Nat)
  |ref (k i off:Nat)
  |fresh (sz:Nat) (els:List AV)
  |mem (sz:Nat) (els:List AV) (ix:Nat)
  |opt (b:Bool) (a:AV)
  |any
  deriving Inhabited
def mo:List (Nat×(Array Value->Prop)) :=
 (3,fun cs=>cs=((k5 20).map fun i=>Value.int .u64 ((10^i:Nat):Int)).toArray) ::
 (1,fun cs=>∃j p,cs = #[.iface j p]) ::
 (2,fun cs=>∃j p,cs = #[.iface j p]) ::
  (0,fun cs=>∃m,cs = #[.int .i64 m]) ::
  []
structure Hm where
  sz:Nat
  els:List AV
  deriving Inhabited
abbrev Cx:=List (Nat×Hm)
structure St where
  vs:List AV
  st:List AV
  ob:Cx
  ok:Bool
  deriving Inhabited
inductive Src where
  |v (n:Nat)
  |s (n:Nat)
  |c (a:AV)
  deriving Inhabited
inductive Md where
  |bor|io|mov
  deriving DecidableEq,Inhabited
structure Rs where
  ok:Bool
  r:AV
  outs:List AV
  deriving Inhabited
def Rs.bad:Rs:=⟨bR,.any,[]⟩
structure Ao where
  modes:List Md
  flat:Bool
  F:List AV->Rs
abbrev Le:=Nat->Option Ao
inductive KW where
  |mov (x:Src)
  |newnil (sz:Nat)
  |pick (c a b:Src)
  |alloc (z:AV)
  |box (x:Src)
  |build (z:List AV) (parts:List (Nat×Nat×Src))
  |mkSl (sz:Nat) (z:AV) (n:Nat) (parts:List (Nat×Src))
  |load (agg:Bool) (sz:Nat) (p:Src)
  |store (sz:Nat) (p x:Src)
  |nilck (x:Src)
  |bin (bl:Bool) (op:ir) (x y:Src)
  |eqA (neg:Bool) (ks:List Nat) (x y:Src)
  |un (op:UnOp) (x:Src)
  |conv (k:fI) (x:Src)
  |s2b (x:Src)
  |b2s (x:Src)
  |mkFn (f:Fn) (first caps:List Src)
  |make (sz bytes:Nat) (z:AV) (len cap:Src)
  |slice (sz:Nat) (x:Src) (lo hi:Option Src)
  |fldAddr (off:Nat) (p:Src)
  |fld (agg:Bool) (off sz:Nat) (x:Src)
  |ixAddr (sz:Nat) (x i:Src)
  |ixStr (x i:Src)
  |ext (x:Src) (i:Nat)
  |call (f:Nat) (args:List Src)
  |callp (f:Nat) (args:List Src)
  |callv (f:Src) (args:List Src)
  |len (str:Bool) (x:Src)
  |app (sz bytes:Nat) (z:AV) (s x:Src)
  |minmax (mx:Bool) (xs:List Src)
  |pur (a:KW)
  |callw (f:Nat) (args:List Src)
  |flat (a:KW)
  |trunc (sz:Nat) (x hi:Src)
  |movz (x:Src)
  |safe (ds:List Nat) (a:KW)
  deriving Inhabited
inductive Kc where
  |no|push|var (n:Nat)|slot (n:Nat)
  deriving DecidableEq,Inhabited
structure Ng where
  dst:Kc
  key:Nat
  guard:Option (Src×Bool)
  op:KW
  deriving Inhabited
inductive IR where
  |skip
  |region (draw:Bool) (is:List Ng)
  |test (draw:Bool) (is:List Ng) (c:Src) (a b:IR)
  |anyo (k:Nat) (is:List Ng) (alts:List (List Nat)) (a:IR)
  |seq (a b:IR)
  |cond (c:Src) (a b:IR)
  |block (id:Nat) (a:IR)
  |loop (keep out rt:List Bool) (a:IR)
  |mask (m:List Bool) (a:IR)
  |exit (id:Nat)
  |ret
  deriving Inhabited
inductive Ex where
  |norm|exit (id:Nat)|ret
  deriving DecidableEq,Inhabited
inductive sR where
  |t (n:Nat)
  |cell (agg:Bool) (sz:Nat) (p:Nat)
  deriving Inhabited
structure Bg where
  np:Nat
  nv:Nat
  body:IR
  res:List sR
  deriving Inhabited
def AV.cells:AV->List AV
  |.agg cs=>cs
  |.int k n=>[.int k n]
  |.bool b=>[.bool b]
  |.str l=>[.str l]
  |.cv v=>[.cv v]
  |.tup cs=>[.tup cs]
  |.sl sz els=>[.sl sz els]
  |.nilsl=>[.nilsl]
  |.ptr sz els i off=>[.ptr sz els i off]
  |.fn f a b=>[.fn f a b]
  |.own k=>[.own k]
  |.ref k i off=>[.ref k i off]
  |.fresh sz els=>[.fresh sz els]
  |.mem sz els i=>[.mem sz els i]
  |.opt b a=>[.opt b a]
  |.any=>[.any]
def AV.isAgg:AV->Bool
  |.agg _=>bI
  |_=>bR
def rd(s:St):Src->AV
  |.v n=>s.vs.getD n .any
  |.s n=>s.st.getD n .any
  |.c a=>a
def AK(k:Nat):Cx->Option Hm
  |[]=>cA
  |p::r=>bif p.1==k then bS p.2 else AK k r
def DM(k:Nat)(h:Hm):Cx->Cx
  |[]=>[(k,h)]
  |p::r=>bif p.1==k then(k,h)::r else bif cS (k<p.1)then(k,h)::p::r else p::DM k h r
def MU(k:Nat):Cx->Cx
  |[]=>[]
  |p::r=>bif p.1==k then MU k r else p::MU k r
def AV.key1:AV->List Nat
  |.own k=>[k]
  |.ref k _ _=>[k]
  |.int _ _=>[]
  |.bool _=>[]
  |.str _=>[]
  |.cv _=>[]
  |.agg _=>[]
  |.tup _=>[]
  |.sl _ _=>[]
  |.nilsl=>[]
  |.ptr _ _ _ _=>[]
  |.fn _ _ _=>[]
  |.fresh _ _=>[]
  |.mem _ _ _=>[]
  |.opt _ _=>[]
  |.any=>[]
def AV.keys:AV->List Nat
  |.own k=>[k]
  |.ref k _ _=>[k]
  |.fn _ fi ca=>(fi++ca).flatMap AV.key1
  |.tup cs=>cs.flatMap AV.key1
  |.opt _ a=>a.key1
  |.int _ _=>[]
  |.bool _=>[]
  |.str _=>[]
  |.cv _=>[]
  |.agg _=>[]
  |.sl _ _=>[]
  |.nilsl=>[]
  |.ptr _ _ _ _=>[]
  |.fresh _ _=>[]
  |.mem _ _ _=>[]
  |.any=>[]
def AV.names(k:Nat)(a:AV):Bool:=a.keys.any (· == k)
def AV.kill(k:Nat)(a:AV):AV:=bif a.names k then .any else a
def AV.fz1(k:Nat)(h:Hm):AV->AV
  |.own j=>bif j==k then .sl h.sz h.els else .own j
  |.ref j i off=>bif j==k then .ptr h.sz h.els i off else .ref j i off
  |.int k n=>.int k n
  |.bool b=>.bool b
  |.str l=>.str l
  |.cv v=>.cv v
  |.agg cs=>.agg cs
  |.tup cs=>.tup cs
  |.sl sz els=>.sl sz els
  |.nilsl=>.nilsl
  |.ptr sz els i off=>.ptr sz els i off
  |.fn f a b=>.fn f a b
  |.fresh sz els=>.fresh sz els
  |.mem sz els i=>.mem sz els i
  |.opt b a=>.opt b a
  |.any=>.any
def AV.fz(k:Nat)(h:Hm):AV->AV
  |.own j=>bif j==k then .sl h.sz h.els else .own j
  |.ref j i off=>bif j==k then .ptr h.sz h.els i off else .ref j i off
  |.fn f fi ca=>.fn f (fi.map (AV.fz1 k h)) (ca.map (AV.fz1 k h))
  |.tup cs=>.tup (cs.map (AV.fz1 k h))
  |.opt b a=>.opt b (a.fz1 k h)
  |.int k n=>.int k n
  |.bool b=>.bool b
  |.str l=>.str l
  |.cv v=>.cv v
  |.agg cs=>.agg cs
  |.sl sz els=>.sl sz els
  |.nilsl=>.nilsl
  |.ptr sz els i off=>.ptr sz els i off
  |.fresh sz els=>.fresh sz els
  |.mem sz els i=>.mem sz els i
  |.any=>.any
def freezeH(s:St)(k:Nat):Option Hm->St
  |some h=>{ s with vs:=s.vs.map (AV.fz k h),st:=s.st.map (AV.fz k h),ob:=MU k s.ob }
  |none=>s
def freezeAll(s:St):List Nat->St
  |[]=>s
  |k::r=>freezeAll (freezeH s k (AK k s.ob)) r
def zT:Option Hm->AV
  |some h=>.sl h.sz h.els
  |none=>.any
def nZ(i off:Nat):Option Hm->AV
  |some h=>.ptr h.sz [h.els.getD i .any] 0 off
  |none=>.any
def AV.dv1(ob:Cx):AV->AV
  |.own k=>zT (AK k ob)
  |.ref k i off=>nZ i off (AK k ob)
  |.int k n=>.int k n
  |.bool b=>.bool b
  |.str l=>.str l
  |.cv v=>.cv v
  |.agg cs=>.agg cs
  |.tup cs=>.tup cs
  |.sl sz els=>.sl sz els
  |.nilsl=>.nilsl
  |.ptr sz els i off=>.ptr sz [els.getD i .any] 0 off
  |.fn f a b=>.fn f a b
  |.fresh _ _=>.any
  |.mem _ _ _=>.any
  |.opt _ _=>.any
  |.any=>.any
def AV.dv(ob:Cx):AV->AV
  |.own k=>zT (AK k ob)
  |.ref k i off=>nZ i off (AK k ob)
  |.fn f fi ca=>.fn f (fi.map (AV.dv1 ob)) (ca.map (AV.dv1 ob))
  |.int k n=>.int k n
  |.bool b=>.bool b
  |.str l=>.str l
  |.cv v=>.cv v
  |.agg cs=>.agg cs
  |.tup _=>.any
  |.sl sz els=>.sl sz els
  |.nilsl=>.nilsl
  |.ptr sz els i off=>.ptr sz [els.getD i .any] 0 off
  |.fresh _ _=>.any
  |.mem _ _ _=>.any
  |.opt _ _=>.any
  |.any=>.any
def AV.atom:AV->Bool
  |.int _ _=>bI
  |.bool _=>bI
  |.str _=>bI
  |.nilsl=>bI
  |.sl _ _=>bI
  |.ptr _ _ _ _=>bI
  |.fn _ fi ca=>(fi++ca).all (fun a=>a.key1.isEmpty)
  |.cv _=>bR
  |.agg _=>bR
  |.tup _=>bR
  |.own _=>bR
  |.ref _ _ _=>bR
  |.fresh _ _=>bR
  |.mem _ _ _=>bR
  |.opt _ _=>bR
  |.any=>bR
def AV.simple:AV->Bool
  |.int _ _=>bI
  |.bool _=>bI
  |.str _=>bI
  |.nilsl=>bI
  |.sl _ _=>bI
  |.ptr _ _ _ _=>bI
  |.agg _=>bI
  |.own _=>bI
  |.ref _ _ _=>bI
  |.fn _ _ _=>bR
  |.cv _=>bR
  |.tup _=>bR
  |.fresh _ _=>bR
  |.mem _ _ _=>bR
  |.opt _ _=>bR
  |.any=>bR
def AV.atoms(a:AV):Bool:=a.cells.all AV.atom
structure Mk where
  ok:Bool
  v:AV
  hs:Cx
  deriving Inhabited
def bad:Mk:=⟨bR,.any,[]⟩
def EK(a:AV):Mk:=⟨bI,a,[]⟩
def GW(c:Bool)(a:AV):Mk:=⟨c,a,[]⟩
def part(agg:Bool)(sz off:Nat)(el:AV):Mk :=
  match agg with
  |true=>⟨el.isAgg&&cS (off+sz<=el.cells.length),bif off==0&&sz==el.cells.length then el else .agg ((el.cells.drop off).take sz),[]⟩
  |false=>⟨cS (off<el.cells.length),el.cells.getD off .any,[]⟩
def Eg:List AV->Nat->List AV->List AV
  |cs,_,[]=>cs
  |cs,off,x::r=>Eg (cs.set off x) (off+1) r
def AV.like:AV->List AV->AV
  |.agg _,cs=>.agg cs
  |_,[x]=>x
  |_,_=>.any
def KX:AV->AV
  |.opt _ a=>a
  |.int k n=>.int k n
  |.bool b=>.bool b
  |.str l=>.str l
  |.cv v=>.cv v
  |.agg cs=>.agg cs
  |.tup cs=>.tup cs
  |.sl sz els=>.sl sz els
  |.nilsl=>.nilsl
  |.ptr sz els i off=>.ptr sz els i off
  |.fn f a b=>.fn f a b
  |.own k=>.own k
  |.ref k i off=>.ref k i off
  |.fresh sz els=>.fresh sz els
  |.mem sz els i=>.mem sz els i
  |.any=>.any
def Dc(w:Bool):AV->Bool
  |.opt b _=>!w||b
  |.int _ _=>bI
  |.bool _=>bI
  |.str _=>bI
  |.cv _=>bI
  |.agg _=>bI
  |.tup _=>bI
  |.sl _ _=>bI
  |.nilsl=>bI
  |.ptr _ _ _ _=>bI
  |.fn _ _ _=>bI
  |.own _=>bI
  |.ref _ _ _=>bI
  |.fresh _ _=>bI
  |.mem _ _ _=>bI
  |.any=>bI
def aL(c:Bool):AV->AV->AV
  |.bool p,.bool q=>.bool (bif c then p else q)
  |.int k p,.int j q=>bif k==j then .int k (bif c then p else q)else .any
  |.str p,.str q=>.str (bif c then p else q)
  |x,y=>bif c then x else y
def OZ(w:Bool)(a b:AV):AV->Mk
  |.bool c=>GW (Dc (w&&c) a&&Dc (w && !c) b) (aL c (KX a) (KX b))
  |_=>bad
def nz(y:Int):Bool:=!(y==0)
def TS(y:Int):Bool:=cS (0<=y)
def CM(m n:Nat):Bool:=cS (m+n<=9223372036854775807)
def Dg(n b:Nat):Bool:=cS (n*b<=140737488355328)
def xN(n:Int)(b:Nat):Bool:=cS (0<=n)&&(cS (1<=b)&&cS (n*b<=281474976710656))
def Ox(op:ir)(k:fI)(x y:Int):Mk :=
  match op with
  |.add=>EK (.int k (k.wrap (x+y)))
  |.sub=>EK (.int k (k.wrap (x-y)))
  |.mul=>EK (.int k (k.wrap (x*y)))
  |.quo=>GW (nz y) (.int k (k.wrap (x.tdiv y)))
  |.rem=>GW (nz y) (.int k (x.tmod y))
  |.and=>EK (.int k (k.wrap (fB k.bits x &&& fB k.bits y).toNat))
  |.or=>EK (.int k (k.wrap (fB k.bits x |||fB k.bits y).toNat))
  |.xor=>EK (.int k (k.wrap (fB k.bits x ^^^ fB k.bits y).toNat))
  |.andNot=>EK (.int k (k.wrap (fB k.bits x &&& ~~~fB k.bits y).toNat))
  |.eql=>EK (.bool (x==y))
  |.neq=>EK (.bool (!(x==y)))
  |.lss=>EK (.bool (cS (x<y)))
  |.leq=>EK (.bool (cS (x<=y)))
  |.gtr=>EK (.bool (cS (y<x)))
  |.geq=>EK (.bool (cS (y<=x)))
  |.shl=>bad
  |.shr=>bad
def Wy(op:ir)(x y:L8):Mk :=
  match op with
  |.add=>GW (CM x.length y.length) (.str (x++y))
  |.eql=>EK (.bool (x==y))
  |.neq=>EK (.bool (!(x==y)))
  |.lss=>EK (.bool (hC x y))
  |.leq=>EK (.bool (hC x y||x==y))
  |.gtr=>EK (.bool (!(hC x y||x==y)))
  |.geq=>EK (.bool (!Op.bytesLess x y))
  |_=>bad
def jl(op:ir)(x y:Bool):Mk :=
  match op with
  |.eql=>EK (.bool (x==y))
  |.neq=>EK (.bool (!(x==y)))
  |_=>bad
def shB(op:ir)(k:fI)(x y:Int):Mk :=
  match op with
  |.shl=>GW (TS y) (.int k (k.wrap (x*2^(min y.toNat k.bits))))
  |.shr=>GW (TS y) (.int k (x.fdiv (2^(min y.toNat k.bits))))
  |_=>bad
def AOi:ir->Bool
  |.shl=>bI
  |.shr=>bI
  |_=>bR
def IJ(c:Bool)(m:Mk):Mk:=⟨c&&m.ok,m.v,m.hs⟩
def cD(bl:Bool)(op:ir):AV->AV->Mk
  |.int k x,.int j y=>bif AOi op then shB op k x y else IJ (k==j) (Ox op k x y)
  |.str x,.str y=>Wy op x y
  |.bool x,.bool y=>IJ bl (jl op x y)
  |_,_=>bad
def eq1:AV->AV->Bool
  |.int _ x,.int _ y=>x==y
  |.bool x,.bool y=>x==y
  |.str x,.str y=>x==y
  |_,_=>bR
def jT(n:Nat):AV->AV->Bool
  |.int k _,.int j _=>(n==1)&&(k==j)
  |.bool _,.bool _=>n==0
  |.str _,.str _=>n==2
  |_,_=>bR
def NQ:List AV->List AV->Bool
  |a::r,b::q=>eq1 a b&&NQ r q
  |_,_=>bI
def KN:List Nat->List AV->List AV->Bool
  |n::j,a::r,b::q=>jT n a b&&KN j r q
  |[],[],[]=>bI
  |_,_,_=>bR
def Sf(neg:Bool)(ks:List Nat):AV->AV->Mk
  |.agg a,.agg b=>GW (KN ks a b) (.bool (bif neg then !NQ a b else NQ a b))
  |_,_=>bad
def kz(op:UnOp):AV->Mk
  | .int k n=>match op with
    |.neg=>EK (.int k (k.wrap (0-n)))
    |_=>bad
  | .bool b=>match op with
    |.not=>EK (.bool (!b))
    |_=>bad
  |_=>bad
def Js(c:UInt8):AV:=.int .u8 (c.toNat:Int)
def RN:AV->UInt8
  |.int _ n=>UInt8.ofNat n.toNat
  |_=>0
def LU:AV->Bool
  |.int .u8 _=>bI
  |_=>bR
def fL:AV->Int
  |.int _ n=>n
  |_=>-1
def AS(i:Int)(n:Nat):Bool:=cS (0<=i)&&cS (i<(n:Int))
def ny(agg:Bool)(sz i off:Nat):Option Hm->Mk
  |some h=>part agg sz off (h.els.getD i .any)
  |none=>bad
def PI(ob:Cx)(agg:Bool)(sz:Nat):AV->Mk
  |.ref k i off=>ny agg sz i off (AK k ob)
  |.ptr _ els i off=>part agg sz off (els.getD i .any)
  |_=>bad
def Pc:AV->Mk
  |.ref k i off=>EK (.ref k i off)
  |.ptr sz els i off=>EK (.ptr sz els i off)
  |.fn (.func f) a b=>EK (.fn (.func f) a b)
  |_=>bad
def bd(k:fI):AV->Mk
  |.int _ n=>EK (.int k (k.wrap n))
  |_=>bad
def Bn(d:Nat):Nat:=32*d
def qW(k:Nat):AV->Mk
  |.str l=>⟨bI,.own k,[(k,⟨1,l.map Js⟩)]⟩
  |_=>bad
def my(els:List AV):Mk:=GW (els.all LU) (.str (els.map RN))
def tJ:Option Hm->Mk
  |some h=>my h.els
  |none=>bad
def Yp(ob:Cx):AV->Mk
  |.sl _ els=>my els
  |.nilsl=>EK (.str [])
  |.own k=>tJ (AK k ob)
  |_=>bad
def tg:Option Hm->Mk
  |some h=>EK (.int .i64 (h.els.length:Int))
  |none=>bad
def Yk(ob:Cx)(st:Bool):AV->Mk
  |.str l=>GW st (.int .i64 (l.length:Int))
  |.sl _ els=>GW (!st) (.int .i64 (els.length:Int))
  |.nilsl=>GW (!st) (.int .i64 0)
  |.own k=>IJ (!st) (tg (AK k ob))
  |_=>bad
def LR(d:Int):Option AV->Int
  |some a=>fL a
  |none=>d
def Ja(a b:Int)(n:Nat):Bool:=cS (0<=a)&&(cS (a<=b)&&cS (b<=(n:Int)))
def cut{α:Type}(l:List α)(a b:Int):List α:=(l.take b.toNat).drop a.toNat
def OT(sz0:Nat)(lo hi:Option AV):AV->Mk
  |.str l=>GW ((sz0==0)&&Ja (LR 0 lo) (LR l.length hi) l.length) (.str (cut l (LR 0 lo) (LR l.length hi)))
  |.sl sz els=>GW ((sz==sz0)&&Ja (LR 0 lo) (LR els.length hi) els.length) (.sl sz (cut els (LR 0 lo) (LR els.length hi)))
  |.nilsl=>GW (!(sz0==0)&&Ja (LR 0 lo) (LR 0 hi) 0) .nilsl
  |_=>bad
def Nc(off:Nat):AV->Mk
  |.ref k i o=>EK (.ref k i (o+off))
  |.ptr sz els i o=>EK (.ptr sz els i (o+off))
  |_=>bad
def tq(sz0 k:Nat)(i:Int):Option Hm->Mk
  |some h=>GW ((h.sz==sz0)&&AS i h.els.length) (.ref k i.toNat 0)
  |none=>bad
def MW(ob:Cx)(sz0:Nat)(i:Int):AV->Mk
  |.own k=>tq sz0 k i (AK k ob)
  |.sl sz els=>GW ((sz==sz0)&&AS i els.length) (.ptr sz [els.getD i.toNat .any] 0 0)
  |_=>bad
def SJ(i:Int):AV->Mk
  |.str l=>GW (AS i l.length) (Js (l.getD i.toNat 0))
  |_=>bad
def pE(i:Nat):AV->Mk
  |.tup cs=>GW (cS (i<cs.length)) (cs.getD i .any)
  |_=>bad
def Yo(k:Nat)(a:AV):Mk:=⟨cS (1<=a.cells.length)&&a.atoms,.ref k 0 0,[(k,⟨a.cells.length,[a]⟩)]⟩
def bO:List AV->List (Nat×Nat×AV)->List AV
  |cs,[]=>cs
  |cs,p::r=>bO (Eg cs p.1 p.2.2.cells) r
def SY(n:Nat):List (Nat×Nat×AV)->Bool
  |[]=>bI
  |p::r=>(p.2.2.cells.length==p.2.1)&&(cS (p.1+p.2.1<=n)&&(p.2.2.atoms&&SY n r))
def PX:List AV->List (Nat×AV)->List AV
  |els,[]=>els
  |els,p::r=>PX (els.set p.1 p.2) r
def setOk(sz n:Nat):List (Nat×AV)->Bool
  |[]=>bI
  |p::r=>decide (p.1<n)&&((p.2.cells.length==sz)&&(p.2.atoms&&setOk sz n r))
def mm2(mx:Bool):AV->AV->AV
  |.int k x,.int _ y=>.int k (bif mx then(if x<y then y else x)else(if y<x then y else x))
  |_,_=>.any
def Xg(mx:Bool):AV->List AV->AV
  |a,[]=>a
  |a,b::r=>Xg mx (mm2 mx a b) r
def kM(k:fI):AV->Bool
  |.int j _=>k==j
  |_=>bR
def mmA(mx:Bool):List AV->Mk
  |.int k n::r=>GW (r.all (kM k)) (Xg mx (.int k n) r)
  |_=>bad
def aQ(k sz bytes:Nat)(z:AV):AV->AV->Mk
  |.int _ n,.int _ m=>⟨(n==m)&&xN n bytes,.own k,[(k,⟨sz,e8 n.toNat z⟩)]⟩
  |_,_=>bad
def AP(r:Src->AV)(ob:Cx)(d:Nat):KW->Mk
  |.mov x=>EK (r x)
  |.newnil sz=>⟨bI,.own (Bn d),[(Bn d,⟨sz,[]⟩)]⟩
  |.alloc z=>Yo (Bn d) z
  |.box x=>Yo (Bn d) (r x)
  |.build z ps=>GW (SY z.length (ps.map fun p=>(p.1,p.2.1,r p.2.2))) (.agg (bO z (ps.map fun p=>(p.1,p.2.1,r p.2.2))))
  |.mkSl sz z n ps=>⟨setOk sz n (ps.map fun p=>(p.1,r p.2)),.own (Bn d),[(Bn d,⟨sz,PX (e8 n z) (ps.map fun p=>(p.1,r p.2))⟩)]⟩
  |.load agg sz p=>PI ob agg sz (r p)
  |.nilck x=>Pc (r x)
  |.bin bl op x y=>cD bl op (r x) (r y)
  |.eqA neg ks x y=>Sf neg ks (r x) (r y)
  |.un op x=>kz op (r x)
  |.conv k x=>bd k (r x)
  |.b2s x=>Yp ob (r x)
  |.s2b x=>qW (Bn d) (r x)
  |.mkFn f fi ca=>GW ((fi.map r++ca.map r).all AV.simple) (.fn f (fi.map r) (ca.map r))
  |.make sz bytes z l c=>aQ (Bn d) sz bytes z (r l) (r c)
  |.slice sz x lo hi=>OT sz (lo.map r) (hi.map r) (r x)
  |.fldAddr off p=>Nc off (r p)
  |.fld agg off sz x=>IJ (r x).isAgg (part agg sz off (r x))
  |.ixAddr sz x i=>MW ob sz (fL (r i)) (r x)
  |.ixStr x i=>SJ (fL (r i)) (r x)
  |.ext x i=>pE i (r x)
  |.len st x=>Yk ob st (r x)
  |.minmax mx xs=>mmA mx (xs.map r)
  |.pick _ _ _=>bad
  |.store _ _ _=>bad
  |.call _ _=>bad
  |.callp _ _=>bad
  |.callv _ _=>bad
  |.app _ _ _ _ _=>bad
  |.pur _=>bad
  |.callw _ _=>bad
  |.flat _=>bad
  |.trunc _ _ _=>bad
  |.movz _=>bad
  |.safe _ _=>bad
def xu(h:Hm):AV->AV
  |.own _=>.sl h.sz h.els
  |.ref _ i off=>.ptr h.sz h.els i off
  |_=>.any
def ABO(v:AV):Cx->AV
  |[]=>v
  |p::_=>xu p.2 v
def TW(m:Mk):Mk:=⟨m.ok,ABO m.v m.hs,[]⟩
def Oq(d:Nat):Nat->List AV->List AV
  |_,[]=>[]
  |j,.fresh _ _::r=>.own (Bn d+j)::Oq d (j+1) r
  |j,.mem _ _ _::r=>.ref (Bn d+j) 0 0::Oq d (j+1) r
  |j,x::r=>x::Oq d (j+1) r
def Mi(d:Nat):Nat->List AV->Cx
  |_,[]=>[]
  |j,.fresh sz els::r=>(Bn d+j,⟨sz,els⟩)::Mi d (j+1) r
  |j,.mem sz els _::r=>(Bn d+j,⟨sz,els⟩)::Mi d (j+1) r
  |j,_::r=>Mi d (j+1) r
def adopt(d:Nat):AV->Mk
  |.fresh sz els=>⟨bI,.own (Bn d),[(Bn d,⟨sz,els⟩)]⟩
  |.tup cs=>⟨cS (cs.length<31),.tup (Oq d 1 cs),Mi d 1 cs⟩
  |.int k n=>EK (.int k n)
  |.bool b=>EK (.bool b)
  |.str l=>EK (.str l)
  |.cv v=>EK (.cv v)
  |.agg cs=>EK (.agg cs)
  |.sl sz els=>EK (.sl sz els)
  |.nilsl=>EK .nilsl
  |.ptr sz els i off=>EK (.ptr sz els i off)
  |.fn f a b=>GW ((a++b).all (fun x=>x.key1.isEmpty)) (.fn f a b)
  |.own _=>bad
  |.ref _ _ _=>bad
  |.mem sz els _=>⟨bI,.ref (Bn d) 0 0,[(Bn d,⟨sz,els⟩)]⟩
  |.opt _ _=>bad
  |.any=>EK .any
def cN:AV->Mk
  |.fresh sz els=>EK (.sl sz els)
  |.mem sz els _=>EK (.ptr sz els 0 0)
  |r=>adopt 0 r
def GU(ob:Cx):Cx->Cx
  |[]=>ob
  |p::r=>GU (DM p.1 p.2 ob) r
def BH(s:St)(c:Bool)(a:AV):Kc->St
  |.no=>{ s with ok:=s.ok&&c }
  |.push=>{ s with st:=a::s.st,ok:=s.ok&&c }
  |.var n=>{ s with vs:=s.vs.set n a,ok:=s.ok&&c }
  |.slot n=>{ s with st:=s.st.set n a,ok:=s.ok&&c }
def bm(d:Nat)(a:AV):AV:=bif a.keys.any (fun k=>k/32==d)then .any else a
def FL(d:Nat):Cx->Cx
  |[]=>[]
  |p::r=>bif p.1/32==d then FL d r else p::FL d r
def SM(d:Nat):Cx->Bool
  |[]=>bR
  |p::r=>(p.1/32==d)||SM d r
def clear(s:St)(d:Nat):St :=
  bif SM d s.ob then{ s with vs:=s.vs.map (bm d),st:=s.st.map (bm d),ob:=FL d s.ob } else s
def Tq(s:St)(hs:Cx):St:={ s with ob:=GU s.ob hs }
def VW(s:St)(key:Nat)(dst:Kc)(c:Bool)(a:AV):Cx->St
  |[]=>BH s c a dst
  |h::hs=>BH (Tq (clear s key) (h::hs)) c a dst
def EH(s:St)(key:Nat)(dst:Kc)(m:Mk):St:=VW s key dst m.ok m.v m.hs
def fail(s:St):St:={ s with ok:=false }
structure Cal where
  ok:Bool
  f:Nat
  args:List AV
def Li(args:List AV):AV->Cal
  |.fn (.func g) fi ca=>⟨bI,g,fi++args++ca⟩
  |_=>⟨bR,0,[]⟩
def qv(i:Nat):Option Hm->AV
  |some h=>.mem h.sz h.els i
  |none=>.any
def Ug:Option Hm->AV
  |some h=>.fresh h.sz h.els
  |none=>.any
def MD(ob:Cx):AV->AV
  |.own k=>Ug (AK k ob)
  |.ref k i 0=>qv i (AK k ob)
  |.nilsl=>.nilsl
  |_=>.any
def Ho:AV->Bool
  |.fresh _ _=>bI
  |.mem _ _ _=>bI
  |.int _ _=>bR
  |.bool _=>bR
  |.str _=>bR
  |.cv _=>bR
  |.agg _=>bR
  |.tup _=>bR
  |.sl _ _=>bR
  |.nilsl=>bR
  |.ptr _ _ _ _=>bR
  |.fn _ _ _=>bR
  |.own _=>bR
  |.ref _ _ _=>bR
  |.opt _ _=>bR
  |.any=>bR
def ag:AV->Bool
  |.nilsl=>bI
  |_=>bR
def GN:List Md->List AV->Bool
  |.bor::ms,a::j=>!Ho a&&GN ms j
  |.io::ms,a::j=>Ho a&&GN ms j
  |.mov::ms,a::j=>(Ho a||ag a)&&GN ms j
  |[],[]=>bI
  |_,_=>bR
def Ey(ob:Cx):Md->AV->AV
  |.bor,a=>a.dv ob
  |.io,a=>MD ob a
  |.mov,a=>MD ob a
def Bh(ob:Cx):List Md->List AV->List AV
  |m::ms,a::j=>Ey ob m a::Bh ob ms j
  |_,_=>[]
def Bi:List Md->List AV->List Nat
  |.bor::ms,_::j=>Bi ms j
  |.io::ms,a::j=>a.key1++Bi ms j
  |.mov::ms,a::j=>a.key1++Bi ms j
  |_,_=>[]
def Fp:List Md->List AV->List Nat
  |.bor::ms,a::j=>a.keys++Fp ms j
  |.io::ms,_::j=>Fp ms j
  |.mov::ms,_::j=>Fp ms j
  |_,_=>[]
def FA:List Nat->Bool
  |[]=>bI
  |k::r=>!r.any (· == k)&&FA r
def apart(ks j:List Nat):Bool:=ks.all fun k=>!j.any (· == k)
def killAll(s:St)(k:Nat):St:={ s with vs:=s.vs.map (AV.kill k),st:=s.st.map (AV.kill k),ob:=MU k s.ob }
def Ak(s:St):List Md->List AV->List AV->St
  |.bor::ms,_::j,_::os=>Ak s ms j os
  |.io::ms,.own k::j,.fresh sz els::os=>Ak { s with ob:=DM k ⟨sz,els⟩ s.ob } ms j os
  |.io::ms,.ref k _ 0::j,.mem sz els _::os=>Ak { s with ob:=DM k ⟨sz,els⟩ s.ob } ms j os
  |.mov::ms,.own k::j,_::os=>Ak (killAll s k) ms j os
  |.mov::ms,.nilsl::j,_::os=>Ak s ms j os
  |[],[],[]=>s
  |_,_,_=>fail s
def Uv(C:Ao)(s:St)(args:List AV):St:=bif C.flat then s else freezeAll s (Fp C.modes args)
def QQ(s:St)(key:Nat)(dst:Kc)(modes:List Md)(args:List AV)(c:Bool)(q:Rs):St :=
  EH (Ak s modes args q.outs) key dst (IJ (c&&q.ok) (adopt key q.r))
def PT(s:St)(key:Nat)(dst:Kc)(args:List AV):Option Ao->St
  | some C=>QQ (Uv C s args) key dst C.modes args
      (GN C.modes (Bh s.ob C.modes args)&&((C.modes.length==args.length)&&(FA (Bi C.modes args)&&apart (Bi C.modes args) (Fp C.modes args)))) (C.F (Bh s.ob C.modes args))
  |none=>fail s
def Lo(T:Le)(s:St)(key:Nat)(dst:Kc)(c:Cal):St :=
  PT { s with ok:=s.ok&&c.ok } key dst c.args (T c.f)
def bn(ob:Cx)(args:List AV):Option Ao->Mk
  | some C=>IJ ((C.modes.length==args.length)&&(GN C.modes (Bh ob C.modes args)&&C.modes.all (· == .bor)&&((C.flat||args.all (fun a=>a.keys.isEmpty))&&(C.F (Bh ob C.modes args)).ok)))
      (cN (C.F (Bh ob C.modes args)).r)
  |none=>bad
def DT(T:Le)(ob:Cx)(c:Cal):Mk:=IJ c.ok (bn ob c.args (T c.f))
def VC(s:St)(k i sz off:Nat)(x el:AV)(h:Hm):St :=
  { s with ob:=DM k ⟨h.sz,h.els.set i (el.like (Eg el.cells off x.cells))⟩ s.ob,ok:=s.ok&&(cS (i<h.els.length)&&((x.cells.length==sz)&&(cS (off+sz<=el.cells.length)&&x.atoms))) }
def Tv(s:St)(k i sz off:Nat)(x:AV):Option Hm->St
  |some h=>VC s k i sz off x (h.els.getD i .any) h
  |none=>fail s
def MN(s:St)(sz:Nat)(x:AV):AV->St
  |.ref k i off=>Tv s k i sz off x (AK k s.ob)
  |_=>fail s
structure Ap where
  ok:Bool
  sz:Nat
  els:List AV
def iD:Option Hm->Ap
  |some h=>⟨bI,h.sz,h.els⟩
  |none=>⟨bR,0,[]⟩
def DG(sz:Nat)(ob:Cx):AV->Ap
  |.str l=>⟨sz==1,sz,l.map Js⟩
  |.sl sz2 els=>⟨sz2==sz,sz,els⟩
  |.nilsl=>⟨bI,sz,[]⟩
  |.own k=>iD (AK k ob)
  |_=>⟨bR,0,[]⟩
def Xt(s:St)(key:Nat)(dst:Kc)(sz bytes:Nat)(y:Ap)(k:Nat):Option Hm->St
  | some h=>BH { s with vs:=s.vs.map (AV.kill k),st:=s.st.map (AV.kill k),ob:=DM k ⟨sz,h.els++y.els⟩ s.ob }
      ((h.sz==sz)&&((y.sz==sz)&&(y.ok&&Dg (h.els.length+y.els.length) bytes))) (.own k) dst
  |none=>fail s
def Uo(s:St)(key:Nat)(dst:Kc)(sz bytes:Nat)(y:Ap):AV->St
  |.own k=>Xt s key dst sz bytes y k (AK k s.ob)
  |.nilsl=>EH s key dst ⟨(y.sz==sz)&&(y.ok&&Dg y.els.length bytes),.own (Bn key),[(Bn key,⟨sz,y.els⟩)]⟩
  |_=>fail s
def Db(s:St):KW->List Nat
  |.box x=>(rd s x).keys
  |.build _ ps=>ps.flatMap fun p=>(rd s p.2.2).keys
  |.mkSl _ _ _ ps=>ps.flatMap fun p=>(rd s p.2).keys
  |.store _ _ x=>(rd s x).keys
  |.slice _ x _ _=>(rd s x).keys
  |_=>[]
def AV.lone:AV->Bool
  |.int _ _=>bI
  |.bool _=>bI
  |.str _=>bI
  |.nilsl=>bI
  |.sl _ _=>bI
  |.ptr _ _ _ _=>bI
  |.agg _=>bI
  |.own _=>bI
  |.ref _ _ _=>bI
  |.cv _=>bI
  |.any=>bI
  |.fn _ fi ca=>(fi++ca).all (fun a=>a.key1.isEmpty)
  |.tup _=>bR
  |.fresh _ _=>bR
  |.mem _ _ _=>bR
  |.opt _ _=>bR
def MA(m:Mk):Mk:=⟨m.ok&&(m.hs.isEmpty&&m.v.lone),m.v,[]⟩
def BQ:KW->List Src
  |.box x=>[x]
  |.build _ ps=>ps.map fun p=>p.2.2
  |.mkSl _ _ _ ps=>ps.map fun p=>p.2
  |.s2b x=>[x]
  |.make _ _ _ l c=>[l,c]
  |.mov x=>[x]
  |.load _ _ p=>[p]
  |.nilck x=>[x]
  |.bin _ _ x y=>[x,y]
  |.eqA _ _ x y=>[x,y]
  |.un _ x=>[x]
  |.conv _ x=>[x]
  |.b2s x=>[x]
  |.slice _ x lo hi=>x::(lo.toList++hi.toList)
  |.fldAddr _ p=>[p]
  |.fld _ _ _ x=>[x]
  |.ixAddr _ x i=>[x,i]
  |.ixStr x i=>[x,i]
  |.ext x _=>[x]
  |.len _ x=>[x]
  |.minmax _ xs=>xs
  |.call _ args=>args
  |.callv f args=>f::args
  |.trunc _ x hi=>[x,hi]
  |.movz x=>[x]
  |_=>[]
def Az:KW->Bool
  |.alloc _=>bI
  |.box _=>bI
  |.build _ _=>bI
  |.mkSl _ _ _ _=>bI
  |.s2b _=>bI
  |.make _ _ _ _ _=>bI
  |.mov _=>bI
  |.load _ _ _=>bI
  |.nilck _=>bI
  |.bin _ _ _ _=>bI
  |.eqA _ _ _ _=>bI
  |.un _ _=>bI
  |.conv _ _=>bI
  |.b2s _=>bI
  |.slice _ _ _ _=>bI
  |.fldAddr _ _=>bI
  |.fld _ _ _ _=>bI
  |.ixAddr _ _ _=>bI
  |.ixStr _ _=>bI
  |.ext _ _=>bI
  |.len _ _=>bI
  |.minmax _ _=>bI
  |.call _ _=>bI
  |.callv _ _=>bI
  |_=>bR
def LQ(T:Le)(s:St)(key:Nat):KW->Mk
  |.call f args=>MA (DT T s.ob ⟨bI,f,args.map (rd s)⟩)
  |.callv f args=>MA (DT T s.ob (Li (args.map (rd s)) (rd s f)))
  |op=>bif Az op then MA (TW (AP (rd s) s.ob key op))else bad
def EM:AV->Bool
  |.int _ _=>bI
  |.bool _=>bI
  |.str _=>bI
  |.cv _=>bR
  |.agg _=>bR
  |.tup _=>bR
  |.sl _ _=>bR
  |.nilsl=>bR
  |.ptr _ _ _ _=>bR
  |.fn _ _ _=>bR
  |.own _=>bR
  |.ref _ _ _=>bR
  |.fresh _ _=>bR
  |.mem _ _ _=>bR
  |.opt _ _=>bR
  |.any=>bR
def Ks(T:Le)(r:Src->AV)(key:Nat):KW->Mk
  |.callp f args=>MA (DT T [] ⟨bI,f,args.map r⟩)
  |.pur (.slice sz x lo hi)=>MA (TW (AP r [] key (.slice sz x lo hi)))
  |.mov x=>AP r [] key (.mov x)
  |.bin bl op x y=>AP r [] key (.bin bl op x y)
  |.un op x=>AP r [] key (.un op x)
  |.conv k x=>AP r [] key (.conv k x)
  |.ixStr x i=>AP r [] key (.ixStr x i)
  |.len st x=>AP r [] key (.len st x)
  |_=>bad
def GD:KW->List Src
  |.callp _ args=>args
  |.pur a=>BQ a
  |a=>BQ a
def PN(b:Bool)(m:Mk):Mk:=bif b&&(m.hs.isEmpty&&EM m.v)then⟨m.ok,m.v,[]⟩else bad
def Wt(s:St)(dst:Kc)(sz:Nat)(n:Int)(k:Nat):Option Hm->St
  | some h=>BH { s with vs:=s.vs.map (AV.kill k),st:=s.st.map (AV.kill k),ob:=DM k ⟨h.sz,h.els.take n.toNat⟩ s.ob }
      ((h.sz==sz)&&((!(k%32==31))&&Ja 0 n h.els.length)) (.own k) dst
  |none=>fail s
def ML(s:St)(dst:Kc)(sz:Nat)(n:Int):AV->St
  |.own k=>Wt s dst sz n k (AK k s.ob)
  |_=>fail s
def Gi:KW->Bool
  |.mov _=>bI
  |.load _ _ _=>bI
  |.nilck _=>bI
  |.bin _ _ _ _=>bI
  |.eqA _ _ _ _=>bI
  |.un _ _=>bI
  |.conv _ _=>bI
  |.b2s _=>bI
  |.mkFn _ _ _=>bI
  |.fldAddr _ _=>bI
  |.fld _ _ _ _=>bI
  |.ixAddr _ _ _=>bI
  |.ixStr _ _=>bI
  |.ext _ _=>bI
  |.len _ _=>bI
  |.minmax _ _=>bI
  |_=>bR
def SB(T:Le)(r:Src->AV)(ob:Cx)(key:Nat):KW->Mk
  |.call f args=>MA (DT T ob ⟨bI,f,args.map r⟩)
  |.callv f args=>MA (DT T ob (Li (args.map r) (r f)))
  |op=>bif Az op then MA (TW (AP r ob key op))else bad
def LP(T:Le)(r:Src->AV)(ob:Cx)(key:Nat):KW->Mk
  |.pur (.callv _ _)=>bad
  |.pur a=>SB T r ob key a
  |.pick c a b=>OZ bI (r a) (r b) (r c)
  |.callp f args=>MA (DT T ob ⟨bI,f,args.map r⟩)
  |op=>bif Gi op then AP r ob key op else bad
def Eu:KW->List Src
  |.mkFn _ fi ca=>fi++ca
  |.pick c a b=>[c,a,b]
  |.callp _ args=>args
  |.pur a=>BQ a
  |a=>BQ a
def Mp:AV->Bool
  |.any=>bI
  |.int _ _=>bR
  |.bool _=>bR
  |.str _=>bR
  |.cv _=>bR
  |.agg _=>bR
  |.tup _=>bR
  |.sl _ _=>bR
  |.nilsl=>bR
  |.ptr _ _ _ _=>bR
  |.fn _ _ _=>bR
  |.own _=>bR
  |.ref _ _ _=>bR
  |.fresh _ _=>bR
  |.mem _ _ _=>bR
  |.opt _ _=>bR
def Qk(ds:List Nat)(a:AV):Bool:=!Mp a && !a.keys.any (fun k=>ds.any (· == k/32))
def NB:List Nat->Cx->Cx
  |[],ob=>ob
  |d::r,ob=>NB r (FL d ob)
def Zs(b:Bool)(ds:List Nat)(m:Mk):Mk:=bif b&&(m.hs.isEmpty&&Qk ds m.v)then⟨m.ok,m.v,[]⟩else bad
def Mn(T:Le)(r:Src->AV)(ob:Cx)(key:Nat)(ds:List Nat)(a:KW):Mk:=Zs ((Eu a).all fun x=>Qk ds (r x)) ds (LP T r (NB ds ob) key a)
def DF(T:Le)(s:St)(key:Nat)(dst:Kc):KW->St
  |.store sz p x=>MN (freezeAll s (rd s x).keys) sz (rd (freezeAll s (rd s x).keys) x) (rd (freezeAll s (rd s x).keys) p)
  |.app sz bytes _ a x=>Uo s key dst sz bytes (DG sz s.ob (rd s x)) (rd s a)
  |.call f args=>Lo T s key dst ⟨bI,f,args.map (rd s)⟩
  |.callv f args=>Lo T s key dst (Li (args.map (rd s)) (rd s f))
  |.callp f args=>EH s key dst (MA (DT T s.ob ⟨bI,f,args.map (rd s)⟩))
  |.pur a=>EH s key dst (LQ T s key a)
  |.callw _ _=>fail s
  |.flat a=>EH s key dst (PN ((GD a).all fun x=>EM (rd s x)) (Ks T (rd s) key a))
  |.trunc sz x hi=>ML s dst sz (fL (rd s hi)) (rd s x)
  |.movz x=>EH (freezeAll s (rd s x).keys) key dst (AP (rd (freezeAll s (rd s x).keys)) (freezeAll s (rd s x).keys).ob key (.mov x))
  |.safe ds a=>EH s key dst (Mn T (rd s) s.ob key ds a)
  |.pick c a b=>EH s key dst (OZ bI (rd s a) (rd s b) (rd s c))
  |.box x=>EH (freezeAll s (rd s x).keys) key dst (Yo (Bn key) (rd (freezeAll s (rd s x).keys) x))
  |.build z ps=>EH (freezeAll s (Db s (.build z ps))) key dst (AP (rd (freezeAll s (Db s (.build z ps)))) (freezeAll s (Db s (.build z ps))).ob key (.build z ps))
  |.mkSl sz z n ps=>EH (freezeAll s (Db s (.mkSl sz z n ps))) key dst (AP (rd (freezeAll s (Db s (.mkSl sz z n ps)))) (freezeAll s (Db s (.mkSl sz z n ps))).ob key (.mkSl sz z n ps))
  |.slice sz x lo hi=>EH (freezeAll s (rd s x).keys) key dst (AP (rd (freezeAll s (rd s x).keys)) (freezeAll s (rd s x).keys).ob key (.slice sz x lo hi))
  |.mov x=>EH s key dst (AP (rd s) s.ob key (.mov x))
  |.alloc z=>EH s key dst (AP (rd s) s.ob key (.alloc z))
  |.newnil sz=>EH s key dst (AP (rd s) s.ob key (.newnil sz))
  |.load agg sz p=>EH s key dst (AP (rd s) s.ob key (.load agg sz p))
  |.nilck x=>EH s key dst (AP (rd s) s.ob key (.nilck x))
  |.bin bl op x y=>EH s key dst (AP (rd s) s.ob key (.bin bl op x y))
  |.eqA neg ks x y=>EH s key dst (AP (rd s) s.ob key (.eqA neg ks x y))
  |.un op x=>EH s key dst (AP (rd s) s.ob key (.un op x))
  |.conv k x=>EH s key dst (AP (rd s) s.ob key (.conv k x))
  |.s2b x=>EH s key dst (AP (rd s) s.ob key (.s2b x))
  |.b2s x=>EH s key dst (AP (rd s) s.ob key (.b2s x))
  |.mkFn f fi ca=>EH s key dst (AP (rd s) s.ob key (.mkFn f fi ca))
  |.make sz bytes z l c=>EH s key dst (AP (rd s) s.ob key (.make sz bytes z l c))
  |.fldAddr off p=>EH s key dst (AP (rd s) s.ob key (.fldAddr off p))
  |.fld agg off sz x=>EH s key dst (AP (rd s) s.ob key (.fld agg off sz x))
  |.ixAddr sz x i=>EH s key dst (AP (rd s) s.ob key (.ixAddr sz x i))
  |.ixStr x i=>EH s key dst (AP (rd s) s.ob key (.ixStr x i))
  |.ext x i=>EH s key dst (AP (rd s) s.ob key (.ext x i))
  |.len st x=>EH s key dst (AP (rd s) s.ob key (.len st x))
  |.minmax mx xs=>EH s key dst (AP (rd s) s.ob key (.minmax mx xs))
def ADR:AV->Bool
  |.bool b=>b
  |_=>bR
def ZJ:AV->Bool
  |.bool _=>bI
  |_=>bR
def od(j:Bool):AV->Bool
  |.bool b=>b==j
  |.opt c a=>c&&(ADR a==j)
  |_=>bR
def SS:AV->Bool
  |.bool _=>bI
  |.opt c a=>!c||ZJ a
  |_=>bR
def Wr(s:St):Src->AV
  |.v n=>KX (s.vs.getD n .any)
  |.s n=>KX (s.st.getD n .any)
  |.c a=>a
def EE(T:Le)(s:St)(w:Bool)(key:Nat):KW->Mk
  |.pick c a b=>IJ (Dc w (rd s c)) (OZ w (rd s a) (rd s b) (Wr s c))
  |.call f args=>IJ ((BQ (.call f args)).all fun x=>Dc w (rd s x)) (DT T s.ob ⟨bI,f,args.map (Wr s)⟩)
  |.callv f args=>IJ ((BQ (.callv f args)).all fun x=>Dc w (rd s x)) (DT T s.ob (Li (args.map (Wr s)) (Wr s f)))
  |op=>IJ (Az op&&(BQ op).all fun x=>Dc w (rd s x)) (TW (AP (Wr s) s.ob key op))
def Pa(s:St)(w:Bool)(dst:Kc)(m:Mk):St:=BH s (!w||(m.ok&&(m.hs.isEmpty&&m.v.lone))) (.opt w m.v) dst
def rM(T:Le)(s:St)(key:Nat)(dst:Kc)(f:Nat)(args:List Src)(w:Bool):St :=
  if w=bI then Lo T s key dst ⟨args.all fun x=>Dc bI (rd s x),f,args.map (Wr s)⟩else Pa s bR dst (EK .any)
def Nr(T:Le)(s:St)(key:Nat)(dst:Kc)(w:Bool):KW->St
  |.callw f args=>rM T s key dst f args w
  |op=>Pa s w dst (EE T s w key op)
def Xa(T:Le)(s:St)(key:Nat)(dst:Kc)(op:KW):Option (Src×Bool)->St
  |none=>DF T s key dst op
  |some g=>Nr T { s with ok:=s.ok&&SS (rd s g.1) } key dst (od g.2 (rd s g.1)) op
def Dp(T:Le)(s:St)(i:Ng):St:=Xa T s i.key i.dst i.op i.guard
def Gj(T:Le):List Ng->St->St
  |[],s=>s
  |i::r,s=>Gj T r (Dp T s i)
def drop(s:St):St:={ s with st:=[] }
def KU:List Bool->List AV->List AV
  |true::m,a::r=>a::KU m r
  |false::m,_::r=>.any::KU m r
  |_,_=>[]
def SI(j:List AV):Cx->Cx
  |[]=>[]
  |p::r=>bif j.any (fun a=>a.names p.1)then p::SI j r else SI j r
def keepB(m:List Bool)(s:St):St:={ vs:=KU m s.vs,st:=[],ob:=SI (KU m s.vs) s.ob,ok:=s.ok }
def ddp:List Nat->List Nat->List Nat
  |_,[]=>[]
  |seen,k::r=>bif seen.any (· == k)then ddp seen r else k::ddp (k::seen) r
def Xq(j x:Nat):Nat:=bif x%32==31 then x else 32*(100000+j)
def tO:List Nat->Nat->Nat->Nat
  |[],_,k=>k
  |x::r,j,k=>bif k==x then Xq j x else tO r (j+1) k
def AV.re1(π:Nat->Nat):AV->AV
  |.own k=>.own (π k)
  |.ref k i off=>.ref (π k) i off
  |.int k n=>.int k n
  |.bool b=>.bool b
  |.str l=>.str l
  |.cv v=>.cv v
  |.agg cs=>.agg cs
  |.tup cs=>.tup cs
  |.sl sz els=>.sl sz els
  |.nilsl=>.nilsl
  |.ptr sz els i off=>.ptr sz els i off
  |.fn f a b=>.fn f a b
  |.fresh sz els=>.fresh sz els
  |.mem sz els i=>.mem sz els i
  |.opt b a=>.opt b a
  |.any=>.any
def AV.re(π:Nat->Nat):AV->AV
  |.own k=>.own (π k)
  |.ref k i off=>.ref (π k) i off
  |.fn f fi ca=>.fn f (fi.map (AV.re1 π)) (ca.map (AV.re1 π))
  |.tup cs=>.tup (cs.map (AV.re1 π))
  |.opt b a=>.opt b (a.re1 π)
  |.int k n=>.int k n
  |.bool b=>.bool b
  |.str l=>.str l
  |.cv v=>.cv v
  |.agg cs=>.agg cs
  |.sl sz els=>.sl sz els
  |.nilsl=>.nilsl
  |.ptr sz els i off=>.ptr sz els i off
  |.fresh sz els=>.fresh sz els
  |.mem sz els i=>.mem sz els i
  |.any=>.any
def iP(k:Nat)(r:Cx):Option Hm->Cx
  |some h=>DM k h r
  |none=>r
def jx(π:Nat->Nat)(ob:Cx):List Nat->Cx
  |[]=>[]
  |k::r=>iP (π k) (jx π ob r) (AK k ob)
def canonK(s:St)(ks:List Nat):St:={ vs:=s.vs.map (AV.re (tO ks 0)),st:=[],ob:=jx (tO ks 0) s.ob ks,ok:=s.ok }
def rx(s:St):Cx->St
  |[]=>s
  |_::_=>canonK s (ddp [] (s.vs.flatMap AV.keys))
def pS(s:St):St:=rx s s.ob
def keepS(m:List Bool)(s:St):St:=pS (keepB m s)
abbrev FM:=Ex×St
def MM(k:St->FM):FM->FM
  |(.norm,s)=>k s
  |(.exit id,s)=>(.exit id,s)
  |(.ret,s)=>(.ret,s)
def YP(C:Nat):FM->FM
  |(.exit j,s)=>bif j==C then(.norm,s)else(.exit j,s)
  |(.norm,s)=>(.norm,s)
  |(.ret,s)=>(.ret,s)
def Om(a b:St->FM)(s:St):AV->FM
  |.bool c=>if c=bI then a s else b s
  |_=>(.norm,fail s)
def MV(j ot rt:List Bool):FM->FM
  |(.norm,s)=>(.norm,keepS j s)
  |(.exit id,s)=>(.exit id,keepS ot s)
  |(.ret,s)=>(.ret,keepS rt s)
def iW(m:List Bool):FM->FM
  |(.norm,s)=>(.norm,keepS m s)
  |(.exit id,s)=>(.exit id,s)
  |(.ret,s)=>(.ret,s)
def Og(f:St->FM)(j ot rt:List Bool):Nat->St->FM
  |0,s=>(.norm,fail s)
  |n+1,s=>MM (Og f j ot rt n) (MV j ot rt (f s))
def XN(is:List Ng)(l:List Nat):List Ng:=l.map fun i=>is.getD i ⟨.no,0,cA,.mov (.c .any)⟩
def So(T:Le)(is:List Ng)(s r:St):List (List Nat)->Bool
  |[]=>bI
  |l::rest=>(@cS (Gj T (XN is l) s=r) (Classical.propDecidable _))&&So T is s r rest
def slots(k:Nat)(s:St):St:={ s with st:=e8 k .any }
def vu(s:St)(b:Bool):St:={ s with ok:=s.ok&&b }
def WP(T:Le)(k:Nat)(is:List Ng)(j:List (List Nat))(s:St):St :=
  vu (Gj T is (slots k s)) (So T is (slots k s) (Gj T is (slots k s)) j)
def Uy(c:Src)(a b:St->FM)(s:St):FM:=Om a b (drop s) (rd s c)
def CH(T:Le)(L:Nat):IR->St->FM
  |.skip,s=>(.norm,s)
  |.region _ is,s=>(.norm,drop (Gj T is s))
  |.test _ is c a b,s=>Uy c (CH T L a) (CH T L b) (Gj T is s)
  |.anyo k is alts .skip,s=>(.norm,drop (WP T k is alts s))
  |.anyo k is alts (.cond c a b),s=>Uy c (CH T L a) (CH T L b) (WP T k is alts s)
  |.anyo _ _ _ _,s=>(.norm,fail s)
  |.seq a b,s=>MM (CH T L b) (CH T L a s)
  |.cond c a b,s=>Om (CH T L a) (CH T L b) s (rd s c)
  |.block id a,s=>YP id (CH T L a s)
  |.loop keep out rt a,s=>Og (CH T L a) keep out rt L (keepS keep s)
  |.mask m a,s=>iW m (CH T L a s)
  |.exit id,s=>(.exit id,s)
  |.ret,s=>(.ret,s)
def AF(j:Nat):Nat:=32*j+31
def Nl:Nat->List AV->List AV
  |_,[]=>[]
  |j,.fresh _ _::r=>.own (AF j)::Nl (j+1) r
  |j,.mem _ _ i::r=>.ref (AF j) i 0::Nl (j+1) r
  |j,x::r=>x::Nl (j+1) r
def BN:Nat->List AV->Cx
  |_,[]=>[]
  |j,.fresh sz els::r=>(AF j,⟨sz,els⟩)::BN (j+1) r
  |j,.mem sz els _::r=>(AF j,⟨sz,els⟩)::BN (j+1) r
  |j,_::r=>BN (j+1) r
def Xb(nv:Nat)(args:List AV):St:={ vs:=Nl 0 args++e8 (nv-args.length) .any,st:=[],ob:=BN 0 args,ok:=true }
def ZE(ob:Cx)(agg:Bool)(sz:Nat):AV->Mk
  |.ref k i off=>ny agg sz i off (AK k ob)
  |_=>bad
def RW(s:St):sR->Mk
  |.t n=>EK (s.vs.getD n .any)
  |.cell agg sz p=>ZE s.ob agg sz (s.vs.getD p .any)
def kg:Option Hm->Mk
  |some h=>EK (.fresh h.sz h.els)
  |none=>bad
def kd(i off:Nat):Option Hm->Mk
  |some h=>GW ((i==0)&&((off==0)&&(h.els.length==1))) (.mem h.sz h.els 0)
  |none=>bad
def DI(ob:Cx):AV->Mk
  |.own k=>kg (AK k ob)
  |.ref k i off=>kd i off (AK k ob)
  |.tup _=>bad
  |.any=>bad
  |.fresh _ _=>bad
  |.mem _ _ _=>bad
  |.opt _ _=>bad
  |.fn f a b=>GW ((a++b).all (fun x=>x.key1.isEmpty)) (.fn f a b)
  |.int k n=>EK (.int k n)
  |.bool b=>EK (.bool b)
  |.str l=>EK (.str l)
  |.cv v=>EK (.cv v)
  |.agg cs=>EK (.agg cs)
  |.sl sz els=>EK (.sl sz els)
  |.nilsl=>EK .nilsl
  |.ptr sz els i off=>EK (.ptr sz els i off)
def Ym:AV->AV
  |.fresh sz els=>.sl sz els
  |.mem sz els _=>.ptr sz els 0 0
  |a=>a
def RY:AV->AV
  |.tup cs=>.tup (cs.map Ym)
  |a=>Ym a
def APQ(q:Rs):Rs:=⟨q.ok,RY q.r,q.outs⟩
def iy:AV->Bool
  |.mem _ _ _=>bI
  |_=>bR
def cH(m:Bool)(n:Nat):Option Hm->Mk
  |some h=>GW (h.els.length==n) (bif m then .mem h.sz h.els 0 else .fresh h.sz h.els)
  |none=>bad
def kw:AV->Nat
  |.fresh _ els=>els.length
  |.mem _ els _=>els.length
  |_=>0
def RP(ob:Cx)(j:Nat)(a:AV):Md->Mk
  |.io=>cH (iy a) (kw a) (AK (AF j) ob)
  |.bor=>EK .any
  |.mov=>EK .any
def WM(ob:Cx):List Md->Nat->List AV->List Mk
  |m::ms,j,a::r=>RP ob j a m::WM ob ms (j+1) r
  |_,_,_=>[]
def Kn:List Md->Nat->List Nat
  |.io::ms,j=>AF j::Kn ms (j+1)
  |.bor::ms,j=>Kn ms (j+1)
  |.mov::ms,j=>Kn ms (j+1)
  |[],_=>[]
def YJ:List AV->AV
  |[a]=>a
  |[]=>.cv cB
  |a::b::r=>.tup (a::b::r)
def ka(modes:List Md)(rs:List AV):Bool :=
  FA (rs.flatMap AV.key1)&&apart (rs.flatMap AV.key1) (Kn modes 0)
def bM(s:St)(modes:List Md)(args:List AV)(ms:List Mk):Rs :=
  ⟨s.ok&&(ms.all (·.ok)&&(ka modes (ms.map (·.v))&&(((ms.map (·.v)).map (DI s.ob)).all (·.ok)&&(WM s.ob modes 0 args).all (·.ok)))),
    YJ (((ms.map (·.v)).map (DI s.ob)).map (·.v)),(WM s.ob modes 0 args).map (·.v)⟩
def Ok(fn:Bg)(modes:List Md)(args:List AV):FM->Rs
  |(.exit _,_)=>Rs.bad
  |(.norm,s)=>bM s modes args (fn.res.map (RW s))
  |(.ret,s)=>bM s modes args (fn.res.map (RW s))
def fits(fn:Bg)(modes:List Md)(args:List AV):Bool:=GN modes args&&((args.length==fn.np)&&(modes.length==fn.np))
def ABt(c:Bool)(r:Rs):Rs:=⟨c&&r.ok,r.r,r.outs⟩
def PZ(T:Le)(L:Nat)(fn:Bg)(modes:List Md)(args:List AV):Rs :=
  ABt (fits fn modes args) (Ok fn modes args (CH T L fn.body (Xb fn.nv args)))
end Go.Proofs.YtegmpdmpgmpiaaaGreatDoor
namespace Go.Proofs.YtegmpdmpgmpiaaaGreatDoor
open Go Go.RowKit
def GT(S:Nat->Prop)(w:cb):Prop:=∀q,q∈mo->¬ S q.1/\∃cs T fz,w.heap[q.1]? = bS (.cells cs T fz)/\q.2 cs
inductive VR(S:Nat->Prop)(w:cb):Value->AV->Prop
 |int {k n}:VR S w (.int k n) (.int k n)
 |bool {b}:VR S w (.bool b) (.bool b)
 |str {l}:VR S w (.string ⟨l.toArray⟩) (.str l)
 |cv {v}:VR S w v (.cv v)
 |nilsl:VR S w (.slice cA 0 0) .nilsl
 |any {v}:VR S w v .any
 | agg {cs:Array Value} {as:List AV} (hn:cs.size=as.length) (ha:∀j,j<as.length->(as.getD j .any).atom=bI)
   (h:∀j,j<as.length->VR S w (cs.getD j cB) (as.getD j .any)):VR S w (.agg cs) (.agg as)
 | tup {cs:Array Value} {as:List AV} (hn:cs.size=as.length)
   (h:∀j,j<as.length->VR S w (cs.getD j cB) (as.getD j .any)):VR S w (.tuple cs) (.tup as)
 | sl {a:Option Addr} {n cap sz:Nat} {els:List AV} (b off:Nat) (rd:Nat->Nat->Value) (hn:n=els.length) (hcap:n<=cap) (hsz:1<=sz)
   (ha:0<els.length->a=bS ⟨b,off,cA⟩/\¬ S b)
   (hc:∀i,i<els.length->(els.getD i .any).cells.length=sz/\(els.getD i .any).atoms=bI)
   (hw:∀i j,i<els.length->j<sz->w.cell? ⟨b,off+(i*sz+j),cA⟩=bS (rd i j))
   (h:∀i j,i<els.length->j<sz->VR S w (rd i j) ((els.getD i .any).cells.getD j .any)):VR S w (.slice a n cap) (.sl sz els)
 | ptr {sz:Nat} {els:List AV} {i0 o0:Nat} (b off:Nat) (rd:Nat->Nat->Value) (hsz:1<=sz) (hi:i0<els.length) (hs:¬ S b)
   (hc:∀i,i<els.length->(els.getD i .any).cells.length=sz/\(els.getD i .any).atoms=bI)
   (hw:∀i j,i<els.length->j<sz->w.cell? ⟨b,off+(i*sz+j),cA⟩=bS (rd i j))
   (h:∀i j,i<els.length->j<sz->VR S w (rd i j) ((els.getD i .any).cells.getD j .any)) :
   VR S w (.pointer (bS ⟨b,off+(i0*sz+o0),cA⟩)) (.ptr sz els i0 o0)
 | fn {f:Fn} {v1 v2:Array Value} {a1 a2:List AV} (h1n:v1.size=a1.length) (h2n:v2.size=a2.length)
   (h1:∀j,j<a1.length->VR S w (v1.getD j cB) (a1.getD j .any)) (h2:∀j,j<a2.length->VR S w (v2.getD j cB) (a2.getD j .any)) :
   VR S w (.func f v1 v2) (.fn f a1 a2)
structure AD(S:Nat->Prop)(w w':cb):Prop where
 os:w'.os=w.os
 tape:w'.tape=w.tape
 output:w'.output=w.output
 size:w.heap.size<=w'.heap.size
 block:∀b,b<w.heap.size->¬ S b->w'.heap[b]? = w.heap[b]?
def AD.refl(S:Nat->Prop)(w:cb):AD S w w:=⟨rfl,rfl,rfl,dU _,fun _ _ _=>rfl⟩
def AD.trans{S:Nat->Prop}{a b c:cb}(h:AD S a b)(k:AD S b c):AD S a c :=
 ⟨k.os.trans h.os,k.tape.trans h.tape,k.output.trans h.output,hT h.size k.size,fun x j hs=>(k.block x (hD j h.size) hs).trans (h.block x j hs)⟩
def AD.mono{S S':Nat->Prop}{w w':cb}(h:AD S w w')(hs:∀b,b<w.heap.size->S b->S' b):AD S' w w' :=
 ⟨h.os,h.tape,h.output,h.size,fun b hb j=>h.block b hb fun c=>j (hs b hb c)⟩
def AD.alloc(S:Nat->Prop)(w:cb)(o:Obj):AD S w (w.alloc o) :=
 ⟨rfl,rfl,rfl,p',fun b hb _=>Below.heap_alloc w o b hb⟩
def AD.drew(S:Nat->Prop)(w:cb):AD S w w.drew:=⟨rfl,rfl,rfl,dU _,fun _ _ _=>rfl⟩
def Gv{w w':cb}{a:Addr}(h:w'.heap[a.block]? = w.heap[a.block]?):w'.cell? a=w.cell? a:=by
 unfold kp;rw[h]
def AD.cell{S:Nat->Prop}{w w':cb}(h:AD S w w'){b o:Nat}{v:Value}(hs:¬ S b)(j:w.cell? ⟨b,o,cA⟩=bS v):w'.cell? ⟨b,o,cA⟩=bS v:=by
 have hb:=hM w ⟨b,o,cA⟩ j;rw[Gv (a:=⟨b,o,cA⟩) (h.block b hb hs),j]
def VR.mono{S S':Nat->Prop}{w w':cb}(C:AD S w w')(hS:∀b,b<w.heap.size->S' b->S b){v:Value}{a:AV}(h:VR S w v a):VR S' w' v a:=by
 induction h with
 |int=>exact .int
 |bool=>exact .bool
 |str=>exact .str
 |cv=>exact .cv
 |nilsl=>exact .nilsl
 |any=>exact .any
 |agg R ha _ I=>exact .agg R ha I
 |tup R _ I=>exact .tup R I
 |fn ao aj _ _ i1 i2=>exact .fn ao aj i1 i2
 | @sl a n cap sz els b off rd R U J ha hc hw _ I=>
  refine .sl b off rd R U J (fun hp=>?_) hc (fun i j hi hj=>C.cell (ha n').2 (hw i j hi hj)) I;have hb:=hM w _ (hw 0 0 hp n');exact⟨(ha hp).1,fun c=>(ha hp).2 (hS b hb c)⟩
 | @ptr sz els i0 o0 b off rd J hi hs hc hw _ I=>
  have hb:=hM w _ (hw i0 0 hi n');exact .ptr b off rd J hi (fun c=>hs (hS b hb c)) hc (fun i j hi hj=>C.cell hs (hw i j hi hj)) I
def GT.mono{S S':Nat->Prop}{w w':cb}(j:AD S w w')(R:∀b,b<w.heap.size->S' b->S b)(h:GT S w):GT S' w':=by
 intro q J;obtain⟨I,cs,T,fz,h2,U⟩:=h q J
 have hb:q.1<w.heap.size:=by
  rcases h6 q.1 w.heap.size with C |C
  .exact C
  .rw[gk C]at h2;cases h2
 exact⟨fun c=>I (R _ hb c),cs,T,fz,by rw[j.block _ hb I,h2],U⟩
variable{S:Nat->Prop}{w:cb}{v:Value}{a:AV}
def VR.ext{w':cb}(j:AD S w w')(h:VR S w v a):VR S w' v a:=h.mono j fun _ _ c=>c
variable{sz i:Nat}{els:List AV}
def VR.narrow{off:Nat}(h:VR S w v (.ptr sz els i off)):VR S w v (.ptr sz [els.getD i .any] 0 off):=by
 cases h with
 | ptr b o rd I hi hs U hw R=>
  have one:∀{n:Nat},n < [els.getD i .any].length->n=0:=fun h=>by simpa using h
  have:=VR.ptr (S:=S) (w:=w) (sz:=sz) (els:=[els.getD i .any]) (i0:=0) (o0:=off) b (o+i*sz) (fun _ j=>rd i j) I p' hs (fun n C=>by rw[one C];exact U i hi)
   (fun n j C J=>by rw[one C,kc,cI,fu];exact hw i j hi J) (fun n j C J=>by rw[one C];exact R i j hi J)
  rw[kc,cI,fu]at this;exact this
def VR.oneCell(h:VR S w v a)(j:a.atom=bI):v.oneCell'=bI:=by
 cases h<;>first|rfl|(simp[AV.atom]at j)
structure Gh where
 β:Nat->Nat
 cap:Nat->Nat
def Lb(ob:Cx)(k:Nat):Prop:=∃h,AK k ob=bS h
def Mo(g:Gh)(ob:Cx)(k:Nat):Prop:=Lb ob k/\0<g.cap k
def AR(F:Nat->Prop)(g:Gh)(ob:Cx):Nat->Prop:=fun b=>F b\/∃k,Mo g ob k/\g.β k=b
structure Hy(S:Nat->Prop)(w:cb)(b cap sz:Nat)(els:List AV):Prop where
 pos:1<=sz
 len:els.length<=cap
 cells:∀i,i<els.length->(els.getD i .any).cells.length=sz/\(els.getD i .any).atoms=bI
 row:0<cap->∃arr T fz,w.heap[b]? = bS (.cells arr T fz)/\(fz=(0,0)\/(sz=1/\arr.size<=fz.1))/\arr.size=cap*sz /\
  ∀i j,i<els.length->j<sz->VR S w (arr.getD (i*sz+j) cB) ((els.getD i .any).cells.getD j .any)
variable{b cap:Nat}
def Hy.lt(h:Hy S w b cap sz els)(I:0<cap):b<w.heap.size:=by
 obtain⟨arr,T,fz,C,_⟩:=h.row I;rcases h6 b w.heap.size with j |j
 .exact j
 .rw[gk j]at C;cases C
def Hy.mono{S S':Nat->Prop}{w w':cb}{b cap sz:Nat}{els:List AV}(h:Hy S w b cap sz els)(C:AD S w w')
  (hb:0<cap->w'.heap[b]? = w.heap[b]?) (hS:∀b,b<w.heap.size->S' b->S b):Hy S' w' b cap sz els:=by
 refine⟨h.pos,h.len,h.cells,fun I=>?_⟩;obtain⟨arr,T,fz,R,hf,hs,J⟩:=h.row I;exact⟨arr,T,fz,by rw[hb I,R],hf,hs,fun i j hi U=>(J i j hi U).mono C hS⟩
def QX(S:Nat->Prop)(w:cb)(g:Gh)(ob:Cx)(v:Value):AV->Prop
 |.own k=>∃h,AK k ob=bS h/\(v = .slice (bS ⟨g.β k,0,cA⟩) h.els.length (g.cap k)\/(g.cap k=0/\v = .slice cA 0 0))
 |.ref k i off=>∃h,AK k ob=bS h/\i<h.els.length/\v = .pointer (bS ⟨g.β k,i*h.sz+off,cA⟩)
 |a=>VR S w v a
def SR(S:Nat->Prop)(w:cb)(g:Gh)(ob:Cx)(v:Value):AV->Prop
 | .fn f a1 a2=>∃v1 v2,v = .func f v1 v2/\v1.size=a1.length/\v2.size=a2.length /\
   (∀j,j<a1.length->QX S w g ob (v1.getD j cB) (a1.getD j .any))/\(∀j,j<a2.length->QX S w g ob (v2.getD j cB) (a2.getD j .any))
 |.tup C=>∃vs,v = .tuple vs/\vs.size=C.length/\∀j,j<C.length->QX S w g ob (vs.getD j cB) (C.getD j .any)
 |.opt b a=>if b=bI then QX S w g ob v a else v=cB
 |a=>QX S w g ob v a
def AM{α:Type}(b:Bool)(x y:α):(bif b then x else y)=if b=bI then x else y:=by cases b<;>rfl
def BP(k C:Nat)(h:Hm):∀ob:Cx,AK C (DM k h ob)=if k=C then bS h else AK C ob
 |[]=>by simp[DM,AK,AM]
 | p::r=>by
  have R:=BP k C h r
  by_cases I:p.1=k
  .by_cases j:k=C
   .simp[DM,AK,AM,I,j]
   .simp[DM,AK,AM,I,j]
  .by_cases J:k<p.1
   .by_cases j:k=C
    .subst j;simp[DM,AK,AM,I,J]
    .simp[DM,AK,AM,I,J,j]
   .by_cases j:k=C
    .subst j;simp[DM,AK,AM,I,J,R]
    .simp[DM,AK,AM,I,J,R,j]
def FH(k j:Nat):∀ob:Cx,AK j (MU k ob)=if k=j then cA else AK j ob
 |[]=>by simp[MU,AK]
 | p::r=>by
  have C:=FH k j r
  by_cases J:p.1=k
  .by_cases I:k=j
   .subst I;simp[MU,AM,J]at C ⊢;exact C
   .simp[MU,AK,AM,J,I,C]
  .by_cases I:k=j
   .subst I;simp[MU,AK,AM,J,C]
   .simp[MU,AK,AM,J,C,I]
def Ij(d k:Nat):∀ob:Cx,AK k (FL d ob)=if k/32=d then cA else AK k ob
 |[]=>by simp[FL,AK]
 | p::r=>by
  have J:=Ij d k r
  by_cases I:p.1/32=d
  .by_cases C:k/32=d
   .simp[FL,AM,I,C,J]
   .have j:p.1≠k:=fun e=>C (e▸I)
    simp[FL,AK,AM,I,C,J,j]
  .by_cases C:k/32=d
   .have j:p.1≠k:=fun e=>I (e▸C)
    simp[FL,AK,AM,I,C,J,j]
   .simp[FL,AK,AM,I,C,J]
def Qy{d k:Nat}{h:Hm}:∀{ob:Cx},SM d ob=bR->AK k ob=bS h->k/32≠d
 |[],_,j=>by simp[AK]at j
 | p::r,C,j=>by
  simp only[SM,Bool.or_eq_false_iff,beq_eq_false_iff_ne]at C
  by_cases I:p.1=k
  .exact I▸C.1
  .simp only[AK,AM,beq_iff_eq,I,if_false]at j;exact Qy C.2 j
def Tm(g g':Gh)(ob ob':Cx)(k:Nat):Prop :=
 ∀h,AK k ob=bS h->∃j,AK k ob'=bS j/\j.els.length=h.els.length/\j.sz=h.sz/\g'.β k=g.β k/\g'.cap k=g.cap k
def QX.mono{S S':Nat->Prop}{w w':cb}{g g':Gh}{ob ob':Cx}(j:AD S w w')(hS:∀b,b<w.heap.size->S' b->S b){v:Value}{a:AV}
  (hk:∀k,k∈a.key1->Tm g g' ob ob' k) (h:QX S w g ob v a):QX S' w' g' ob' v a:=by
 cases a
 case own k=>
  obtain⟨hm,J,hv⟩:=h;obtain⟨I,C,U,_,R,e4⟩:=hk k (by simp[AV.key1]) hm J;exact⟨I,C,by rw[U,R,e4];exact hv⟩
 case ref k i off=>
  obtain⟨hm,J,hi,rfl⟩:=h;obtain⟨I,C,U,e2,R,_⟩:=hk k (by simp[AV.key1]) hm J;exact⟨I,C,by rw[U];exact hi,by rw[e2,R]⟩
 all_goals exact VR.mono j hS h
def DW{C:List AV}{j:Nat}(I:j<C.length){k:Nat}(J:k∈(C.getD j .any).key1):k∈C.flatMap AV.key1:=by
 refine List.mem_flatMap.2 ⟨C.getD j .any,?_,J⟩;rw[gdE,geE I];exact e' I
def SR.mono{S S':Nat->Prop}{w w':cb}{g g':Gh}{ob ob':Cx}(C:AD S w w')(U:∀b,b<w.heap.size->S' b->S b){v:Value}{a:AV}
  (R:∀k,k∈a.keys->Tm g g' ob ob' k) (h:SR S w g ob v a):SR S' w' g' ob' v a:=by
 cases a
 case fn f a1 a2=>
  obtain⟨v1,v2,rfl,n1,n2,h1,h2⟩:=h;refine⟨v1,v2,rfl,n1,n2,fun j J=>(h1 j J).mono C U fun k I=>R k ?_,fun j J=>(h2 j J).mono C U fun k I=>R k ?_⟩
  .simp only[AV.keys,l1,lv];exact .inl (DW J I)
  .simp only[AV.keys,l1,lv];exact .inr (DW J I)
 case tup ab=>
  obtain⟨vs,rfl,n,h1⟩:=h;exact⟨vs,rfl,n,fun j J=>(h1 j J).mono C U fun k I=>R k (DW J I)⟩
 case opt b a=>
  simp only[SR]at h ⊢;split at h
  .rename_i hb;rw[if_pos hb];exact h.mono C U R
  .rename_i hb;rw[if_neg hb];exact h
 all_goals
  simp only[SR]at h ⊢;refine QX.mono C U (fun k I=>R k ?_) h;first|exact I|(simp[AV.key1]at I)
def SR.any{S:Nat->Prop}{w:cb}{g:Gh}{ob:Cx}{v:Value}:SR S w g ob v .any:=VR.any
structure FR(F:Nat->Prop)(g:Gh)(w:cb)(tmps:Array Value)(vm ss:List Nat)(s:St):Prop where
 home:∀k h,AK k s.ob=bS h->Hy (AR F g s.ob) w (g.β k) (g.cap k) h.sz h.els
 inj:∀k k',Mo g s.ob k->Mo g s.ob k'->g.β k=g.β k'->k=k'
 nF:∀k,Mo g s.ob k->¬ F (g.β k)
 fb:∀b,F b->b<w.heap.size
 vl:s.vs.length=vm.length
 sl:s.st.length=ss.length
 vs:∀i,i<vm.length->SR (AR F g s.ob) w g s.ob (tmps.getD (vm.getD i 0) cB) (s.vs.getD i .any)
 st:∀i,i<ss.length->SR (AR F g s.ob) w g s.ob (tmps.getD (ss.getD i 0) cB) (s.st.getD i .any)
 fit:∀t,t∈vm\/t∈ss->t<tmps.size
 tab:GT (AR F g s.ob) w
def CA(φ:AV->AV)(j:φ .any = .any)(l:List AV)(i:Nat):(l.map φ).getD i .any=φ (l.getD i .any):=by
 rw[gdE,gdE,fm];cases l[i]?<;>simp[j]
def FR.slots{F:Nat->Prop}{g g':Gh}{w w':cb}{tmps:Array Value}{vm ss:List Nat}{s:St}(h:FR F g w tmps vm ss s){ob':Cx}(φ:AV->AV)(C:φ .any = .any)
  (j:AD (AR F g s.ob) w w') (hS:∀b,b<w.heap.size->AR F g' ob' b->AR F g s.ob b)
  (hφ:∀a v,SR (AR F g s.ob) w g s.ob v a->φ a = .any\/(φ a=a/\∀k,k∈a.keys->Tm g g' s.ob ob' k))
  (I:∀k h,AK k ob'=bS h->Hy (AR F g' ob') w' (g'.β k) (g'.cap k) h.sz h.els)
  (J:∀k U,Mo g' ob' k->Mo g' ob' U->g'.β k=g'.β U->k=U) (aa:∀k,Mo g' ob' k->¬ F (g'.β k)) (ok:Bool) :
  FR F g' w' tmps vm ss { vs:=s.vs.map φ,st:=s.st.map φ,ob:=ob',ok:=ok } where
 home:=I
 inj:=J
 nF:=aa
 fb b hb:=hD (h.fb b hb) j.size
 vl:=by simpa using h.vl
 sl:=by simpa using h.sl
 vs i hi:=by
  have R:=h.vs i hi;simp only[CA φ C];rcases hφ _ _ R with e|⟨e,hk⟩
  .rw[e];exact SR.any
  .rw[e];exact R.mono j hS hk
 st i hi:=by
  have R:=h.st i hi;simp only[CA φ C];rcases hφ _ _ R with e|⟨e,hk⟩
  .rw[e];exact SR.any
  .rw[e];exact R.mono j hS hk
 fit:=h.fit
 tab:=h.tab.mono j hS
variable{F:Nat->Prop}{g:Gh}{ob ob':Cx}
def Jc(hs:∀k,Lb ob' k->Lb ob k)(h:AR F g ob' b):AR F g ob b:=by
 rcases h with h|⟨k,j,e⟩
 .exact .inl h
 .exact .inr ⟨k,⟨hs k j.1,j.2⟩,e⟩
def FR.setOk{F:Nat->Prop}{g:Gh}{w:cb}{tmps:Array Value}{vm ss:List Nat}{s:St}(h:FR F g w tmps vm ss s)(ok:Bool):FR F g w tmps vm ss { s with ok:=ok } :=
 ⟨h.home,h.inj,h.nF,h.fb,h.vl,h.sl,h.vs,h.st,h.fit,h.tab⟩
def FR.grow{F:Nat->Prop}{g:Gh}{w w':cb}{tmps:Array Value}{vm ss:List Nat}{s:St}(h:FR F g w tmps vm ss s)(I:AD C' w w'):FR F g w' tmps vm ss s:=by
 have j:AD (AR F g s.ob) w w':=I.mono fun _ _ c=>c.elim
 exact⟨fun k hm C=>(h.home k hm C).mono j (fun J=>I.block _ ((h.home k hm C).lt J) (fun c=>c)) fun _ _ c=>c,h.inj,h.nF,fun b hb=>hD (h.fb b hb) I.size,h.vl,h.sl,
  fun i hi=>(h.vs i hi).mono j (fun _ _ c=>c) fun k _ hm C=>⟨hm,C,rfl,rfl,rfl,rfl⟩,
  fun i hi=>(h.st i hi).mono j (fun _ _ c=>c) fun k _ hm C=>⟨hm,C,rfl,rfl,rfl,rfl⟩,h.fit,h.tab.mono j (fun _ _ c=>c)⟩
variable{tmps:Array Value}{vm ss:List Nat}{s:St}
def FR.forget(h:FR F g w tmps vm ss s)(φ:AV->AV)(J:φ .any = .any)
  (C:∀k hm,AK k ob'=bS hm->AK k s.ob=bS hm)
  (hφ:∀a,φ a = .any\/(φ a=a/\∀k,k∈a.keys->∀hm,AK k s.ob=bS hm->AK k ob'=bS hm)) (ok:Bool) :
  FR F g w tmps vm ss { vs:=s.vs.map φ,st:=s.st.map φ,ob:=ob',ok:=ok }:=by
 have j:∀k,Lb ob' k->Lb s.ob k:=fun k ⟨hm,I⟩=>⟨hm,C k hm I⟩
 refine h.slots φ J (AD.refl _ _) (fun b _ c=>Jc j c) (fun a v _=>?_) (fun k hm I=>?_) (fun k U a b=>h.inj k U ⟨j k a.1,a.2⟩ ⟨j U b.1,b.2⟩) (fun k a=>h.nF k ⟨j k a.1,a.2⟩) ok
 .rcases hφ a with e|⟨e,I⟩
  .exact .inl e
  .exact .inr ⟨e,fun k R hm hg=>⟨hm,I k R hm hg,rfl,rfl,rfl,rfl⟩⟩
 .exact(h.home k hm (C k hm I)).mono (AD.refl _ _) (fun _=>rfl) fun b _ c=>Jc j c
variable{k:Nat}
def Od:a.names k=bI ↔ k∈a.keys:=by
 simp[AV.names]
def FR.clear{F:Nat->Prop}{g:Gh}{w:cb}{tmps:Array Value}{vm ss:List Nat}{s:St}(h:FR F g w tmps vm ss s)(d:Nat):FR F g w tmps vm ss (clear s d):=by
 unfold Go.Proofs.YtegmpdmpgmpiaaaGreatDoor.clear;rw[AM];split
 .refine h.forget (bm d) (by simp[bm,AV.keys]) (fun k hm j=>?_) (fun a=>?_) s.ok
  .rw[Ij]at j;split at j
   .cases j
   .exact j
  .by_cases C:a.keys.any (fun k=>k/32==d)=bI
   .exact .inl (by simp only[bm,AM];rw[if_pos C])
   .refine .inr ⟨by simp only[bm,AM];rw[if_neg C],fun k j hm I=>?_⟩;rw[Ij,if_neg (fun e=>C (List.any_eq_true.2 ⟨k,j,by simp[e]⟩))];exact I
 .exact h
variable{d:Nat}
def rm(h:FR F g w tmps vm ss s)(j:k/32=d):¬ Lb (clear s d).ob k:=by
 intro⟨hm,hg⟩;unfold Go.Proofs.YtegmpdmpgmpiaaaGreatDoor.clear at hg;rw[AM]at hg;split at hg
 .simp[Ij,j]at hg
 .rename_i C;exact Qy (by simpa using C) hg j
def FR.add(h:FR F g w tmps vm ss s){hm:Hm}(hk:¬ Lb s.ob k)
  (hb:0<cap->∀c,AR F g s.ob c->c≠b)
  (ax:∀S:Nat->Prop,(∀c,S c->AR F g s.ob c\/c=b)->Hy S w b cap hm.sz hm.els)
  (au:∀k' h',AK k' s.ob=bS h'->Hy (fun c=>AR F g s.ob c\/c=b) w (g.β k') (g.cap k') h'.sz h'.els)
  (a8:∀i,i<vm.length->SR (fun c=>AR F g s.ob c\/c=b) w g s.ob (tmps.getD (vm.getD i 0) cB) (s.vs.getD i .any))
  (ba:∀i,i<ss.length->SR (fun c=>AR F g s.ob c\/c=b) w g s.ob (tmps.getD (ss.getD i 0) cB) (s.st.getD i .any)) (ao:GT (fun c=>AR F g s.ob c\/c=b) w) :
  FR F ⟨fun j=>if j=k then b else g.β j,fun j=>if j=k then cap else g.cap j⟩ w tmps vm ss { s with ob:=DM k hm s.ob }:=by
 have hβ:∀j,Lb s.ob j->j≠k:=fun j hj e=>hk (e▸hj)
 have hS:∀c,AR F ⟨fun j=>if j=k then b else g.β j,fun j=>if j=k then cap else g.cap j⟩ (DM k hm s.ob) c->AR F g s.ob c\/c=b:=by
  intro c hc;rcases hc with hc|⟨j,⟨⟨hj,J⟩,be⟩,e⟩
  .exact .inl (.inl hc)
  .rw[BP]at J
   by_cases C:k=j
   .subst C;exact .inr (by simpa using e.symm)
   .rw[if_neg C]at J;exact .inl (.inr ⟨j,⟨⟨hj,J⟩,by simpa[gb C]using be⟩,by simpa[gb C]using e⟩)
 have ab:∀j,Tm g ⟨fun j=>if j=k then b else g.β j,fun j=>if j=k then cap else g.cap j⟩ s.ob (DM k hm s.ob) j:=by
  intro j h' J;have ae:=hβ j ⟨h',J⟩;exact⟨h',by rw[BP,if_neg (gb ae)];exact J,rfl,rfl,by simp[ae],by simp[ae]⟩
 refine⟨fun j h' J=>?_,fun j j' hj bb e=>?_,fun j hj=>?_,h.fb,h.vl,h.sl,fun i hi=>?_,fun i hi=>?_,h.fit,ao.mono (AD.refl _ _) fun c _ hc=>hS c hc⟩
 .simp only[BP]at J
  by_cases C:k=j
  .subst C;simp only[if_true,ev]at J ⊢;subst J;exact ax _ hS
  .rw[if_neg C]at J;simp only[if_neg (gb C)];exact(au j h' J).mono (AD.refl _ _) (fun _=>rfl) fun c _ hc=>hS c hc
 .obtain⟨⟨h1,I⟩,R⟩:=hj;obtain⟨⟨h2,U⟩,p2⟩:=bb;simp only[BP]at I U
  by_cases a1:j=k
  .by_cases a2:j'=k
   .rw[a1,a2]
   .rw[if_neg (gb a2)]at U;simp only[a1,a2,if_true,if_false]at e R p2;exact absurd e.symm (hb R _ (.inr ⟨j',⟨⟨h2,U⟩,p2⟩,rfl⟩))
  .rw[if_neg (gb a1)]at I
   by_cases a2:j'=k
   .simp only[a1,a2,if_true,if_false]at e R p2;exact absurd e (hb p2 _ (.inr ⟨j,⟨⟨h1,I⟩,R⟩,rfl⟩))
   .rw[if_neg (gb a2)]at U;simp only[a1,a2,if_false]at e R p2;exact h.inj j j' ⟨⟨h1,I⟩,R⟩ ⟨⟨h2,U⟩,p2⟩ e
 .obtain⟨⟨h1,I⟩,R⟩:=hj;simp only[BP]at I
  by_cases a1:j=k
  .simp only[a1,if_true]at R ⊢;exact fun hf=>hb R _ (.inl hf) rfl
  .rw[if_neg (gb a1)]at I;simp only[a1,if_false]at R ⊢;exact h.nF j ⟨⟨h1,I⟩,R⟩
 .exact(a8 i hi).mono (AD.refl _ _) (fun c _ hc=>hS c hc) fun j _=>ab j
 .exact(ba i hi).mono (AD.refl _ _) (fun c _ hc=>hS c hc) fun j _=>ab j
def Fb(vm ss:List Nat):Option Nat->Kc->Option (List Nat)
 |none,.no=>bS ss
 |some d,.push=>if d∈vm\/d∈ss then cA else bS (d::ss)
 |some d,.var n=>if vm[n]? = bS d/\d ∉ ss/\d ∉ vm.eraseIdx n then bS ss else cA
 |some d,.slot n=>if ss[n]? = bS d/\d ∉ vm/\ss.Nodup then bS ss else cA
 |_,_=>cA
def RR(_:List Nat):Prop:=True
def YW{n:Nat}(C:vm[n]? = bS d)(hd:d ∉ vm.eraseIdx n)(hi:i<vm.length)(j:¬ n=i):d≠vm.getD i 0:=by
 intro e;refine hd ?_;rw[List.mem_eraseIdx_iff_getElem];exact⟨i,hi,fun c=>j c.symm,by rw[e,gdE,geE hi];rfl⟩
def Jo(tmps:Array Value)(dst:Option Nat)(v:Value):Array Value :=
 match dst with
 |some d=>tmps.setIfInBounds d v
 |none=>tmps
def Ez{t:Nat}(h:d≠t):(tmps.setIfInBounds d v).getD t cB=tmps.getD t cB:=by
 simp[agD,Array.getElem?_setIfInBounds_ne h]
def Kr(h:d<tmps.size):(tmps.setIfInBounds d v).getD d cB=v:=by
 simp[agD,h]
def FR.put{F:Nat->Prop}{g:Gh}{w:cb}{tmps:Array Value}{vm ss ss':List Nat}{s:St}(h:FR F g w tmps vm ss s)(a1:RR vm){dst:Option Nat}{D:Kc}(hd:Fb vm ss dst D=bS ss')
  (au:∀d,dst=bS d->d<tmps.size) {v:Value} {a:AV} (c:Bool) (hv:dst≠cA->SR (AR F g s.ob) w g s.ob v a):FR F g w (Jo tmps dst v) vm ss' (BH s c a D):=by
 cases dst with
 | none=>
  cases D<;>simp[Fb]at hd
  subst hd;exact h.setOk _
 | some d=>
  have aa:=au d rfl;have ad:=hv p';cases D with
  |no=>simp[Fb]at hd
  | push=>
   simp only[Fb]at hd;split at hd
   .cases hd
   rename_i hn;simp only[ev]at hd;subst hd;have C:d ∉ vm:=fun c=>hn (.inl c)
   have R:d ∉ ss:=fun c=>hn (.inr c)
   refine⟨h.home,h.inj,h.nF,h.fb,h.vl,by simpa[BH]using h.sl,fun i hi=>?_,fun i hi=>?_,fun t J=>?_,h.tab⟩
   .have j:d≠vm.getD i 0:=fun e=>C (by rw[e,gdE,geE hi];exact e' hi)
    simp only[Jo,Ez j];exact h.vs i hi
   .cases i with
    |zero=>simp only[Jo,BH,eL,Kr aa];exact ad
    | succ i=>
     have ae:i<ss.length:=by simpa using hi
     have j:d≠ss.getD i 0:=fun e=>R (by rw[e,gdE,geE ae];exact e' ae)
     simp only[Jo,BH,h4,Ez j];exact h.st i ae
   .simp only[Jo,ga];rcases J with J|J
    .exact h.fit t (.inl J)
    .rcases List.mem_cons.1 J with e|J
     .exact e▸aa
     .exact h.fit t (.inr J)
  | slot n=>
   simp only[Fb]at hd;split at hd
   .rename_i hn;simp only[ev]at hd;subst hd;obtain⟨C,R,ax⟩:=hn
    have U:n<ss.length:=by
     rcases h6 n ss.length with h' |h'
     .exact h'
     .rw[fa h']at C;cases C
    have ab:ss.getD n 0=d:=by rw[gdE,C];rfl
    refine⟨h.home,h.inj,h.nF,h.fb,h.vl,by simpa[BH]using h.sl,fun i hi=>?_,fun i hi=>?_,fun t J=>?_,h.tab⟩
    .have j:d≠vm.getD i 0:=fun e=>R (by rw[e,gdE,geE hi];exact e' hi)
     simp only[Jo,Ez j];exact h.vs i hi
    .by_cases I:n=i
     .subst I
      have:(s.st.set n a).getD n .any=a:=by
       rw[gdE,hR (by rw[h.sl];exact U)];rfl
      simp only[Jo,BH,ab,Kr aa,this];exact ad
     .have j:d≠ss.getD i 0:=by
       intro e;have h1:ss[n]? = ss[i]?:=by rw[C,e,gdE,geE hi];rfl
       exact I ((List.getElem?_inj U ax).1 h1)
      have:(s.st.set n a).getD i .any=s.st.getD i .any:=by
       rw[gdE,iB I,gdE]
      simp only[Jo,BH,Ez j,this];exact h.st i hi
    .simp only[Jo,ga];exact h.fit t J
   .cases hd
  | var n=>
   simp only[Fb]at hd;split at hd
   .rename_i hn;simp only[ev]at hd;subst hd;obtain⟨C,R,ay⟩:=hn
    have U:n<vm.length:=by
     rcases h6 n vm.length with h' |h'
     .exact h'
     .rw[fa h']at C;cases C
    have ab:vm.getD n 0=d:=by rw[gdE,C];rfl
    refine⟨h.home,h.inj,h.nF,h.fb,by simpa[BH]using h.vl,h.sl,fun i hi=>?_,fun i hi=>?_,fun t J=>?_,h.tab⟩
    .by_cases I:n=i
     .subst I
      have:(s.vs.set n a).getD n .any=a:=by
       rw[gdE,hR (by rw[h.vl];exact U)];rfl
      simp only[Jo,BH,ab,Kr aa,this];exact ad
     .have j:d≠vm.getD i 0:=YW C ay hi I
      have:(s.vs.set n a).getD i .any=s.vs.getD i .any:=by
       rw[gdE,iB I,gdE]
      simp only[Jo,BH,Ez j,this];exact h.vs i hi
    .have j:d≠ss.getD i 0:=fun e=>R (by rw[e,gdE,geE hi];exact e' hi)
     simp only[Jo,Ez j];exact h.st i hi
    .simp only[Jo,ga];exact h.fit t J
   .cases hd
open Go Go.RowKit
def ANz(k:fI)(n:Int):Value->Bool
 |.int j m=>j==k&&m==n
 |_=>bR
def AGq(b:Bool):Value->Bool
 |.bool a=>a==b
 |_=>bR
def ANy(l:L8):Value->Bool
 |.string s=>s.data.toList==l
 |_=>bR
def ADz:Value->Bool
 |.slice a l c=>a.isNone&&(l==0&&c==0)
 |_=>bR
def KR:Value->Nat
 |.pointer cA=>1
 |.nilFunc=>2
 |.nilIface=>3
 |.tuple vs=>if vs.size=0 then 4 else 0
 |_=>0
def oz(v:Value):AV->Bool
 |.int k n=>ANz k n v
 |.bool b=>AGq b v
 |.str l=>ANy l v
 |.nilsl=>ADz v
 |.sl sz els=>ADz v&&(els.isEmpty&&cS (1<=sz))
 |.cv u=>KR v==KR u && !(KR v==0)
 |.any=>bI
 |_=>bR
def Yn:List Value->List AV->Bool
 |[],[]=>bI
 |v::vs,a::j=>oz v a&&(a.atom&&Yn vs j)
 |_,_=>bR
def yx:Value->List Value
 |.agg cs=>cs.toList
 |v=>[v]
def AOA:Value->Bool
 |.agg _=>bI
 |_=>bR
def eqv(v:Value):AV->Bool
 |.agg j=>AOA v&&Yn (yx v) j
 |.int k n=>oz v (.int k n)
 |.bool b=>oz v (.bool b)
 |.str l=>oz v (.str l)
 |.nilsl=>oz v .nilsl
 |.sl sz els=>oz v (.sl sz els)
 |.cv u=>oz v (.cv u)
 |.any=>bI
 |_=>bR
def Bb(vm ss:List Nat):gn->Src->Bool
 |.tmp t,.v n=>vm[n]? == bS t
 |.tmp t,.s n=>ss[n]? == bS t
 |.const v,.c a=>eqv v a
 |.func f,.c (.fn (.func g) [] [])=>f==g
 |_,_=>bR
def bQ:∀(vs:List Value) (j:List AV),Yn vs j=bI->vs.length=j.length
 |[],[],_=>rfl
 |[],_::_,h=>by simp[Yn]at h
 |_::_,[],h=>by simp[Yn]at h
 | v::vs,a::j,h=>by
  simp only[Yn,baT]at h;simp[bQ vs j h.2.2]
def SZ:∀(vs:List Value) (C:List AV) (j:Nat),Yn vs C=bI->j<C.length->oz (vs.getD j cB) (C.getD j .any)=bI/\(C.getD j .any).atom=bI
 |[],[],j,_,I=>by simp at I
 |[],_::_,_,h,_=>by simp[Yn]at h
 |_::_,[],_,h,_=>by simp[Yn]at h
 |v::vs,a::C,0,h,_=>by simp only[Yn,baT]at h;exact⟨h.1,h.2.1⟩
 | v::vs,a::C,j+1,h,I=>by
  simp only[Yn,baT]at h;simpa using SZ vs C j h.2.2 (by simpa using I)
def FK(cs:Array Value)(j:Nat):cs.toList.getD j cB=cs.getD j cB:=by
 simp[gdE,agD]
def wD{u:Value}(h:KR v=KR u)(R:KR v≠0):v=u:=by
 have key:∀x:Value,(KR x=1->x = .pointer cA)/\(KR x=2->x = .nilFunc)/\(KR x=3->x = .nilIface)/\(KR x=4->x = .tuple #[])/\KR x<=4:=by
  intro x;cases x
  case pointer p=>cases p<;>simp[KR]
  case tuple vs=>
   simp only[KR]
   by_cases hs:vs.size=0
   .have:vs = #[]:=j4 hs;subst this;simp
   .simp[hs]
  all_goals simp[KR]
 obtain⟨a1,a2,a3,a4,a5⟩:=key v;obtain⟨J,I,C,j,U⟩:=key u;have:KR v=1\/KR v=2\/KR v=3\/KR v=4:=n'
 rcases this with e|e|e|e
 .rw[a1 e,J (h▸e)]
 .rw[a2 e,I (h▸e)]
 .rw[a3 e,C (h▸e)]
 .rw[a4 e,j (h▸e)]
def rY(h:oz v a=bI):VR S w v a:=by
 cases a<;>simp only[oz]at h<;>try(cases h;done)
 case any=>exact .any
 case int k n=>
  cases v<;>simp[ANz]at h
  obtain⟨rfl,rfl⟩:=h;exact .int
 case bool b=>cases v<;>simp[AGq]at h;subst h;exact .bool
 case str l=>
  cases v<;>simp[ANy]at h
  rename_i s;subst h;have:s=⟨s.data.toList.toArray⟩:=by cases s;simp
  rw[this];exact .str
 case nilsl=>
  cases v<;>simp[ADz]at h
  obtain⟨rfl,rfl,rfl⟩:=h;exact .nilsl
 case sl sz els=>
  cases v<;>simp[ADz]at h
  obtain⟨⟨rfl,rfl,rfl⟩,C,h2⟩:=h;subst C;exact .sl 0 0 (fun _ _=>cB) rfl (dU _) h2 (fun c=>by simp at c) (fun i hi=>by simp at hi) (fun i j hi=>by simp at hi) (fun i j hi=>by simp at hi)
 case cv u=>
  simp only[baT,beq_iff_eq,hI,beq_eq_false_iff_ne]at h;rw[wD h.1 h.2];exact .cv
def ko{S:Nat->Prop}{w:cb}{v:Value}{a:AV}(h:eqv v a=bI):VR S w v a:=by
 cases a<;>simp only[eqv]at h<;>try(cases h;done)
 case agg J=>
  simp only[baT]at h;obtain⟨I,h⟩:=h;cases v<;>simp[AOA]at I
  rename_i cs;simp only[yx]at h;refine .agg (by simpa using bQ _ _ h) (fun j C=>(SZ _ _ j h C).2) fun j C=>?_
  have:=SZ _ _ j h C;rw[←FK];exact rY this.1
 case any=>exact .any
 all_goals exact rY h
def VR.toSR(h:VR S w v a):SR S w g ob v a:=by
 have one:∀{v a},VR S w v a->QX S w g ob v a:=by
  intro v a h;cases a<;>first|exact h|(cases h)
 cases a
 case fn f a1 a2=>cases h with|fn n1 n2 I h2=>exact⟨_,_,rfl,n1,n2,fun j C=>one (I j C),fun j C=>one (h2 j C)⟩
 case tup J=>cases h with|tup n I=>exact⟨_,rfl,n,fun j C=>one (I j C)⟩
 case opt b a'=>cases h
 all_goals first|exact h|cases h
def QX.toSR(h:QX S w g ob v a):SR S w g ob v a:=by
 cases a
 case own=>exact h
 case ref=>exact h
 all_goals exact VR.toSR h
def FR.src{F:Nat->Prop}{g:Gh}{w:cb}{tmps:Array Value}{ds:List hZ}{vm ss:List Nat}{s:St}(h:FR F g w tmps vm ss s){x:gn}{y:Src}(C:Bb vm ss x y=bI):
  SR (AR F g s.ob) w g s.ob ((D' tmps ds).eval x) (rd s y):=by
 cases x
 case tmp t=>
  cases y
  case v n=>
   simp only[Bb,beq_iff_eq]at C
   have J:n<vm.length:=by
    rcases h6 n vm.length with I |I
    .exact I
    .rw[fa I]at C;cases C
   have:=h.vs n J;rw[gdE (l:=vm),C]at this;exact this
  case s n=>
   simp only[Bb,beq_iff_eq]at C
   have J:n<ss.length:=by
    rcases h6 n ss.length with I |I
    .exact I
    .rw[fa I]at C;cases C
   have:=h.st n J;rw[gdE (l:=ss),C]at this;exact this
  case c a=>simp[Bb]at C
 case const v=>
  cases y<;>simp only[Bb]at C<;>try(cases C;done)
  exact(ko C).toSR
 case func f=>
  cases y<;>try(simp[Bb]at C;done)
  rename_i a;cases a<;>try(simp[Bb]at C;done)
  rename_i fn a1 a2;cases fn<;>try(simp[Bb]at C;done)
  cases a1<;>cases a2<;>simp[Bb]at C
  subst C;exact⟨#[],#[],rfl,rfl,rfl,fun j R=>by simp at R,fun j R=>by simp at R⟩
 case global g=>cases y<;>simp[Bb]at C
def BM(S:Nat->Prop)(w:cb)(g:Gh)(ob:Cx)(key:Nat)(m:Mk)(r:Result Next):Prop :=
 ∃ v w',r = .ok (.value v) w'/\AD C' w w' /\
  ((m.hs=[]/\SR S w' g ob v m.v) \/
   ∃k h b cap,m.hs=[(k,h)]/\(k/32=key/\k%32≠31)/\w.heap.size<=b/\(∀S':Nat->Prop,(∀c,S' c->S c\/c=b)->Hy S' w' b cap h.sz h.els) /\
   ((m.v = .own k/\(v = .slice (bS ⟨b,0,cA⟩) h.els.length cap\/(cap=0/\v = .slice cA 0 0)))\/(m.v = .ref k 0 0/\0<h.els.length/\v = .pointer (bS ⟨b,0,cA⟩))))
def BM.val{S:Nat->Prop}{w:cb}{g:Gh}{ob:Cx}{key:Nat}{m:Mk}{r:Result Next}{v:Value}(j:r = .ok (.value v) w)(C:m.hs=[])(h:SR S w g ob v m.v):BM S w g ob key m r :=
 ⟨v,w,j,AD.refl _ _,.inl ⟨C,h⟩⟩
def fk(h:v.oneCell'=bI):v.cells = #[v]:=by cases v<;>first|rfl|(simp[Value.oneCell']at h)
def It{a:AV}(h:a.atoms=bI){j:Nat}(C:j<a.cells.length):(a.cells.getD j .any).atom=bI:=by
 simp only[AV.atoms,ew]at h;refine h _ ?_;rw[gdE,geE C];exact e' C
def Xp(h:a.isAgg=bR):a.cells=[a]:=by cases a<;>first|rfl|(simp[AV.isAgg]at h)
def VR.cells{S:Nat->Prop}{w:cb}{v:Value}{a:AV}(h:VR S w v a)(ha:a.atoms=bI):
  v.cells.size=a.cells.length/\∀j,j<a.cells.length->VR S w (v.cells.getD j cB) (a.cells.getD j .any):=by
 by_cases R:a.isAgg=bI
 .cases a<;>simp[AV.isAgg]at R
  cases h with|agg U _ h1=>exact⟨U,h1⟩
 .have C:a.isAgg=bR:=by simpa using R
  have I:=Xp C;have J:a.atom=bI:=by have:=It ha (j:=0) (by simp[I]);simpa[I]using this
  rw[fk (h.oneCell J),I];refine⟨rfl,fun j hj=>?_⟩;have:j=0:=by simpa using hj
  subst this;exact h
def SR.atoms(h:SR S w g ob v a)(ha:a.atoms=bI):VR S w v a:=by
 cases a
 case fn f a1 a2=>
  obtain⟨v1,v2,rfl,n1,n2,h1,h2⟩:=h;have J:(AV.fn f a1 a2).atom=bI:=by simpa[AV.atoms,AV.cells]using ha
  simp only[AV.atom,l',baT,ew,List.isEmpty_iff]at J
  have one:∀{u:Value} {I:List AV} {j:Nat},j<I.length->(∀x,x∈I->x.key1=[])->QX S w g ob u (I.getD j .any)->VR S w u (I.getD j .any):=by
   intro u I j C R hs;have hm:I.getD j .any∈I:=by rw[gdE,geE C];exact e' C
   have U:=R _ hm;revert hs U;generalize I.getD j .any=x;intro hs U;cases x<;>first|exact hs|(simp[AV.key1]at U)
  exact .fn n1 n2 (fun j C=>one C J.1 (h1 j C)) (fun j C=>one C J.2 (h2 j C))
 all_goals first|exact h|(simp[AV.atoms,AV.cells,AV.atom]at ha)
def ABE{S':Nat->Prop}(h:VR S w v a)(I:a.atoms=bI)(J:1<=a.cells.length)(t:dx)(U:∀c,S' c->S c\/c=w.heap.size):
  Hy S' (w.alloc (.cells v.cells t)) w.heap.size 1 a.cells.length [a]:=by
 have C:=h.cells I;refine⟨J,p',fun i hi=>?_,fun _=>⟨v.cells,t,(0,0),hK _ _,.inl rfl,by simp[C.1],fun i j hi R=>?_⟩⟩
 .have:i=0:=by simpa using hi
  subst this;exact⟨rfl,I⟩
 .have:i=0:=by simpa using hi
  subst this;simp only[kc,cI,eL];refine(C.2 j R).mono (AD.alloc _ _ _) fun b hb C=>?_
  rcases U b C with e|e
  .exact e
  .omega
def iA{S:Nat->Prop}{w:cb}{g:Gh}{ob:Cx}{key:Nat}{P:b'}{t:dx}{v:Value}{a:AV}(h:VR S w v a)(j:(Yo (Bn key) a).ok=bI){r:Result Next}
  (C:r = .ok (.value (.pointer (bS ⟨w.heap.size,0,cA⟩))) (w.alloc (.cells v.cells t))):BM S w g ob key (Yo (Bn key) a) r:=by
 simp only[Yo,baT,dtE]at j;exact⟨_,_,C,AD.alloc _ _ _,.inr ⟨_,_,w.heap.size,1,rfl,by simp[Bn],dU _,fun S' I=>ABE h j.2 j.1 t I,.inr ⟨rfl,p',rfl⟩⟩⟩
section
variable {S:Nat->Prop}{w:cb}{g:Gh}{ob:Cx}{v:Value}
def Qc{k:fI}{n:Int}(h:SR S w g ob v (.int k n)):v = .int k n:=by simp only[SR,QX]at h;cases h;rfl
def PC{b:Bool}(h:SR S w g ob v (.bool b)):v = .bool b:=by simp only[SR,QX]at h;cases h;rfl
def Tz{l:L8}(h:SR S w g ob v (.str l)):v = .string ⟨l.toArray⟩:=by simp only[SR,QX]at h;cases h;rfl
def UA(h:SR S w g ob v .nilsl):v = .slice cA 0 0:=by simp only[SR,QX]at h;cases h;rfl
def Zk{a:AV}(h:SR S w g ob v a)(hi:0<=fL a):∃k,v = .int k (fL a):=by
 cases a<;>simp[fL]at hi ⊢
 exact⟨_,Qc h⟩
end
def pj(P:b')(t:dx):Option Bool :=
 match P.underlying t with
 |some (.struct _)=>bS bI
 |some (.array _ _)=>bS bI
 |some _=>bS bR
 |none=>cA
def Wq(P:b')(t:dx):Option Nat:=(P.info? t).map (·.size)
def byT(P:b')(t:dx):Option Nat:=(P.info? t).map (·.bytes)
def tx(P:b')(t:dx):Option Value:=(P.info? t).bind (·.zero)
section
variable {P:b'}{w:cb}{t:dx}
def Pu{b:Bool}(h:pj P t=bS b):(isAgg t).run P w = .ok b w:=by
 unfold pj at h;unfold isAgg;split at h<;>(try(cases h;done))<;>rename_i hu<;>simp only[ev]at h<;>subst h
 .rw[ed,bN hu w];rfl
 .rw[ed,bN hu w];rfl
 .rename_i d j h2;rw[ed,bN hu w];cases d<;>first|rfl|(exact absurd rfl (j _))|(exact absurd rfl (h2 _ _))
def VN{i:TypeInfo}(h:P.info? t=bS i):(me t).run P w = .ok i w:=by simp[me,h]
variable{n:Nat}
def GA(h:Wq P t=bS n):(sizeOf t).run P w = .ok n w:=by
 unfold Wq at h;cases hi:P.info? t with
 |none=>rw[hi]at h;cases h
 | some i=>
  rw[hi]at h;simp only[j5,ev]at h;simp[sizeOf,me,hi,h]
def Sw{z:Value}(h:tx P t=bS z):(zeroValue t).run P w = .ok z w:=by
 unfold tx at h;cases hi:P.info? t with
 |none=>rw[hi]at h;cases h
 | some i=>
  rw[hi]at h;simp only[obS]at h;simp[zeroValue,me,hi,h]
def pe(h:byT P t=bS n):∃i,P.info? t=bS i/\i.bytes=n:=by
 unfold byT at h;cases hi:P.info? t with
 |none=>rw[hi]at h;cases h
 |some i=>rw[hi]at h;exact⟨i,rfl,by simpa using h⟩
end
def WN{cs:Array Value}{j:Nat}(h:j<cs.size):∃u,cs[j]? = bS u/\cs.getD j cB=u :=
 ⟨cs[j],et h,by rw[agD,et h];rfl⟩
def yZ{l:L8}{i:Nat}(h:i<l.length):(⟨l.toArray⟩:ByteArray)[i]? = bS (l.getD i 0):=by
 have j:i<(⟨l.toArray⟩:ByteArray).size:=by simpa[ByteArray.size]using h
 rw[getElem?_pos (⟨l.toArray⟩:ByteArray) i j,gdE,geE h];rfl
def Ic(b o n:Nat):(⟨b,o,cA⟩:Addr).add n=⟨b,o+n,cA⟩:=by unfold Addr.add;split<;>simp_all
def tc{S:Nat->Prop}{w:cb}{P:b'}{t:dx}{agg:Bool}{sz off b base:Nat}{el:AV}{r:Nat->Value}(U:pj P t=bS agg)(ad:Wq P t=bS sz)
  (aa:el.atoms=bI) (hw:∀j,j<el.cells.length->w.cell? ⟨b,base+j,cA⟩=bS (r j)) (hr:∀j,j<el.cells.length->VR S w (r j) (el.cells.getD j .any)) (C:(part agg sz off el).ok=bI) :
  ∃v,(n7 t ⟨b,base+off,cA⟩).run P w = .ok v w/\VR S w v (part agg sz off el).v:=by
 cases agg with
 | false=>
  simp only[part,dtE]at C ⊢;exact⟨r off,by simp[n7,Pu U,hw off C],hr off C⟩
 | true=>
  simp only[part,baT,dtE]at C ⊢;obtain⟨J,hle⟩:=C
  have hl:=j7 (P:=P) w ⟨b,base+off,cA⟩ sz (fun j=>r (off+j)) (fun j I=>by
   rw[Ic,fu];exact hw (off+j) n')
  refine⟨_,by simp[n7,Pu U,GA ad,hl];rfl,?_⟩
  have R:∀j,j<sz->(((k5 sz).map fun j=>r (off+j)).toArray).getD j cB=r (off+j):=by
   intro j I;simp[agD,I]
  rw[AM];split
  .rename_i he;simp only[baT,beq_iff_eq]at he;obtain⟨h0,h1⟩:=he;subst h0;cases el<;>simp[AV.isAgg]at J
   rename_i cs;simp only[AV.cells]at h1 hr;refine .agg (by simp[h1]) (fun j I=>by simpa[AV.cells]using It aa (j:=j) (by simpa[AV.cells]using I)) fun j I=>?_
   rw[R j n',cI];exact hr j I
  .have hd:∀j,j<sz->((el.cells.drop off).take sz).getD j .any=el.cells.getD (off+j) .any:=by
    intro j I;simp[gdE,h9,j0,I]
   have hlen:((el.cells.drop off).take sz).length=sz:=t'
   refine .agg (by simp[hlen]) (fun j I=>?_) fun j I=>?_
   .rw[hd j n'];exact It aa n'
   .rw[hd j n',R j n'];exact hr _ n'
def AMd(vm ss:List Nat)(x:Src):Op->Bool
 |.move y=>Bb vm ss y x
 |.assign y=>Bb vm ss y x
 |_=>bR
def ADL(P:b')(vm ss:List Nat)(agg:Bool)(sz:Nat)(x:Src):Op->Bool
 |.load t y=>Bb vm ss y x&&(pj P t==bS agg&&Wq P t==bS sz)
 |_=>bR
def sG(vm ss:List Nat)(x:Src):Op->Bool
 |.nilCheck y=>Bb vm ss y x
 |_=>bR
def tL(P:b')(t:dx):Option TypeId :=
 match P.underlying t with
 |some (.slice e)=>bS e
 |_=>cA
def mw(P:b')(t:dx):Bool :=
 match P.underlying t with
 |some .string=>bI
 |_=>bR
def rL(P:b')(t:dx):Option IntKind :=
 match P.underlying t with
 |some (.int k)=>bS k
 |_=>cA
variable{P:b'}{t:dx}
def PW{e:dx}(h:tL P t=bS e):P.underlying t=bS (.slice e):=by
 unfold tL at h;split at h
 .rename_i hu;simp only[ev]at h;rw[hu,h]
 .cases h
def Uz(h:mw P t=bI):P.underlying t=bS .string:=by
 unfold mw at h;split at h
 .assumption
 .cases h
def ZN{k:fI}(h:rL P t=bS k):P.underlying t=bS (.int k):=by
 unfold rL at h;split at h
 .rename_i hu;simp only[ev]at h;rw[hu,h]
 .cases h
def lH(P:b')(vm ss:List Nat)(sz:Nat)(x i:Src):Op->Bool
 | .indexAddr t y j=>Bb vm ss y x&&(Bb vm ss j i&&(match tL P t with
  |some e=>Wq P e==bS sz
  |none=>bR))
 |_=>bR
def sH(P:b')(vm ss:List Nat)(x i:Src):Op->Bool
 |.index t y j=>Bb vm ss y x&&(Bb vm ss j i&&mw P t)
 |_=>bR
def TJ(P:b')(t:dx)(f:Nat):Option Field :=
 match P.underlying t with
 |some (.struct j)=>j[f]?
 |_=>cA
def bP{f:Nat}{x:n9}(h:TJ P t f=bS x):∃j,P.underlying t=bS (.struct j)/\j[f]? = bS x:=by
 unfold TJ at h;split at h
 .rename_i j hu;exact⟨j,hu,h⟩
 .cases h
def bw(P:b')(vm ss:List Nat)(off:Nat)(x:Src):Op->Bool
 | .fieldAddr t y f=>Bb vm ss y x&&(match TJ P t f with
  |some fd=>fd.offset==off&&(match Wq P fd.type with|some n=>!(n==0)|none=>bR)
  |none=>bR)
 |_=>bR
def AMf(P:b')(vm ss:List Nat)(agg:Bool)(off sz:Nat)(x:Src):Op->Bool
 | .field t y f=>Bb vm ss y x&&(match TJ P t f with
  |some fd=>fd.offset==off&&(pj P fd.type==bS agg&&Wq P fd.type==bS sz)
  |none=>bR)
 |_=>bR
def AMg(vm ss:List Nat)(x:Src)(i:Nat):Op->Bool
 |.extract y j=>Bb vm ss y x&&i==j
 |_=>bR
def ADM(P:b')(vm ss:List Nat)(k:fI)(x:Src):Op->Bool
 |.convert s d y=>Bb vm ss y x&&(match rL P s with|some _=>rL P d==bS k|none=>bR)
 |_=>bR
def cUn(vm ss:List Nat)(u:UnOp)(x:Src):Op->Bool
 |.unOp j _ y=>Bb vm ss y x&&u==j
 |_=>bR
def AMe(P:b')(vm ss:List Nat)(st:Bool)(x:Src):Op->Bool
 | .call { callee:=.builtin .len,args:=args,argTypes:=tys }=>(match args.toList,tys.toList with
  |[y],[t]=>Bb vm ss y x&&(if st=bI then mw P t else(tL P t).isSome)
  |_,_=>bR)
 |_=>bR
def AGB(vm ss:List Nat):Option gn->Option Src->Bool
 |some a,bS b=>Bb vm ss a b
 |none,cA=>bI
 |_,_=>bR
def sF(P:b')(vm ss:List Nat)(sz:Nat)(x:Src)(lo hi:Option Src):Op->Bool
 | .slice t y l h cA=>Bb vm ss y x&&(AGB vm ss l lo&&(AGB vm ss h hi&&((mw P t&&sz==0)||(match tL P t with
  |some e=>Wq P e==bS sz && !(sz==0)
  |none=>bR))))
 |_=>bR
def Rk(vm ss:List Nat):List gn->List Src->Bool
 |[],[]=>bI
 |a::r,b::q=>Bb vm ss a b&&Rk vm ss r q
 |_,_=>bR
def ADJ(vm ss:List Nat)(f:Fn)(fi ca:List Src):Op->Bool
 |.makeFunc f' a b=>decide (f=f')&&(Rk vm ss a.toList fi&&Rk vm ss b.toList ca)
 |_=>bR
def ADK(P:b')(vm ss:List Nat)(sz bytes:Nat)(z:AV)(l c:Src):Op->Bool
 | .makeSlice t a b=>Bb vm ss a l&&(Bb vm ss b c&&(match tL P t with
  | some e=>Wq P e==bS sz&&(byT P e==bS bytes&&(match tx P e with
   |some j=>eqv j z&&(z.cells.length==sz&&z.atoms)
   |none=>bR))
  |none=>bR))
 |_=>bR
def AMi(vm ss:List Nat)(x:Src):Op->Bool
 |.box _ y=>Bb vm ss y x
 |_=>bR
def sJ(P:b')(z:AV):Op->Bool
 | .alloc e=>(match tx P e with
  |some j=>eqv j z
  |none=>bR)
 |_=>bR
def cMM(vm ss:List Nat)(mx:Bool)(xs:List Src):Op->Bool
 |.call { callee:=.builtin b,args:=args,argTypes:=_ }=>Rk vm ss args.toList xs&&(match b with |.max=>mx |.min=>!mx|_=>bR)
 |_=>bR
section
variable {F:Nat->Prop}{g:Gh}{w:cb}{tmps:Array Value}{ds:List hZ}{vm ss:List Nat}{s:St}{P:b'}{o:Oper}{key:Nat}
variable{x:Src}
def AOK(h:FR F g w tmps vm ss s)(j:AMd vm ss x o.op=bI):
  BM (AR F g s.ob) w g s.ob key (EK (rd s x)) ((bX (D' tmps ds).eval o).run P w):=by
 unfold AMd at j;split at j
 .rename_i y he;exact .val (by simp[bX,he]) rfl (h.src (ds:=ds) j)
 .rename_i y he;exact .val (by simp[bX,he]) rfl (h.src (ds:=ds) j)
 .cases j
def VZ(agg:Bool)(sz off:Nat)(el:AV):(part agg sz off el).hs=[]:=by cases agg<;>rfl
def Hy.cell{S:Nat->Prop}{w:cb}{b cap sz:Nat}{els:List AV}(R:Hy S w b cap sz els):∃r:Nat->Nat->Value,∀i j,i<els.length->j<sz ->
  w.cell? ⟨b,i*sz+j,cA⟩=bS (r i j)/\VR S w (r i j) ((els.getD i .any).cells.getD j .any):=by
 rcases j1 cap with hz|hp
 .exact⟨fun _ _=>cB,fun i j hi _=>absurd hi (by have:=R.len;omega)⟩
 obtain⟨arr,T,fz,U,hf,I,C⟩:=R.row hp;refine⟨fun i j=>arr.getD (i*sz+j) cB,fun i j hi hj=>⟨?_,C i j hi hj⟩⟩
 have J:i*sz+j<arr.size:=by
  have h1:=R.len;have:(i+1)*sz<=cap*sz:=cd _ n';rw[e7]at this;omega
 simp only[kp,U];simp[agD,J]
def FR.nil_els(h:FR F g w tmps vm ss s){k:Nat}{hm:Hm}(j:AK k s.ob=bS hm)(C:g.cap k=0):hm.els=[]:=by
 have:=(h.home k hm j).len;exact d'.1 n'
def oA(h:FR F g w tmps vm ss s){agg:Bool}{sz:Nat}{t:dx}(aa:pj P t=bS agg)(aj:Wq P t=bS sz){v:Value}{a:AV}(hv:SR (AR F g s.ob) w g s.ob v a)(J:(PI s.ob agg sz a).ok=bI):
  ∃ad u,v = .pointer (bS ad)/\(n7 t ad).run P w = .ok u w/\VR (AR F g s.ob) w u (PI s.ob agg sz a).v/\(PI s.ob agg sz a).hs=[]:=by
 cases a<;>simp only[PI,bad]at J<;>try(cases J;done)
 case ref k i off=>
  obtain⟨hm,ho,hi,au⟩:=hv;simp only[PI,ho,ny]at J ⊢;have hh:=h.home k hm ho;obtain⟨r,U⟩:=hh.cell;have C:=hh.cells i hi;obtain⟨u,I,ab⟩:=tc (S:=AR F g s.ob) (b:=g.β k) (base:=i*hm.sz) (r:=r i) aa aj C.2 (fun j R=>(U i j hi (by rw[C.1]at R;exact R)).1) (fun j R=>(U i j hi (by rw[C.1]at R;exact R)).2) J;exact⟨_,u,au,I,ab,VZ _ _ _ _⟩
 case ptr sz0 els i off=>
  simp only[SR,QX]at hv;cases hv with
  | ptr b ae r ax hi hs C hw hr=>
   simp only[PI]at J ⊢;obtain⟨u,I,ab⟩:=tc (S:=AR F g s.ob) (b:=b) (base:=ae+i*sz0) (r:=r i) aa aj (C i hi).2 (fun j R=>by rw[fu];exact hw i j hi (by rw[(C i hi).1]at R;exact R)) (fun j R=>hr i j hi (by rw[(C i hi).1]at R;exact R)) J;exact⟨_,u,rfl,by rw[fu]at I;exact I,ab,VZ _ _ _ _⟩
variable{sz:Nat}
def AKX(h:FR F g w tmps vm ss s){agg:Bool}(C:ADL P vm ss agg sz x o.op=bI)(U:(PI s.ob agg sz (rd s x)).ok=bI):
  BM (AR F g s.ob) w g s.ob key (PI s.ob agg sz (rd s x)) ((bX (D' tmps ds).eval o).run P w):=by
 unfold ADL at C;split at C
 .rename_i t y he;simp only[baT,beq_iff_eq]at C;obtain⟨hs,I,R⟩:=C;obtain⟨ad,u,ab,j,J,aa⟩:=oA h I R (h.src (ds:=ds) hs) U;exact .val (v:=u) (by simp[bX,he,Instr.loadAt,hX,ab,j]) aa J.toSR
 .cases C
def AEN(h:FR F g w tmps vm ss s)(J:sG vm ss x o.op=bI)(C:(Pc (rd s x)).ok=bI):
  BM (AR F g s.ob) w g s.ob key (Pc (rd s x)) ((bX (D' tmps ds).eval o).run P w):=by
 unfold sG at J;split at J
 .rename_i y he;have I:=h.src (ds:=ds) J;revert C;generalize rd s x=a at I;intro C;cases a<;>simp only[Pc,bad]at C<;>try(cases C;done)
  case ref k i off=>
   obtain⟨hm,R,hi,j⟩:=id I;exact .val (v:=.pointer (bS ⟨g.β k,i*hm.sz+off,cA⟩)) (by simp[bX,he,j]) rfl (by rw[j]at I;exact I)
  case ptr sz0 els i off=>
   have hv2:=I;simp only[SR,QX]at I;generalize j:(D' tmps ds).eval y=v at I hv2;cases I
   exact .val (by simp[bX,he,j]) rfl hv2
  case fn f a1 a2=>
   cases f<;>simp only[Pc,bad]at C<;>try(cases C;done)
   rename_i ff;obtain⟨v1,v2,j,_⟩:=id I;exact .val (v:=.func (.func ff) v1 v2) (by simp[bX,he,j]) rfl (by rw[j]at I;exact I)
 .cases J
variable{i:Src}
def za(h:FR F g w tmps vm ss s)(hc:lH P vm ss sz x i o.op=bI)(C:(MW s.ob sz (fL (rd s i)) (rd s x)).ok=bI):
  BM (AR F g s.ob) w g s.ob key (MW s.ob sz (fL (rd s i)) (rd s x)) ((bX (D' tmps ds).eval o).run P w):=by
 unfold lH at hc;split at hc
 .rename_i t y j he;simp only[baT]at hc;obtain⟨hs,hj,I⟩:=hc;cases aa:tL P t with
  |none=>rw[aa]at I;cases I
  | some e=>
   rw[aa]at I;simp only[beq_iff_eq]at I;have hu:=PW aa;have hv:=h.src (ds:=ds) hs;have ae:=h.src (ds:=ds) hj;revert C;generalize rd s x=a at hv;intro C;cases a<;>simp only[MW,bad]at C<;>try(cases C;done)
   case own k=>
    obtain⟨hm,ho,J⟩:=hv;simp only[MW,ho,tq,GW,AS,baT,beq_iff_eq,dtE]at C ⊢;obtain⟨U,h0,h1⟩:=C;obtain⟨kk,ab⟩:=Zk ae h0;have R:(fL (rd s i)).toNat<hm.els.length:=n'
    rcases J with J|⟨hz,J⟩
    rotate_left
    .rw[h.nil_els ho hz]at R;cases R
    refine .val (v:=.pointer (bS ⟨g.β k,(fL (rd s i)).toNat*sz,cA⟩)) ?_ rfl ⟨hm,ho,R,by simp[U]⟩;simp[bX,he,n0,J,ab,kb,bN hu,GA I,h0,h1,Ic]
   case sl sz0 els=>
    simp only[SR,QX]at hv;generalize J:(D' tmps ds).eval y=v at hv;cases hv with
    | @sl ad n cap _ _ b off r hn a7 ao ha a1 hw hr=>
     simp only[MW,GW,AS,baT,beq_iff_eq,dtE]at C ⊢;obtain⟨U,h0,h1⟩:=C;obtain⟨kk,ab⟩:=Zk ae h0;have R:(fL (rd s i)).toNat<els.length:=n'
     obtain⟨rfl,az⟩:=ha n';subst hn;refine .val (v:=.pointer (bS ⟨b,off+((fL (rd s i)).toNat*sz0+0),cA⟩)) ?_ rfl (VR.toSR (VR.narrow (.ptr b off r ao R az a1 hw hr)));simp[bX,he,n0,J,ab,kb,bN hu,GA I,h0,h1,Ic,U]
 .cases hc
def AEO(h:FR F g w tmps vm ss s)(I:sH P vm ss x i o.op=bI)(C:(SJ (fL (rd s i)) (rd s x)).ok=bI):
  BM (AR F g s.ob) w g s.ob key (SJ (fL (rd s i)) (rd s x)) ((bX (D' tmps ds).eval o).run P w):=by
 unfold sH at I;split at I
 .rename_i t y j he;simp only[baT]at I;obtain⟨hs,hj,R⟩:=I;have hu:=Uz R;have hv:=h.src (ds:=ds) hs;have J:=h.src (ds:=ds) hj;revert C;generalize rd s x=a at hv;intro C;cases a<;>simp only[SJ,bad]at C<;>try(cases C;done)
  case str l=>
   have ab:=Tz hv;simp only[SJ,GW,AS,baT,dtE]at C ⊢;obtain⟨h0,h1⟩:=C;obtain⟨kk,aa⟩:=Zk J h0;have U:(fL (rd s i)).toNat<l.length:=n'
   refine .val (v:=.int .u8 ((l.getD (fL (rd s i)).toNat 0).toNat:Int)) ?_ rfl (VR.toSR (by unfold Js;exact .int));have hg:=yZ U;simp[bX,he,Instr.index,ab,aa,kb,bN hu,h0,hg]
 .cases I
def wn(h:FR F g w tmps vm ss s){off:Nat}(hc:bw P vm ss off x o.op=bI)(C:(Nc off (rd s x)).ok=bI):
  BM (AR F g s.ob) w g s.ob key (Nc off (rd s x)) ((bX (D' tmps ds).eval o).run P w):=by
 unfold bw at hc;split at hc
 .rename_i t y f he;simp only[baT]at hc;obtain⟨hs,j⟩:=hc;cases hf:TJ P t f with
  |none=>rw[hf]at j;cases j
  | some fd=>
   rw[hf]at j;simp only[baT,beq_iff_eq]at j;obtain⟨ae,hz⟩:=j;cases R:Wq P fd.type with
   |none=>rw[R]at hz;cases hz
   | some n=>
    rw[R]at hz;have hn:n≠0:=by simpa using hz
    obtain⟨fs,hu,aj⟩:=bP hf;have hv:=h.src (ds:=ds) hs;have J:∀ad:Addr,(fieldPlace ad fd).run P w = .ok (ad.add off) w:=fun ad=>by simp[fieldPlace,GA R,hn,ae]
    revert C;generalize rd s x=a at hv;intro C;cases a<;>simp only[Nc,bad]at C<;>try(cases C;done)
    case ref k i o0=>
     obtain⟨hm,ho,hi,U⟩:=hv;refine .val (v:=.pointer (bS ⟨g.β k,i*hm.sz+(o0+off),cA⟩)) ?_ rfl ⟨hm,ho,hi,rfl⟩;simp[bX,he,n5,U,bN hu,aj,hX,J,Ic,fu]
    case ptr sz0 els i o0=>
     simp only[SR,QX]at hv;generalize U:(D' tmps ds).eval y=v at hv;cases hv with
     | ptr b I r ab hi ax az hw hr=>
      refine .val (v:=.pointer (bS ⟨b,I+(i*sz0+(o0+off)),cA⟩)) ?_ rfl (VR.toSR (.ptr b I r ab hi ax az hw hr));simp[bX,he,n5,U,bN hu,aj,hX,J,Ic,fu]
 .cases hc
def AON(h:FR F g w tmps vm ss s){i:Nat}(J:AMg vm ss x i o.op=bI)(C:(pE i (rd s x)).ok=bI):
  BM (AR F g s.ob) w g s.ob key (pE i (rd s x)) ((bX (D' tmps ds).eval o).run P w):=by
 unfold AMg at J;split at J
 .rename_i y j he;simp only[baT,beq_iff_eq]at J;obtain⟨hs,U⟩:=J;subst U;have hv:=h.src (ds:=ds) hs;revert C;generalize rd s x=a at hv;intro C;cases a<;>simp only[pE,bad]at C<;>try(cases C;done)
  case tup aj=>
   obtain⟨vs,ab,hn,R⟩:=hv;simp only[pE,GW,dtE]at C ⊢;obtain⟨u,I,aa⟩:=WN (cs:=vs) (j:=i) (by rw[hn];exact C);have R:=R i C;rw[aa]at R;exact .val (v:=u) (by simp[bX,he,ab,Instr.extract,I]) rfl R.toSR
 .cases J
def s_un(h:FR F g w tmps vm ss s){u:UnOp}(I:cUn vm ss u x o.op=bI)(j:(kz u (rd s x)).ok=bI):
  BM (AR F g s.ob) w g s.ob key (kz u (rd s x)) ((bX (D' tmps ds).eval o).run P w):=by
 unfold cUn at I;split at I
 .rename_i R t y he;simp only[baT,beq_iff_eq]at I;obtain⟨hs,rfl⟩:=I;have J:=h.src (ds:=ds) hs;revert j;generalize rd s x=a at J;intro j;cases a<;>simp only[kz,bad]at j<;>try(cases j;done)
  case int k n=>
   have C:=Qc J;cases u<;>simp only[EK]at j<;>try(cases j;done)
   exact .val (v:=.int k (k.wrap (0-n))) (by simp[bX,he,C,Op.unary,k3]) rfl (VR.toSR .int)
  case bool b=>
   have C:=PC J;cases u<;>simp only[EK]at j<;>try(cases j;done)
   exact .val (v:=.bool (!b)) (by simp[bX,he,C,Op.unary]) rfl (VR.toSR .bool)
 .cases I
def AKa(h:FR F g w tmps vm ss s){k:fI}(I:ADM P vm ss k x o.op=bI)(C:(bd k (rd s x)).ok=bI):
  BM (AR F g s.ob) w g s.ob key (bd k (rd s x)) ((bX (D' tmps ds).eval o).run P w):=by
 unfold ADM at I;split at I
 .rename_i U dT y he;simp only[baT]at I;obtain⟨hs,j⟩:=I;cases hi:rL P U with
  |none=>rw[hi]at j;cases j
  | some k0=>
   rw[hi]at j;simp only[beq_iff_eq]at j;have R:=h.src (ds:=ds) hs;revert C;generalize rd s x=a at R;intro C;cases a<;>simp only[bd,bad]at C<;>try(cases C;done)
   case int k1 n=>
    have J:=Qc R;exact .val (v:=.int k (k.wrap n)) (by simp[bX,he,J,convert,bN (ZN hi),bN (ZN j),Conv.intToInt]) rfl (VR.toSR .int)
 .cases I
def PE(l:L8):(⟨l.toArray⟩:ByteArray).size=l.length:=by simp[ByteArray.size]
def AOL(h:FR F g w tmps vm ss s){st:Bool}(R:AMe P vm ss st x o.op=bI)(C:(Yk s.ob st (rd s x)).ok=bI):
  BM (AR F g s.ob) w g s.ob key (Yk s.ob st (rd s x)) ((bX (D' tmps ds).eval o).run P w):=by
 unfold AMe at R;split at R
 .rename_i args U he;split at R
  .rename_i y t ab ae;simp only[baT]at R;obtain⟨hs,J⟩:=R;obtain rfl:args = #[y]:=by cases args;simp_all
   obtain rfl:U = #[t]:=by cases U;simp_all
   have I:=h.src (ds:=ds) hs;revert C;generalize rd s x=a at I;intro C;cases a<;>simp only[Yk,bad]at C<;>try(cases C;done)
   case str l=>
    have j:=Tz I;simp only[GW]at C;subst C;have hu:=Uz (by simpa using J);exact .val (v:=.int .i64 (l.length:Int)) (by simp[bX,he,jm,kn,jn,hN,bN hu,j,goInt,PE]) rfl (VR.toSR .int)
   all_goals
    obtain rfl:st=bR:=by cases st<;>simp_all [GW,IJ]
    simp only[bfT,if_false,k4]at J;obtain⟨e,aa⟩:=J;have hu:=PW aa
   case sl sz els=>
    simp only[SR,QX]at I;generalize j:(D' tmps ds).eval y=v at I;cases I with
    | @sl ad n cap _ _ b off r hn au aj ha az hw hr=>
     exact .val (v:=.int .i64 (els.length:Int)) (by simp[bX,he,jm,kn,jn,hN,bN hu,j,goInt,hn]) rfl (VR.toSR .int)
   case nilsl=>
    have j:=UA I;exact .val (v:=.int .i64 0) (by simp[bX,he,jm,kn,jn,hN,bN hu,j,goInt]) rfl (VR.toSR .int)
   case own k=>
    obtain⟨hm,ho,j⟩:=I;simp only[Yk,ho,tg];rcases j with j|⟨hz,j⟩
    rotate_left
    .rw[h.nil_els ho hz];exact .val (v:=.int .i64 0) (by simp[bX,he,jm,kn,jn,hN,bN hu,j,goInt]) rfl (VR.toSR .int)
    exact .val (v:=.int .i64 (hm.els.length:Int)) (by simp[bX,he,jm,kn,jn,hN,bN hu,j,goInt]) rfl (VR.toSR .int)
  .cases R
 .cases R
def AOP(h:FR F g w tmps vm ss s)(C:AMi vm ss x o.op=bI)(j:(Yo (Bn key) (rd s x)).ok=bI):
  BM (AR F g s.ob) w g s.ob key (Yo (Bn key) (rd s x)) ((bX (D' tmps ds).eval o).run P w):=by
 unfold AMi at C;split at C
 .rename_i e y he;have J:=h.src (ds:=ds) C;have I:(rd s x).atoms=bI:=by simp only[Yo,baT]at j;exact j.2
  exact iA (P:=P) (t:=e) (J.atoms I) j (by simp[bX,he,Instr.box,newVar,k7])
 .cases C
def AET(h:FR F g w tmps vm ss s){z:AV}(j:sJ P z o.op=bI)(C:(Yo (Bn key) z).ok=bI):
  BM (AR F g s.ob) w g s.ob key (Yo (Bn key) z) ((bX (D' tmps ds).eval o).run P w):=by
 unfold sJ at j;split at j
 .rename_i e he;split at j
  .rename_i J I;exact iA (P:=P) (t:=e) (ko j) C (by simp[bX,he,Instr.alloc,Sw I,newVar,k7])
  .cases j
 .cases j
def AOM(h:FR F g w tmps vm ss s){agg:Bool}{off sz:Nat}{x:Src}(hc:AMf P vm ss agg off sz x o.op=bI)(I:(part agg sz off (rd s x)).ok=bI)(ab:(rd s x).isAgg=bI):
  BM (AR F g s.ob) w g s.ob key (part agg sz off (rd s x)) ((bX (D' tmps ds).eval o).run P w):=by
 unfold AMf at hc;split at hc
 .rename_i t y f he;simp only[baT]at hc;obtain⟨hs,C⟩:=hc;cases hf:TJ P t f with
  |none=>rw[hf]at C;cases C
  | some fd=>
   rw[hf]at C;simp only[baT,beq_iff_eq]at C;obtain⟨R,aa,a7⟩:=C;obtain⟨fs,hu,au⟩:=bP hf;have hv:=h.src (ds:=ds) hs;revert I ab;generalize rd s x=a at hv;intro I ab;cases a<;>simp[AV.isAgg]at ab
   rename_i ad;simp only[SR,QX]at hv;generalize ax:(D' tmps ds).eval y=v at hv;cases hv with
   | @agg cs _ hn a1 hr=>
    cases agg with
    | false=>
     have J:off<ad.length:=of_decide_eq_true I;obtain⟨u,hg,ba⟩:=WN (cs:=cs) (j:=off) (by rw[hn];exact J);have ao:=hr off J;rw[ba]at ao;exact .val (v:=u) (by simp[bX,he,n8,ax,bN hu,au,asAgg,k6,R,Pu aa,hg]) rfl ao.toSR
    | true=>
     have hle:off+sz<=ad.length:=of_decide_eq_true (Bool.and_eq_true_iff.1 (show((AV.agg ad).isAgg&&cS (off+sz<=(AV.agg ad).cells.length))=bI from I)).2;simp only[part,AV.cells];refine .val (v:=.agg (cs.extract off (off+sz))) (by simp[bX,he,n8,ax,bN hu,au,asAgg,k6,R,Pu aa,GA a7]) rfl (VR.toSR ?_)
     have U:∀j,j<sz->(cs.extract off (off+sz)).getD j cB=cs.getD (off+j) cB:=by
      intro j hj;rw[agD,agD,Array.getElem?_extract,if_pos n']
     have aj:(cs.extract off (off+sz)).size=sz:=t'
     rw[AM];split
     .rename_i ay;simp only[baT,beq_iff_eq]at ay;obtain⟨h0,h1⟩:=ay;subst h0;refine .agg (by rw[aj,h1]) a1 fun j hj=>?_
      rw[U j n',cI];exact hr j hj
     .have hd:∀j,j<sz->((ad.drop off).take sz).getD j .any=ad.getD (off+j) .any:=by
       intro j hj;simp[gdE,h9,j0,hj]
      have hlen:((ad.drop off).take sz).length=sz:=t'
      refine .agg (by rw[aj,hlen]) (fun j hj=>?_) fun j hj=>?_
      .rw[hd j n'];exact a1 _ n'
      .rw[hd j n',U j n'];exact hr _ n'
 .cases hc
end
section
variable {F:Nat->Prop}{g:Gh}{w:cb}{tmps:Array Value}{ds:List hZ}{vm ss:List Nat}{s:St}{P:b'}{o:Oper}{key:Nat}
def YX(P:b')(w:cb)(op:ir)(t:dx)(x y:gn)(k j:fI)(a b:Int):(k9 op t x y (.int k a) (.int j b)).run P w = .ok () w:=by
 unfold k9;cases op<;>simp
def WF(P:b')(w:cb)(op:ir)(t:dx)(x y:gn)(a b:Bool):(k9 op t x y (.bool a) (.bool b)).run P w = .ok () w:=by
 unfold k9;cases op<;>simp
def pK(P:b')(w:cb)(op:ir)(t:dx)(x y:gn)(a b:ByteArray):(k9 op t x y (.string a) (.string b)).run P w = .ok () w:=by
 unfold k9;cases op<;>simp
def ABA(P:b')(w:cb)(t:dx)(op:ir)(k:fI)(x y:Int)(j:(Ox op k x y).ok=bI):
  ∃v,(binOp op t (.int k x) (.int k y)).run P w = .ok v w/\∀S,VR S w v (Ox op k x y).v:=by
 cases op<;>simp only[Ox,EK,GW,bad]at j ⊢<;>try(cases j;done)
 case add=>exact⟨.int k (k.wrap (x+y)),by simp[binOp,k3],fun _=>.int⟩
 case sub=>exact⟨.int k (k.wrap (x-y)),by simp[binOp,k3],fun _=>.int⟩
 case mul=>exact⟨.int k (k.wrap (x*y)),by simp[binOp,k3],fun _=>.int⟩
 case quo=>
  have C:y≠0:=by simpa[nz]using j
  exact⟨.int k (k.wrap (x.tdiv y)),by simp[binOp,Op.intDiv,C],fun _=>.int⟩
 case rem=>
  have C:y≠0:=by simpa[nz]using j
  exact⟨.int k (x.tmod y),by simp[binOp,Op.intDiv,C],fun _=>.int⟩
 case and=>exact⟨_,by simp only[binOp,k8];simp only[ne_eq,not_true,if_false];rfl,fun _=>.int⟩
 case or=>exact⟨_,by simp only[binOp,k8];simp only[ne_eq,not_true,if_false];rfl,fun _=>.int⟩
 case xor=>exact⟨_,by simp only[binOp,k8];simp only[ne_eq,not_true,if_false];rfl,fun _=>.int⟩
 case andNot=>exact⟨_,by simp only[binOp,k8];simp only[ne_eq,not_true,if_false];rfl,fun _=>.int⟩
 case eql=>exact⟨.bool (x==y),by simp[binOp,iR],fun _=>.bool⟩
 case neq=>exact⟨.bool (!(x==y)),by simp[binOp,iR,bne],fun _=>.bool⟩
 case lss=>exact⟨.bool (cS (x<y)),by simp[binOp,iR],fun _=>.bool⟩
 case leq=>exact⟨.bool (cS (x<=y)),by simp[binOp,iR],fun _=>.bool⟩
 case gtr=>exact⟨.bool (cS (y<x)),by simp[binOp,iR],fun _=>.bool⟩
 case geq=>exact⟨.bool (cS (y<=x)),by simp[binOp,iR],fun _=>.bool⟩
def AEJ(P:b')(w:cb)(t:dx)(op:ir)(k j:fI)(x y:Int)(C:(shB op k x y).ok=bI):
  ∃v,(binOp op t (.int k x) (.int j y)).run P w = .ok v w/\∀S,VR S w v (shB op k x y).v:=by
 cases op<;>simp only[shB,EK,GW,bad,TS,dtE]at C ⊢<;>try(cases C;done)
 case shl=>
  have I:¬ y<0:=n'
  exact⟨.int k (k.wrap (x*2^(min y.toNat k.bits))),by simp[binOp,Op.shift,I],fun _=>.int⟩
 case shr=>
  have I:¬ y<0:=n'
  exact⟨.int k (x.fdiv (2^(min y.toNat k.bits))),by simp[binOp,Op.shift,I],fun _=>.int⟩
def ya(x y:L8):(⟨x.toArray⟩:ByteArray)++⟨y.toArray⟩=⟨(x++y).toArray⟩:=by
 apply ByteArray.ext;simp
def zN(P:b')(w:cb)(t:dx)(op:ir)(x y:L8)(j:(Wy op x y).ok=bI):
  ∃v,(binOp op t (.string ⟨x.toArray⟩) (.string ⟨y.toArray⟩)).run P w = .ok v w/\∀S,VR S w v (Wy op x y).v:=by
 cases op<;>simp only[Wy,EK,GW,bad]at j ⊢<;>try(cases j;done)
 case add=>
  have hle:x.length+y.length<=9223372036854775807:=of_decide_eq_true j
  have C:¬ (((⟨x.toArray⟩:ByteArray).size+(⟨y.toArray⟩:ByteArray).size:Nat):Int)>IntKind.i64.max:=by
   rw[PE,PE];have:IntKind.i64.max=9223372036854775807:=x'
   omega
  refine⟨.string ⟨(x++y).toArray⟩,?_,fun _=>.str⟩;simp only[binOp,gu];rw[if_neg C,ya];rfl
 case eql=>exact⟨.bool (x==y),by simp[binOp,gu],fun _=>.bool⟩
 case neq=>exact⟨.bool (!(x==y)),by simp[binOp,gu],fun _=>.bool⟩
 case lss=>exact⟨.bool (hC x y),by simp[binOp,gu],fun _=>.bool⟩
 case leq=>exact⟨.bool (hC x y||x==y),by simp[binOp,gu],fun _=>.bool⟩
 case gtr=>exact⟨.bool (!(hC x y||x==y)),by simp[binOp,gu],fun _=>.bool⟩
 case geq=>exact⟨.bool (!Op.bytesLess x y),by simp[binOp,gu],fun _=>.bool⟩
def ADT(P:b')(t:dx):Bool :=
 match P.underlying t with
 |some .bool=>bI
 |_=>bR
def ADS{P:b'}{t:dx}(h:ADT P t=bI):P.underlying t=bS .bool:=by
 unfold ADT at h;split at h
 .assumption
 .cases h
def AMj(P:b')(vm ss:List Nat)(bl:Bool)(u:ir)(x y:Src):Op->Bool
 |.binOp j t a b _=>Bb vm ss a x&&(Bb vm ss b y&&(u==j&&(!bl||ADT P t)))
 |_=>bR
def ABc(P:b')(w:cb)(t:dx)(j:P.underlying t=bS .bool)(x y:Bool)(n:Nat):(ln (n+1) t (.bool x) (.bool y)).run P w = .ok (x==y) w:=by
 simp[ln,bN j]
variable{x:Src}
def AOQ(h:FR F g w tmps vm ss s){bl:Bool}{u:ir}{y:Src}(hc:AMj P vm ss bl u x y o.op=bI)(C:(cD bl u (rd s x) (rd s y)).ok=bI):
  BM (AR F g s.ob) w g s.ob key (cD bl u (rd s x) (rd s y)) ((bX (D' tmps ds).eval o).run P w):=by
 unfold AMj at hc;split at hc
 .rename_i u' t a b yt he;simp only[baT,beq_iff_eq]at hc;obtain⟨au,ao,hu,aj⟩:=hc;subst hu;have J:=h.src (ds:=ds) au;have I:=h.src (ds:=ds) ao;revert C;generalize rd s x=ax at J;generalize rd s y=ay at I;intro C;cases ax<;>cases ay<;>simp only[cD,bad]at C<;>try(cases C;done)
  case int.int k n j m=>
   have e1:=Qc J;have U:=Qc I;rw[AM]at C;simp only[cD,AM];split
   .rename_i R;rw[if_pos R]at C;obtain⟨v,hr,hv⟩:=AEJ P w t u k j n m C;exact .val (v:=v) (by simp[bX,he,e1,U,YX,hr]) (by cases u<;>rfl) (hv _).toSR
   .rename_i R;rw[if_neg R]at C;simp only[IJ,baT,beq_iff_eq]at C;obtain⟨hk,C⟩:=C;subst hk;obtain⟨v,hr,hv⟩:=ABA P w t u k n m C;exact .val (v:=v) (by simp[bX,he,e1,U,YX,hr]) (by cases u<;>rfl) (hv _).toSR
  case str.str l m=>
   have e1:=Tz J;have U:=Tz I;obtain⟨v,hr,hv⟩:=zN P w t u l m C;exact .val (v:=v) (by simp[bX,he,e1,U,pK,hr]) (by cases u<;>rfl) (hv _).toSR
  case bool.bool p q=>
   have e1:=PC J;have U:=PC I;simp only[IJ,baT]at C;obtain⟨a1,C⟩:=C;subst a1;have az:=ADS (by simpa using aj);have hq:=ABc P w t az p q 9999;simp only[cD,IJ,Bool.true_and];cases u<;>simp only[jl,bad]at C<;>try(cases C;done)
   case eql=>exact .val (v:=.bool (p==q)) (by simp[bX,he,e1,U,WF,binOp,Op.equal,Op.maxDepth,hq]) rfl (VR.toSR .bool)
   case neq=>exact .val (v:=.bool (!(p==q))) (by simp[bX,he,e1,U,WF,binOp,Op.equal,Op.maxDepth,hq]) rfl (VR.toSR .bool)
 .cases hc
def Sx(P:b')(w:cb){k:fI}{n:Int}{y:Nat}(c:BoundsCode)(C:0<=n)(j:n<=(y:Int)):(l8 (.int k n) y c).run P w = .ok n.toNat w:=by
 simp[l8,kb,C,j]
def fh{α:Type}(l:List α)(a b:Nat):(l.take b).drop a=(l.drop a).take (b-a):=by
 rw[List.drop_take]
def RO(P:b')(w:cb){isS:Bool}{len cap:Nat}{lo hi:Option Value}{a b:Int}(I:match lo with|some v=>∃k,v = .int k a|none=>a=0)
  (C:match hi with|some v=>∃k,v = .int k b|none=>b=(len:Int)) (U:0<=a) (R:a<=b) (hb:b<=(cap:Int)) :
  (gf isS len cap lo hi cA).run P w = .ok (a.toNat,b.toNat,cap) w:=by
 have e:((b.toNat:Nat):Int)=b:=n'
 cases lo with
 | none=>
  simp only at I;subst I;cases hi with
  |none=>simp only at C;subst C;simp[gf]
  | some v=>
   obtain⟨k,rfl⟩:=C;cases isS<;>simp[gf,Sx P w _ (n':(0:Int)<=b) hb]
 | some u=>
  obtain⟨j,rfl⟩:=I;cases hi with
  | none=>
   simp only at C;subst C;simp[gf,Sx P w _ U R]
  | some v=>
   obtain⟨k,rfl⟩:=C;have J:a<=((b.toNat:Nat):Int):=n'
   cases isS<;>simp[gf,Sx P w _ (n':(0:Int)<=b) hb,Sx P w _ U J]
def OI(h:FR F g w tmps vm ss s){l:Option gn}{lo:Option Src}(j:AGB vm ss l lo=bI){d:Int}(C:0<=LR d (lo.map (rd s))):
  match l.map (D' tmps ds).eval with|some v=>∃k,v = .int k (LR d (lo.map (rd s)))|none=>LR d (lo.map (rd s))=d:=by
 cases l<;>cases lo<;>simp[AGB]at j
 .rfl
 .simp only[j5,LR]at C ⊢;exact Zk (h.src (ds:=ds) j) C
def SQ{els:List AV}{a b i:Nat}(hi:i<b-a):((els.take b).drop a).getD i .any=els.getD (a+i) .any:=by
 rw[gdE,gdE,j0,h9,if_pos n']
def AEM(h:FR F g w tmps vm ss s){sz:Nat}{lo hi:Option Src}(hc:sF P vm ss sz x lo hi o.op=bI)(I:(OT sz (lo.map (rd s)) (hi.map (rd s)) (rd s x)).ok=bI):
  BM (AR F g s.ob) w g s.ob key (OT sz (lo.map (rd s)) (hi.map (rd s)) (rd s x)) ((bX (D' tmps ds).eval o).run P w):=by
 unfold sF at hc;split at hc
 .rename_i t y l hh he;simp only[baT]at hc;obtain⟨hs,hl,ax,C⟩:=hc;have hv:=h.src (ds:=ds) hs;revert I;generalize rd s x=a at hv;intro I;cases a<;>simp only[OT,bad]at I<;>try(cases I;done)
  case str cs=>
   have U:=Tz hv;simp only[OT,GW,Ja,baT,beq_iff_eq,dtE]at I ⊢;obtain⟨hz,h0,ae,hb⟩:=I
   have a7:mw P t=bI:=by
    simp only[gv,baT]at C;rcases C with C|C
    .exact C.1
    .split at C
     .simp[hz]at C
     .cases C
   have hu:=Uz a7;have ab:=OI (ds:=ds) h hl h0;have aa:=OI (ds:=ds) h ax (d:=(cs.length:Int)) n';refine .val (v:=.string ⟨(cut cs (LR 0 (lo.map (rd s))) (LR cs.length (hi.map (rd s)))).toArray⟩) ?_ rfl (VR.toSR .str);have J:=RO P w (isS:=false) (len:=cs.length) (cap:=cs.length) ab aa h0 ae hb;simp[bX,he,hG,hY,bN hu,U,PE,J,ByteArray.extract_mk,cut,fh]
  case sl sz0 els=>
   simp only[SR,QX]at hv;generalize U:(D' tmps ds).eval y=v at hv;cases hv with
   | @sl ad n cap _ _ b off r hn bo a6 ha bh hw hr=>
    simp only[OT,GW,Ja,baT,beq_iff_eq,dtE]at I ⊢;obtain⟨hz,h0,ae,hb⟩:=I;subst hz
    have R:∃e,tL P t=bS e/\Wq P e=bS sz0:=by
     simp only[gv,baT,beq_iff_eq]at C;rcases C with C|C
     .omega
     .split at C
      .rename_i e ay;simp only[baT,beq_iff_eq]at C;exact⟨e,ay,C.1⟩
      .cases C
    obtain⟨e,au,ao⟩:=R;have hu:=PW au;have ab:=OI (ds:=ds) h hl h0;have aa:=OI (ds:=ds) h ax (d:=(els.length:Int)) n';subst hn;have J:=RO P w (isS:=true) (len:=els.length) (cap:=cap) ab aa h0 ae n';generalize hA:LR 0 (lo.map (rd s))=A at *;generalize hB:LR (els.length:Int) (hi.map (rd s))=B at *;refine .val (v:=.slice (if cap=A.toNat then ad else ad.map (·.add (A.toNat*sz0))) (B.toNat-A.toNat) (cap-A.toNat)) ?_ rfl (VR.toSR ?_)
    .simp[bX,he,hG,hY,bN hu,U,J,GA ao]
    .have hlen:((els.take B.toNat).drop A.toNat).length=B.toNat-A.toNat:=t'
     refine .sl b (off+A.toNat*sz0) (fun i j=>r (A.toNat+i) j) (by rw[cut];exact hlen.symm) n' a6 (fun hp=>?_) (fun i hi=>?_) (fun i j hi hj=>?_) fun i j hi hj=>?_
     .rw[cut,hlen]at hp;obtain⟨rfl,ba⟩:=ha n';rw[if_neg n'];exact⟨by simp[Ic],ba⟩
     .rw[cut,hlen]at hi;rw[cut,SQ hi];exact bh _ n'
     .rw[cut,hlen]at hi;have:=hw (A.toNat+i) j n' hj;rw[show off+A.toNat*sz0+(i*sz0+j)=off+((A.toNat+i)*sz0+j) by rw[e7];omega];exact this
     .rw[cut,hlen]at hi;rw[cut,SQ hi];exact hr _ _ n' hj
  case nilsl=>
   have U:=UA hv;simp only[OT,GW,Ja,baT,hI,beq_eq_false_iff_ne,dtE]at I ⊢;obtain⟨hz,h0,ae,hb⟩:=I
   have R:∃e,tL P t=bS e/\Wq P e=bS sz:=by
    simp only[gv,baT,beq_iff_eq]at C;rcases C with C|C
    .exact absurd C.2 hz
    .split at C
     .rename_i e ay;simp only[baT,beq_iff_eq]at C;exact⟨e,ay,C.1⟩
     .cases C
   obtain⟨e,au,ao⟩:=R;have hu:=PW au;have ab:=OI (ds:=ds) h hl h0;have aa:=OI (ds:=ds) h ax (d:=0) n';have J:=RO P w (isS:=true) (len:=0) (cap:=0) ab aa h0 ae hb;have hA:LR 0 (lo.map (rd s))=0:=n'
   have hB:LR 0 (hi.map (rd s))=0:=n'
   rw[hA,hB]at J;exact .val (v:=.slice cA 0 0) (by simp[bX,he,hG,hY,bN hu,U,J,GA ao]) rfl (VR.toSR .nilsl)
 .cases hc
end
open Go Go.RowKit
section
variable {F:Nat->Prop}{g:Gh}{w:cb}{tmps:Array Value}{ds:List hZ}{vm ss:List Nat}{s:St}{P:b'}{o:Oper}{key:Nat}
def Sg{vm ss:List Nat}:∀{xs:List gn} {j:List Src},Rk vm ss xs j=bI->xs.length=j.length
 |[],[],_=>rfl
 |[],_::_,h=>by simp[Rk]at h
 |_::_,[],h=>by simp[Rk]at h
 | a::r,b::q,h=>by
  simp only[Rk,baT]at h;simp[Sg h.2]
def Si(h:FR F g w tmps vm ss s):∀{xs:List gn} {I:List Src} (j:Nat),Rk vm ss xs I=bI->j<I.length ->
  SR (AR F g s.ob) w g s.ob ((xs.map (D' tmps ds).eval).getD j cB) ((I.map (rd s)).getD j .any)
 |[],[],j,_,J=>by simp at J
 |[],_::_,_,C,_=>by simp[Rk]at C
 |_::_,[],_,C,_=>by simp[Rk]at C
 | a::r,b::q,0,C,_=>by
  simp only[Rk,baT]at C;exact h.src C.1
 | a::r,b::q,j+1,C,J=>by
  simp only[Rk,baT]at C;simpa using Si h j C.2 (by simpa using J)
def SR.simple{S:Nat->Prop}{w:cb}{g:Gh}{ob:Cx}{v:Value}{a:AV}(h:SR S w g ob v a)(j:a.simple=bI):QX S w g ob v a:=by
 cases a<;>first|exact h|(simp[AV.simple]at j)
def Py{l:List AV}{j:Nat}(C:j<l.length):l.getD j .any∈l:=by
 rw[gdE,geE C];exact e' C
def Qa(l:List Value)(j:Nat):l.toArray.getD j cB=l.getD j cB:=by
 rw[←FK]
def AKV(h:FR F g w tmps vm ss s){f:Fn}{fi ca:List Src}(J:ADJ vm ss f fi ca o.op=bI)(C:((fi.map (rd s)++ca.map (rd s)).all AV.simple)=bI):
  BM (AR F g s.ob) w g s.ob key (GW ((fi.map (rd s)++ca.map (rd s)).all AV.simple) (.fn f (fi.map (rd s)) (ca.map (rd s)))) ((bX (D' tmps ds).eval o).run P w):=by
 unfold ADJ at J;split at J
 .rename_i f' a b he;simp only[baT,dtE]at J;obtain⟨U,R,h2⟩:=J;subst U;simp only[l',baT,ew]at C;refine .val (v:=.func f (a.map (D' tmps ds).eval) (b.map (D' tmps ds).eval)) (by simp[bX,he,Instr.makeFunc]) rfl ?_;refine⟨_,_,rfl,by simpa using Sg R,by simpa using Sg h2,fun j I=>?_,fun j I=>?_⟩
  .rw[←FK,lb];exact(Si h j R (by simpa using I)).simple (C.1 _ (Py I))
  .rw[←FK,lb];exact(Si h j h2 (by simpa using I)).simple (C.2 _ (Py I))
 .cases J
def AKW(h:FR F g w tmps vm ss s){sz bytes:Nat}{z:AV}{l c:Src}(R:ADK P vm ss sz bytes z l c o.op=bI)(I:(aQ (Bn key) sz bytes z (rd s l) (rd s c)).ok=bI)(hp:1<=sz):
  BM (AR F g s.ob) w g s.ob key (aQ (Bn key) sz bytes z (rd s l) (rd s c)) ((bX (D' tmps ds).eval o).run P w):=by
 unfold ADK at R;split at R
 .rename_i t a b he;simp only[baT]at R;obtain⟨bh,be,C⟩:=R;split at C
  .rename_i e bb;simp only[baT,beq_iff_eq]at C;obtain⟨ae,b1,C⟩:=C;split at C
   .rename_i U hz;simp only[baT,beq_iff_eq]at C;obtain⟨a8,J,aa⟩:=C;have hu:=PW bb;obtain⟨i,hi,au⟩:=pe b1;have hv1:=h.src (ds:=ds) bh;have hv2:=h.src (ds:=ds) be;revert I;generalize rd s l=al at hv1;generalize rd s c=ac at hv2;intro I;cases al<;>cases ac<;>simp only[aQ,bad]at I<;>try(cases I;done)
    case int.int k n k2 m=>
     simp only[aQ,xN,baT,beq_iff_eq,dtE]at I ⊢;obtain⟨bo,h0,b7,b6⟩:=I;subst bo;have e1:=Qc hv1;have e2:=Qc hv2
     have b3:n<=281474976710656:=by
      have:n*1<=n*bytes:=Int.mul_le_mul_of_nonneg_left n' h0;omega
     have hw:i64.wrap n=n:=IntWalk.i64_in n ⟨n',n'⟩;have ad:=(ko (S:=AR F g s.ob) (w:=w) a8).cells aa;have ba:U.cells.size=sz:=by rw[ad.1,J]
     have a6:∃arr:Array Value,arr.size=n.toNat*sz/\(∀i j,i<n.toNat->j<sz->arr.getD (i*sz+j) cB=U.cells.getD j cB) /\
       (j9 t (.int k n) (.int k2 n)).run P w = .ok (.slice (bS ⟨w.heap.size,0,cA⟩) n.toNat n.toNat) (w.alloc (.cells arr e)):=by
      have b0:¬ (n*(bytes:Int)>281474976710656):=n'
      have az:¬ ((bytes:Int)*n>281474976710656):=by rw[Int.mul_comm];exact b0
      refine⟨(kB (n.toNat*sz)).map ((if n.toNat*sz=0 then #[]else U.cells)[· % (if n.toNat*sz=0 then(#[]:Array Value)else U.cells).size]!),p',fun i j hi hj=>?_,?_⟩
      .have bz:i*sz+j<n.toNat*sz:=by
        have:(i+1)*sz<=n.toNat*sz:=cd _ n';rw[e7]at this;omega
       have bs:n.toNat*sz≠0:=n'
       have ao:(i*sz+j)%sz=j:=by rw[h5,hW];exact hQ hj
       rw[agD,et (by simpa using bz)];simp only[l4,kI,j3,if_neg bs,ba,ao];rw[getElem!_pos U.cells j n',agD,et n'];rfl
      .by_cases ab:n.toNat*sz=0
       .simp[j9,bN hu,asInt,kb,VN hi,au,hw,h0,az,GA ae,ab,k7];omega
       .simp[j9,bN hu,asInt,kb,VN hi,au,hw,h0,az,GA ae,ab,k7,Sw hz];omega
     obtain⟨arr,a1,ay,aj⟩:=a6;refine⟨.slice (bS ⟨w.heap.size,0,cA⟩) n.toNat n.toNat,w.alloc (.cells arr e),by simp[bX,he,e1,e2,aj],AD.alloc _ _ _,.inr ⟨_,_,w.heap.size,n.toNat,rfl,by simp[Bn],dU _,fun S' hS=>?_,.inl ⟨rfl,.inl p'⟩⟩⟩;refine⟨hp,p',fun i hi=>?_,fun _=>⟨arr,e,(0,0),hK _ _,.inl rfl,a1,fun i j hi hj=>?_⟩⟩
     .have:(e8 n.toNat z).getD i .any=z:=by
       rw[gdE,hP,if_pos (by simpa using hi)];rfl
      rw[this];exact⟨J,aa⟩
     .have ax:i<n.toNat:=by simpa using hi
      have:(e8 n.toNat z).getD i .any=z:=by
       rw[gdE,hP,if_pos ax];rfl
      rw[this,ay i j ax hj];refine(ad.2 j (by rw[J];exact hj)).mono (AD.alloc _ _ _) fun b hb R=>?_
      rcases hS b R with e|e
      .exact e
      .omega
   .cases C
  .cases C
 .cases R
def bJ(P:b')(w:cb)(mx:Bool)(k:fI):∀(r:List AV) (vs:List Value) (n:Int),vs.length=r.length->(∀j,j<r.length->∃m,r.getD j .any = .int k m/\vs.getD j cB = .int k m) ->
  ∃m,Xg mx (.int k n) r = .int k m/\(vs.foldlM (bif mx then mu else mn) (.int k n)).run P w = .ok (.int k m) w
 |[],[],n,_,_=>⟨n,rfl,rfl⟩
 |[],_::_,_,C,_=>by simp at C
 |_::_,[],_,C,_=>by simp at C
 | a::r,v::vs,n,C,h=>by
  obtain⟨m,R,J⟩:=h 0 p';simp only[eL]at R J;subst R J;have U:=bJ P w mx k r vs (bif mx then(if n<m then m else n)else(if m<n then m else n)) (by simpa using C) (fun j hj=>by simpa using h (j+1) (by simpa using hj));obtain⟨q,e1,I⟩:=U;refine⟨q,by simp only[Xg,mm2];exact e1,?_⟩;rw[List.foldlM_cons,ed];cases mx
  .simp only[cond_false]at I ⊢;simp only[mn,h7,c'];exact I
  .simp only[cond_true]at I ⊢;simp only[mu,h7,c'];exact I
def s_mm(h:FR F g w tmps vm ss s){mx:Bool}{xs:List Src}(R:cMM vm ss mx xs o.op=bI)(C:(mmA mx (xs.map (rd s))).ok=bI):
  BM (AR F g s.ob) w g s.ob key (mmA mx (xs.map (rd s))) ((bX (D' tmps ds).eval o).run P w):=by
 unfold cMM at R;split at R
 .rename_i b args ae he;simp only[baT]at R;obtain⟨J,hb⟩:=R;cases xs with
  |nil=>simp[mmA,bad]at C
  | cons x xs=>
   obtain⟨args⟩:=args;simp only at J;cases args with
   |nil=>simp[Rk]at J
   | cons a args=>
    simp only[Rk,baT]at J;have hv:=h.src (ds:=ds) J.1;simp only[fp]at C ⊢;revert C;generalize rd s x=ax at hv;intro C;cases ax<;>simp only[mmA,bad]at C<;>try(cases C;done)
    case int k n=>
     have e1:=Qc hv;simp only[mmA,GW,ew]at C ⊢;have hlen:=Sg J.2
     obtain⟨m,e2,e3⟩:=bJ P w mx k (xs.map (rd s)) (args.map (D' tmps ds).eval) n (by simpa using hlen) (fun j hj=>by
      have I:=Si (ds:=ds) h j J.2 (by simpa using hj);have U:=C _ (Py hj);revert U I;generalize(xs.map (rd s)).getD j .any=q;intro I U;cases q<;>simp[kM]at U
      subst U;exact⟨_,rfl,Qc I⟩)
     rw[e2];refine .val (v:=.int k m) ?_ rfl (VR.toSR .int);cases mx<;>cases b<;>simp at hb<;>simp[bX,he,jm,kn,jn,Builtin.min_,Builtin.max_,e1]<;>simp only[cond_false,cond_true]at e3<;>simp[e3]
 .cases R
def tn(P:b')(t:dx):Nat :=
 match P.underlying t with
 |some .bool=>0
 |some (.int _)=>1
 |some .string=>2
 |_=>9
def jN(P:b'):Nat->List Nat->List n9->Bool
 |n,k::ks,f::j=>(f.name != "_")&&((f.offset==n)&&((k==tn P f.type)&&(Nat.ble k 2&&(pj P f.type==bS bR&&jN P (n+1) ks j))))
 |_,[],[]=>bI
 |_,_,_=>bR
def eqT(P:b')(ks:List Nat)(t:dx):Bool :=
 (match P.underlying t with|some (.struct _)=>bI|_=>bR)&&(!P.stoodInHeld t&&(!P.eqGuardType P.depth t&&jN P 0 ks (P.fieldsOf t).toList))
def AMh(P:b')(vm ss:List Nat)(neg:Bool)(ks:List Nat)(x y:Src):Op->Bool
 |.binOp u t a b _=>Bb vm ss a x&&(Bb vm ss b y&&((match u with |.eql=>!neg |.neq=>neg|_=>bR)&&eqT P ks t))
 |_=>bR
def WG(P:b')(w:cb)(S:Nat->Prop)(d:Nat)(xs ys:Array Value):∀(n:Nat) (ks:List Nat) (fs:List n9) (a b:List AV),jN P n ks fs=bI->KN ks a b=bI ->
  (∀j,j<a.length->n+j<xs.size/\VR S w (xs.getD (n+j) cB) (a.getD j .any))->(∀j,j<b.length->n+j<ys.size/\VR S w (ys.getD (n+j) cB) (b.getD j .any)) ->
  (l3 (d+1) xs ys fs).run P w = .ok (NQ a b) w
 | _,[],[],a,b,_,I,_,_=>by
  cases a<;>cases b<;>simp[KN]at I
  simp[l3,NQ]
 |_,[],_::_,_,_,hf,_,_,_=>by simp[jN]at hf
 |_,_::_,[],_,_,hf,_,_,_=>by simp[jN]at hf
 | n,k::ks,f::fs,a,b,hf,I,hx,hy=>by
  cases a with
  |nil=>simp[KN]at I
  | cons p r=>
   cases b with
   |nil=>simp[KN]at I
   | cons q t=>
    simp only[jN,baT,bne_iff_ne,beq_iff_eq]at hf;obtain⟨ab,R,J,be,U,aa⟩:=hf;simp only[KN,baT]at I;have ih:=WG P w S d xs ys (n+1) ks fs r t aa I.2 (fun j hj=>by have:=hx (j+1) (by simpa using hj);rw[fu,nc 1 j];simpa using this) (fun j hj=>by have:=hy (j+1) (by simpa using hj);rw[fu,nc 1 j];simpa using this);have h1:=hx 0 p';have h2:=hy 0 p';simp only[fA,eL]at h1 h2;obtain⟨u1,g1,a1⟩:=WN h1.1;obtain⟨u2,g2,az⟩:=WN h2.1;rw[a1]at h1;rw[az]at h2;have ax:(k6 f.type xs f.offset).run P w = .ok u1 w:=by simp[k6,Pu U,R,g1]
    have au:(k6 f.type ys f.offset).run P w = .ok u2 w:=by simp[k6,Pu U,R,g2]
    have heq:(ln (d+1) f.type u1 u2).run P w = .ok (eq1 p q) w:=by
     have C:=I.1;cases p<;>cases q<;>simp only[jT]at C<;>try(cases C;done)
     case int.int k1 x1 k2 x2=>
      simp only[baT,beq_iff_eq]at C;obtain⟨rfl,rfl⟩:=C;cases h1.2;cases h2.2
      have:∃kk,P.underlying f.type=bS (.int kk):=by
       unfold tn at J;split at J<;>simp at J;exact⟨_,by assumption⟩
      obtain⟨kk,hu⟩:=this;exact run_equalIn_int w d f.type k1 kk x1 x2 hu
     case bool.bool x1 x2=>
      simp only[beq_iff_eq]at C;subst C;cases h1.2;cases h2.2
      have hu:P.underlying f.type=bS .bool:=by
       unfold tn at J;split at J<;>simp at J;assumption
      exact run_equalIn_bool' w d f.type x1 x2 hu
     case str.str x1 x2=>
      simp only[beq_iff_eq]at C;subst C;cases h1.2;cases h2.2
      have hu:P.underlying f.type=bS .string:=by
       unfold tn at J;split at J<;>simp at J;assumption
      have:=run_equalIn_string w d f.type (⟨x1.toArray⟩:ByteArray) ⟨x2.toArray⟩ hu;simpa[eq1]using this
    simp only[l3,Sem.run_ite,ed,if_pos ab,ax,au,heq,c',NQ];cases hE:eq1 p q
    .simp
    .simp[ih]
def AOO(h:FR F g w tmps vm ss s){neg:Bool}{ks:List Nat}{x y:Src}(hc:AMh P vm ss neg ks x y o.op=bI)(C:(Sf neg ks (rd s x) (rd s y)).ok=bI):
  BM (AR F g s.ob) w g s.ob key (Sf neg ks (rd s x) (rd s y)) ((bX (D' tmps ds).eval o).run P w):=by
 unfold AMh at hc;split at hc
 .rename_i u t a b yt he;simp only[baT]at hc;obtain⟨ao,aj,hu,J⟩:=hc;have hv1:=h.src (ds:=ds) ao;have hv2:=h.src (ds:=ds) aj;revert C;generalize rd s x=ax at hv1;generalize rd s y=ay at hv2;intro C;cases ax<;>cases ay<;>simp only[Sf,bad]at C<;>try(cases C;done)
  case agg.agg p q=>
   simp only[SR,QX]at hv1 hv2;generalize e1:(D' tmps ds).eval a=v1 at hv1;generalize e2:(D' tmps ds).eval b=v2 at hv2;cases hv1 with
   | @agg xs _ n1 _ r1=>
    cases hv2 with
    | @agg ys _ n2 _ r2=>
     simp only[Sf,GW]at C ⊢;simp only[eqT,baT,hI]at J;obtain⟨U,ae,hg,hf⟩:=J
     have R:P.underlying t=bS (.struct (P.fieldsOf t)):=by
      unfold Program.fieldsOf;split at U
      .rename_i fs az;rw[az]
      .cases U
     have aa:=WG P w (AR F g s.ob) 9998 xs ys 0 ks _ p q hf C (fun j hj=>by rw[cI];exact⟨n',r1 j hj⟩) (fun j hj=>by rw[cI];exact⟨n',r2 j hj⟩);have I:=run_equalIn_struct (P:=P) w 9999 t xs ys R ae;rw[aa]at I;cases u<;>simp at hu
     .subst hu;exact .val (v:=.bool (NQ p q)) (by simp[bX,he,e1,e2,nn w .eql t a b xs ys hg,run_eql_struct,I]) rfl (VR.toSR .bool)
     .subst hu;exact .val (v:=.bool (!NQ p q)) (by simp[bX,he,e1,e2,nn w .neq t a b xs ys hg,run_neq_struct,I]) rfl (VR.toSR .bool)
 .cases hc
end
section
variable {F:Nat->Prop}{g:Gh}{w:cb}{tmps:Array Value}{ds:List hZ}{vm ss:List Nat}{s:St}{P:b'}{o:Oper}{key:Nat}
def AMk(P:b')(vm ss:List Nat)(x:Src):Op->Bool
 | .convert s d y=>Bb vm ss y x&&(mw P d&&(match tL P s with
  |some e=>rL P e==bS .u8
  |none=>bR))
 |_=>bR
def ADO{S:Nat->Prop}{v:Value}{a:AV}(j:LU a=bI)(h:VR S w v a):∃n,a = .int .u8 n/\v = .int .u8 n:=by
 cases a<;>try(simp[LU]at j;done)
 rename_i k n;cases k<;>simp[LU]at j
 cases h;exact⟨n,rfl,rfl⟩
def tI(P:b'){els:List AV}(hb:els.all LU=bI){b off cap:Nat}{r:Nat->Value}{S:Nat->Prop}(hw:∀i,i<els.length->w.cell? ⟨b,off+i,cA⟩=bS (r i))(hr:∀i,i<els.length->VR S w (r i) (els.getD i .any)):
  (fy (.slice (bS ⟨b,off,cA⟩) els.length cap)).run P w = .ok (.string ⟨(els.map RN).toArray⟩) w:=by
 have J:∀i,i<els.length->∃n,els.getD i .any = .int .u8 n/\r i = .int .u8 n:=fun i hi=>by
  simp only[ew]at hb;exact ADO (hb _ (Py hi)) (hr i hi)
 have I:∃C:List Int,els=C.map (AV.int .u8):=by
  clear hw hr
  induction els with
  |nil=>exact⟨[],rfl⟩
  | cons a t ih=>
   simp only[n6,baT]at hb
   obtain⟨n,hn⟩:∃n,a=AV.int .u8 n:=by
    cases a<;>try(simp[LU]at hb;done)
    rename_i k n;cases k<;>simp[LU]at hb;exact⟨n,rfl⟩
   have hx:∃C:List Int,t=C.map (AV.int .u8):=by
    have:∀l:List AV,l.all LU=bI->∃C:List Int,l=C.map (AV.int .u8):=by
     intro l
     induction l with
     |nil=>intro _;exact⟨[],rfl⟩
     | cons c l R=>
      intro h2;simp only[n6,baT]at h2
      obtain⟨m,hm⟩:∃n,c=AV.int .u8 n:=by
       cases c<;>try(simp[LU]at h2;done)
       rename_i k n;cases k<;>simp[LU]at h2;exact⟨n,rfl⟩
      obtain⟨ms,aa⟩:=R h2.2;exact⟨m::ms,by rw[hm,aa];rfl⟩
    exact this t hb.2
   obtain⟨C,I⟩:=hx;exact⟨n::C,by rw[hn,I];rfl⟩
 obtain⟨C,rfl⟩:=I;have hl:=j7 (P:=P) w ⟨b,off,cA⟩ C.length r (fun j hj=>by rw[Ic];exact hw j (by simpa using hj))
 have U:((k5 C.length).map r)=C.map (Value.int .u8):=by
  apply List.ext_getElem
  .simp
  .intro i h1 h2;have hi:i<C.length:=by simpa using h1
   obtain⟨n,e1,e2⟩:=J i (by simpa using hi);simp only[List.getElem_map,List.getElem_range,e2];rw[gdE,fm,geE hi]at e1;simp only[j5,j3,AV.int.injEq,true_and]at e1;rw[e1]
 rw[U]at hl;have:=run_bytesToString (P:=P) w ⟨b,off,cA⟩ C.length cap C hl;rw[lz,this,foldl_push_bytes]
 congr 2
 apply ByteArray.ext;simp[RN]
variable{x:Src}
def AOR(h:FR F g w tmps vm ss s)(hc:AMk P vm ss x o.op=bI)(C:(Yp s.ob (rd s x)).ok=bI):
  BM (AR F g s.ob) w g s.ob key (Yp s.ob (rd s x)) ((bX (D' tmps ds).eval o).run P w):=by
 unfold AMk at hc;split at hc
 .rename_i sT dT y he;simp only[baT]at hc;obtain⟨hs,hd,ab⟩:=hc;split at ab
  .rename_i e ay;simp only[beq_iff_eq]at ab;have hu:=PW ay;have au:=ZN ab;have ax:=Uz hd
   have j:∀v:Value,(∃a l c,v = .slice a l c)->(convert sT dT v).run P w=(fy v).run P w:=by
    rintro v ⟨a,l,c,rfl⟩;cases a<;>simp[convert,bN hu,bN ax,bN au]
   have hv:=h.src (ds:=ds) hs;revert C;generalize rd s x=a at hv;intro C;cases a<;>simp only[Yp,bad]at C<;>try(cases C;done)
   case nilsl=>
    have I:=UA hv;exact .val (v:=.string ⟨([]:L8).toArray⟩) (by simp[bX,he,I,j,fy];rfl) rfl (VR.toSR .str)
   case sl sz els=>
    simp only[SR,QX]at hv;generalize I:(D' tmps ds).eval y=v at hv;cases hv with
    | @sl ad n cap _ _ b off r hn ba a7 ha a1 hw hr=>
     simp only[Yp,my,GW]at C ⊢;subst hn
     by_cases hp:0<els.length
     .obtain⟨rfl,bo⟩:=ha hp
      have J:∀i,i<els.length->(els.getD i .any).cells=[els.getD i .any]:=fun i hi=>by
       simp only[ew]at C;have:=C _ (Py hi);revert this;generalize els.getD i .any=q;intro this;cases q<;>first|rfl|(simp[LU]at this)
      have U:sz=1:=by have:=(a1 0 hp).1;rw[J 0 hp]at this;simpa using this.symm
      subst U;have aa:=tI (w:=w) P C (cap:=cap) (r:=fun i=>r i 0) (S:=AR F g s.ob) (fun i hi=>by have:=hw i 0 hi n';simpa using this) (fun i hi=>by have:=hr i 0 hi n';rw[J i hi]at this;simpa using this);exact .val (v:=.string ⟨(els.map RN).toArray⟩) (by simp[bX,he,I,j,aa]) rfl (VR.toSR .str)
     .have h0:els=[]:=d'.1 n';subst h0;refine .val (v:=.string ⟨([]:L8).toArray⟩) ?_ rfl (VR.toSR .str);cases ad<;>simp[bX,he,I,j,fy,l2,j8]<;>rfl
   case own k=>
    obtain⟨hm,ho,I⟩:=hv;simp only[Yp,ho,tJ,my,GW]at C ⊢;have hh:=h.home k hm ho;rcases I with I|⟨hz,I⟩
    rotate_left
    .rw[h.nil_els ho hz];refine .val (v:=.string ⟨([]:L8).toArray⟩) ?_ rfl (VR.toSR .str);simp[bX,he,I,j,fy,l2,j8];rfl
    obtain⟨r,R⟩:=hh.cell
    by_cases hp:0<hm.els.length
    .have J:∀i,i<hm.els.length->(hm.els.getD i .any).cells=[hm.els.getD i .any]:=fun i hi=>by
      simp only[ew]at C;have:=C _ (Py hi);revert this;generalize hm.els.getD i .any=q;intro this;cases q<;>first|rfl|(simp[LU]at this)
     have U:hm.sz=1:=by have:=(hh.cells 0 hp).1;rw[J 0 hp]at this;simpa using this.symm
     rw[U]at R;have aa:=tI (w:=w) P C (b:=g.β k) (off:=0) (cap:=g.cap k) (r:=fun i=>r i 0) (S:=AR F g s.ob) (fun i hi=>by have:=(R i 0 hi n').1;simpa using this) (fun i hi=>by have:=(R i 0 hi n').2;rw[J i hi]at this;simpa using this);exact .val (v:=.string ⟨(hm.els.map RN).toArray⟩) (by simp[bX,he,I,j,aa]) rfl (VR.toSR .str)
    .have h0:hm.els=[]:=d'.1 n';rw[h0]at I ⊢;refine .val (v:=.string ⟨([]:L8).toArray⟩) ?_ rfl (VR.toSR .str);simp[bX,he,I,j,fy,l2,j8];rfl
  .cases ab
 .cases hc
def AMc(P:b')(vm ss:List Nat)(x:Src):Op->Bool
 | .convert s d y=>Bb vm ss y x&&(mw P s&&(match tL P d with
  |some e=>rL P e==bS .u8
  |none=>bR))
 |_=>bR
def AOJ(h:FR F g w tmps vm ss s)(hc:AMc P vm ss x o.op=bI)(J:(qW (Bn key) (rd s x)).ok=bI):
  BM (AR F g s.ob) w g s.ob key (qW (Bn key) (rd s x)) ((bX (D' tmps ds).eval o).run P w):=by
 unfold AMc at hc;split at hc
 .rename_i sT dT y he;simp only[baT]at hc;obtain⟨hs,ab,I⟩:=hc;split at I
  .rename_i e ad;simp only[beq_iff_eq]at I;have R:=run_bytes_of_string (P:=P) w sT dT e;have hv:=h.src (ds:=ds) hs;revert J;generalize rd s x=a at hv;intro J;cases a<;>simp only[qW,bad]at J<;>try(cases J;done)
   case str l=>
    have aj:=Tz hv;have hr:=R ⟨l.toArray⟩ (Uz ab) (PW ad) (ZN I);simp only[qW];generalize U:hL w (⟨l.toArray⟩:ByteArray).size 0 e=cap at hr
    have hle:l.length<=cap:=by
     have:(⟨l.toArray⟩:ByteArray).size<=cap:=by rw[←U];unfold hL;simp[Question.cut]
     rwa [PE]at this
    have ao:(ml ⟨l.toArray⟩ cap).size=cap:=by
     simp[ml,PE];omega
    refine⟨.slice (bS ⟨w.heap.size,0,cA⟩) l.length cap,_,by simp[bX,he,aj,hr,PE];rfl,?_,.inr ⟨_,_,w.heap.size,cap,rfl,by simp[Bn],dU _,fun S' hS=>?_,.inl ⟨rfl,.inl p'⟩⟩⟩
    .exact(AD.drew _ _).trans (AD.alloc _ _ _)
    .refine⟨dU _,by simpa using hle,fun i hi=>?_,fun _=>⟨ml ⟨l.toArray⟩ cap,e,_,hK _ _,.inr ⟨rfl,dU _⟩,by rw[ao,kR],fun i j hi hj=>?_⟩⟩
     .have C:i<l.length:=by simpa using hi
      have:(l.map Js).getD i .any=Js (l.getD i 0):=by
       rw[gdE,fm,geE C,gdE,geE C];rfl
      rw[this];exact⟨rfl,rfl⟩
     .have C:i<l.length:=by simpa using hi
      have az:j<1:=hj;have ae:j=0:=n'
      subst ae
      have:(l.map Js).getD i .any=Js (l.getD i 0):=by
       rw[gdE,fm,geE C,gdE,geE C];rfl
      rw[this];have hb:=bytesRow_at ⟨l.toArray⟩ cap i (by simpa using C)
      have hg:(ml ⟨l.toArray⟩ cap).getD (i*1+0) cB = .int .u8 ((l.getD i 0).toNat:Int):=by
       rw[agD,kR,fA,hb,gdE,geE C];rfl
      rw[hg];exact .int
  .cases I
 .cases hc
def LE:∀(xs:List AV) (j:List AV) (off:Nat),(Eg j off xs).length=j.length
 |[],j,off=>rfl
 |x::r,j,off=>by simp only[Eg];rw[LE r];simp
def MT:∀(xs:List AV) (j:List AV) (off x:Nat),(Eg j off xs).getD x .any=if off<=x/\x<off+xs.length/\x<j.length then xs.getD (x-off) .any else j.getD x .any
 |[],j,off,x=>by simp only[Eg,hV];rw[if_neg n']
 | q::r,j,off,x=>by
  simp only[Eg];rw[MT r];simp only[List.length_set,j6]
  by_cases C:off+1<=x/\x<off+1+r.length/\x<j.length
  .rw[if_pos C,if_pos n'];rw[show x-off=(x-(off+1))+1 by omega,h4]
  .rw[if_neg C]
   by_cases h2:off=x
   .subst h2
    by_cases I:off<j.length
    .rw[if_pos n',ke,eL,gdE,hR I];rfl
    .rw[if_neg n',gdE,gdE,fa t',fa n']
   .rw[if_neg n',gdE,iB h2,gdE]
def bH:∀(l:List Value) (k off:Nat) (cs:Array Value),((l.zipIdx k).foldl (fun cs p=>cs.setIfInBounds (off+p.2) p.1) cs).size=cs.size /\
  ∀x,((l.zipIdx k).foldl (fun cs p=>cs.setIfInBounds (off+p.2) p.1) cs).getD x cB=if off+k<=x/\x<off+k+l.length/\x<cs.size then l.getD (x-(off+k)) cB else cs.getD x cB
 |[],k,off,cs=>⟨rfl,fun x=>by simp only[List.zipIdx_nil,List.foldl_nil,hV];rw[if_neg n']⟩
 | v::l,k,off,cs=>by
  have j:=bH l (k+1) off (cs.setIfInBounds (off+k) v);refine⟨by simp only[lg,lJ];rw[j.1];simp,fun x=>?_⟩;simp only[lg,lJ];rw[j.2 x];simp only[ga,j6]
  by_cases C:off+(k+1)<=x/\x<off+(k+1)+l.length/\x<cs.size
  .rw[if_pos C,if_pos n',show x-(off+k)=(x-(off+(k+1)))+1 by omega,h4]
  .rw[if_neg C]
   by_cases h2:off+k=x
   .subst h2
    by_cases I:off+k<cs.size
    .rw[if_pos n',ke,eL,Kr I]
    .rw[if_neg n',agD,agD,gk t',gk n']
   .rw[if_neg n',Ez h2]
def Ut(C cs:Array Value)(off:Nat):C.zipIdx.foldl (fun cs (c,j)=>cs.setIfInBounds (off+j) c) cs=(C.toList.zipIdx 0).foldl (fun cs p=>cs.setIfInBounds (off+p.2) p.1) cs:=by
 rw[←Array.foldl_toList,Array.toList_zipIdx]
structure yh(S:Nat->Prop)(w:cb)(cs:Array Value)(as:List AV):Prop where
 n:cs.size=as.length
 at_:∀j,j<as.length->(as.getD j .any).atom=bI
 r:∀j,j<as.length->VR S w (cs.getD j cB) (as.getD j .any)
def yh.put{S:Nat->Prop}{cs:Array Value}{I:List AV}(h:yh S w cs I){v:Value}{a:AV}(hv:VR S w v a)(U:a.atoms=bI){off:Nat}(ab:off+a.cells.length<=I.length):
  yh S w (v.cells.zipIdx.foldl (fun cs (c,j)=>cs.setIfInBounds (off+j) c) cs) (Eg I off a.cells):=by
 have R:=hv.cells U;have J:=bH v.cells.toList 0 off cs;rw[Ut];refine⟨by rw[J.1,LE,h.n],fun j C=>?_,fun j C=>?_⟩
 .rw[LE]at C;rw[MT];split
  .exact It U n'
  .exact h.at_ j C
 .rw[LE]at C;rw[MT,J.2 j];simp only[fx,R.1,fA,h.n];split
  .rw[FK];exact R.2 _ n'
  .exact h.r j C
def nr(P:b')(w:cb){α β:Type}(f:α->Sem β)(q:α->β):∀(l:List α),(∀x,x∈l->(f x).run P w = .ok (q x) w)->(l.mapM f).run P w = .ok (l.map q) w
 |[],_=>by simp
 | x::l,h=>by
  rw[List.mapM_cons,ed,h x p'];simp only[c',ed,nr P w f q l (fun y j=>h y (by simp[j])),h7,fp]
def lK(P:b')(w:cb){α β:Type}(f:α->Sem β)(q:α->β)(xs:Array α)(h:∀x,x∈xs->(f x).run P w = .ok (q x) w):(xs.mapM f).run P w = .ok (xs.map q) w:=by
 rw[Array.mapM_eq_mapM_toList,Sem.run_map,nr P w f q xs.toList (fun x j=>h x (by simpa using j))];cases xs;simp
def QP(P:b')(vm ss:List Nat)(j:Array n9):List (Nat×gn)->List (Nat×Nat×Src)->Bool
 |[],[]=>bI
 | p::r,q::t=>Bb vm ss p.2 q.2.2&&((match j[p.1]? with
   |some f=>f.offset==q.1&&Wq P f.type==bS q.2.1
   |none=>bR)&&QP P vm ss j r t)
 |_,_=>bR
def sI(P:b')(vm ss:List Nat)(z:List AV)(ps:List (Nat×Nat×Src)):Op->Bool
 | .build t parts=>(match P.underlying t with
  | some (.struct j)=>j.toList.all (fun f=>(Wq P f.type).isSome)&&((match tx P t with
   |some (.agg cs)=>Yn cs.toList z
   |_=>bR)&&QP P vm ss j parts.toList ps)
  |_=>bR)
 |_=>bR
def pC(h:FR F g w tmps vm ss s)(fs:Array n9)(I:∀f,f∈fs->(Wq P f.type).isSome=bI):∀(parts:List (Nat×gn)) (ps:List (Nat×Nat×Src)) (cs:Array Value) (z:List AV),
  QP P vm ss fs parts ps=bI->SY z.length (ps.map fun p=>(p.1,p.2.1,rd s p.2.2))=bI->yh (AR F g s.ob) w cs z ->
  ∃C,iS (((fs.map fun f=>(f.offset,(Wq P f.type).getD 0)))[·]?) cs (parts.map fun p=>(p.1,(D' tmps ds).eval p.2))=bS C/\yh (AR F g s.ob) w C (bO z (ps.map fun p=>(p.1,p.2.1,rd s p.2.2)))
 |[],[],cs,z,_,_,hr=>⟨cs,rfl,hr⟩
 |[],_::_,_,_,hc,_,_=>by simp[QP]at hc
 |_::_,[],_,_,hc,_,_=>by simp[QP]at hc
 | p::r,q::t,cs,z,hc,j,hr=>by
  simp only[QP,baT]at hc;obtain⟨hs,U,J⟩:=hc;simp only[fp,SY,baT,beq_iff_eq,dtE]at j;obtain⟨hl,hle,R,j⟩:=j;split at U
  .rename_i f au;simp only[baT,beq_iff_eq]at U;have hv:=(h.src (ds:=ds) hs).atoms R;have ax:=hv.cells R;have ab:=hr.put hv R (off:=q.1) n';have hz:(Eg z q.1 (rd s q.2.2).cells).length=z.length:=LE _ _ _;obtain⟨C,e,aj⟩:=pC h fs I r t _ _ J (by rw[hz];exact j) ab;refine⟨C,?_,by simp only[fp,bO];exact aj⟩;have ao:(fs.map fun f=>(f.offset,(Wq P f.type).getD 0))[p.1]? = bS (q.1,q.2.1):=by rw[Array.getElem?_map,au];simp[U.1,U.2]
   rw[fp,iS];simp only[ao];have k0:=U.1;have k1:((D' tmps ds).eval p.2).cells.size=q.2.1:=by rw[ax.1,hl]
   have k2:q.1+((D' tmps ds).eval p.2).cells.size<=cs.size:=by rw[k1,hr.n];exact hle
   rw[if_neg (by simp only[gv,dtE];omega)];exact e
  .cases U
def AES(h:FR F g w tmps vm ss s){z:List AV}{ps:List (Nat×Nat×Src)}(I:sI P vm ss z ps o.op=bI)(ad:SY z.length (ps.map fun p=>(p.1,p.2.1,rd s p.2.2))=bI):
  BM (AR F g s.ob) w g s.ob key (GW (SY z.length (ps.map fun p=>(p.1,p.2.1,rd s p.2.2))) (.agg (bO z (ps.map fun p=>(p.1,p.2.1,rd s p.2.2))))) ((bX (D' tmps ds).eval o).run P w):=by
 unfold sI at I;split at I
 .rename_i t parts he;split at I
  .rename_i fs hu;simp only[baT,ew]at I;obtain⟨C,J,hp⟩:=I;split at J
   .rename_i cs U;have hrel:yh (AR F g s.ob) w cs z:=⟨by simpa using bQ _ _ J,fun j hj=>(SZ _ _ j J hj).2,fun j hj=>by rw[←FK];exact rY (SZ _ _ j J hj).1⟩;obtain⟨ao,e,hr⟩:=pC (ds:=ds) h fs (fun f hf=>C f (by simpa using hf)) parts.toList ps cs z hp ad hrel
    have ab:=lK P w (fun f:n9=>(do pure (f.offset,←sizeOf f.type):Sem (Nat×Nat))) (fun f=>(f.offset,(Wq P f.type).getD 0)) fs (fun f hf=>by
     have:=C f (by simpa using hf);cases hs:Wq P f.type with
     |none=>rw[hs]at this;cases this
     |some n=>simp[GA hs])
    refine .val (v:=.agg ao) ?_ rfl (VR.toSR (.agg hr.n hr.at_ hr.r));have R:(parts.map fun p=>(p.1,(D' tmps ds).eval p.2)).toList=parts.toList.map fun p=>(p.1,(D' tmps ds).eval p.2):=p'
    simp only[bX,he,Instr.build,ed,Sw U,c',bN hu,ab,Value.cells];rw[R,e];simp
   .cases J
  .cases I
 .cases I
def Xo(vm ss:List Nat):List (Nat×gn)->List (Nat×Src)->Bool
 |[],[]=>bI
 |p::r,q::t=>Bb vm ss p.2 q.2&&((p.1==q.1)&&Xo vm ss r t)
 |_,_=>bR
def ADI(P:b')(vm ss:List Nat)(sz:Nat)(z:AV)(n:Nat)(ps:List (Nat×Src)):Op->Bool
 | .buildSlice t m parts=>(m==n)&&(cS (n*sz<=16777216)&&(cS (1<=sz)&&((match tL P t with
  | some e=>Wq P e==bS sz&&(match tx P e with
   |some j=>eqv j z&&(z.cells.length==sz&&z.atoms)
   |none=>bR)
  |none=>bR)&&Xo vm ss parts.toList ps)))
 |_=>bR
structure yg(S:Nat->Prop)(w:cb)(sz:Nat)(cs:Array Value)(els:List AV):Prop where
 n:cs.size=els.length*sz
 c:∀i,i<els.length->(els.getD i .any).cells.length=sz/\(els.getD i .any).atoms=bI
 r:∀i j,i<els.length->j<sz->VR S w (cs.getD (i*sz+j) cB) ((els.getD i .any).cells.getD j .any)
variable{sz n:Nat}
def Sa{i j:Nat}(hi:i<n)(C:j<sz):i*sz+j<n*sz:=by
 have:(i+1)*sz<=n*sz:=cd _ n';rw[e7]at this;omega
def yg.put{S:Nat->Prop}{sz:Nat}{cs:Array Value}{els:List AV}(h:yg S w sz cs els){v:Value}{a:AV}(hv:VR S w v a)(ha:a.atoms=bI)(R:a.cells.length=sz){k:Nat}(hk:k<els.length):
  yg S w sz (v.cells.zipIdx.foldl (fun cs (c,j)=>cs.setIfInBounds (k*sz+j) c) cs) (els.set k a):=by
 have hc:=hv.cells ha;have hf:=bH v.cells.toList 0 (k*sz) cs
 have I:∀i,i<els.length->(els.set k a).getD i .any=if k=i then a else els.getD i .any:=by
  intro i hi;rw[gdE,l7]
  by_cases e:k=i
  .simp[e,hi]
  .simp[e,gdE]
 rw[Ut];refine⟨by rw[hf.1,h.n];simp,fun i hi=>?_,fun i j hi U=>?_⟩
 .have C:i<els.length:=by simpa using hi
  rw[I i C];split
  .exact⟨R,ha⟩
  .exact h.c i C
 .have C:i<els.length:=by simpa using hi
  rw[I i C,hf.2];simp only[fx,hc.1,R,fA,h.n];have hb:=Sa C U
  by_cases e:k=i
  .subst e;rw[if_pos rfl,if_pos n',Nat.add_sub_cancel_left,FK];exact hc.2 j n'
  .rw[if_neg e,if_neg]
   .exact h.r i j C U
   .rintro⟨h1,h2,_⟩;rcases l5 e with J|J
    .have:(k+1)*sz<=i*sz:=cd _ n';rw[e7]at this;omega
    .have:(i+1)*sz<=k*sz:=cd _ n';rw[e7]at this;omega
def jS(h:FR F g w tmps vm ss s)(sz:Nat):∀(parts:List (Nat×gn)) (ps:List (Nat×Src)) (cs:Array Value) (els:List AV) (n:Nat),els.length=n ->
  Xo vm ss parts ps=bI->setOk sz n (ps.map fun p=>(p.1,rd s p.2))=bI->yg (AR F g s.ob) w sz cs els ->
  ∃C,iS (fun i=>bS (i*sz,sz)) cs (parts.map fun p=>(p.1,(D' tmps ds).eval p.2))=bS C/\yg (AR F g s.ob) w sz C (PX els (ps.map fun p=>(p.1,rd s p.2)))
 |[],[],cs,els,n,_,_,_,hr=>⟨cs,rfl,hr⟩
 |[],_::_,_,_,_,_,R,_,_=>by simp[Xo]at R
 |_::_,[],_,_,_,_,R,_,_=>by simp[Xo]at R
 | p::r,q::t,cs,els,n,hn,R,j,hr=>by
  simp only[Xo,baT,beq_iff_eq]at R;obtain⟨hs,ad,I⟩:=R;simp only[fp,setOk,baT,beq_iff_eq,dtE]at j;obtain⟨ax,hl,J,j⟩:=j;have hv:=(h.src (ds:=ds) hs).atoms J;have ae:=hv.cells J;have U:=hr.put hv J hl (k:=q.1) n';obtain⟨C,e,ab⟩:=jS h sz r t _ _ n (by simpa using hn) I j U;refine⟨C,?_,by simp only[fp,PX];exact ab⟩;have k1:((D' tmps ds).eval p.2).cells.size=sz:=by rw[ae.1,hl]
  have k2:q.1*sz+((D' tmps ds).eval p.2).cells.size<=cs.size:=by
   rw[k1,hr.n];have:(q.1+1)*sz<=els.length*sz:=cd _ n';rw[e7]at this;omega
  rw[fp,iS];simp only[ad];rw[if_neg (by simp only[gv,dtE];omega)];exact e
def Zp:∀(ps:List (Nat×AV)) (els:List AV),(PX els ps).length=els.length
 |[],_=>rfl
 |p::r,els=>by simp only[PX];rw[Zp r];simp
def AKU(h:FR F g w tmps vm ss s){z:AV}{ps:List (Nat×Src)}(hc:ADI P vm ss sz z n ps o.op=bI)(bo:setOk sz n (ps.map fun p=>(p.1,rd s p.2))=bI):
  BM (AR F g s.ob) w g s.ob key ⟨setOk sz n (ps.map fun p=>(p.1,rd s p.2)),.own (Bn key),[(Bn key,⟨sz,PX (e8 n z) (ps.map fun p=>(p.1,rd s p.2))⟩)]⟩ ((bX (D' tmps ds).eval o).run P w):=by
 unfold ADI at hc;split at hc
 .rename_i t m parts he;simp only[baT,beq_iff_eq,dtE]at hc;obtain⟨hm,hle,hp,C,ay⟩:=hc;subst hm;split at C
  .rename_i e be;simp only[baT,beq_iff_eq]at C;obtain⟨bb,C⟩:=C;split at C
   .rename_i zv hz;simp only[baT,beq_iff_eq]at C;obtain⟨a8,ao,au⟩:=C;have hu:=PW be;have ax:=(ko (S:=AR F g s.ob) (w:=w) a8).cells au;have ba:zv.cells.size=sz:=by rw[ax.1,ao]
    let zc:Array Value:=if m*sz=0 then #[]else zv.cells
    let arr:Array Value:=(kB (m*sz)).map (zc[· % zc.size]!)
    have R:∀i,i<m->(e8 m z).getD i .any=z:=fun i hi=>by
     rw[gdE,hP,if_pos hi];rfl
    have hrel:yg (AR F g s.ob) w sz arr (e8 m z):=by
     refine⟨by simp[arr],fun i hi=>?_,fun i j hi hj=>?_⟩
     .rw[R i (by simpa using hi)];exact⟨ao,au⟩
     .have a1:i<m:=by simpa using hi
      have bz:=Sa a1 hj;have bs:m*sz≠0:=n'
      have az:(i*sz+j)%sz=j:=by rw[h5,hW];exact hQ hj
      have I:zc=zv.cells:=if_neg bs
      have:arr.getD (i*sz+j) cB=zv.cells.getD j cB:=by
       rw[agD,et (by simpa[arr]using bz)];simp only[arr,l4,kI,j3,I,ba,az];rw[getElem!_pos zv.cells j n',agD,et n'];rfl
      rw[R i a1,this];exact ax.2 j n'
    obtain⟨ae,ef,hr⟩:=jS (ds:=ds) h sz parts.toList ps arr (e8 m z) m p' ay bo hrel;have U:(parts.map fun p=>(p.1,(D' tmps ds).eval p.2)).toList=parts.toList.map fun p=>(p.1,(D' tmps ds).eval p.2):=p'
    have hn:¬ (m*sz>2^24):=n'
    have ab:(PX (e8 m z) (ps.map fun p=>(p.1,rd s p.2))).length=m:=by rw[Zp];simp
    refine⟨.slice (bS ⟨w.heap.size,0,cA⟩) m m,w.alloc (.cells ae e),?_,AD.alloc _ _ _,.inr ⟨_,_,w.heap.size,m,rfl,by simp[Bn],dU _,fun S' hS=>?_,.inl ⟨rfl,.inl (by rw[ab])⟩⟩⟩
    .have J:iS (fun i=>bS (i*sz,sz)) ((kB (m*sz)).map fun x=>zc[x%zc.size]!) (parts.toList.map fun p=>(p.1,(D' tmps ds).eval p.2))=bS ae:=ef;simp only[bX,he,Instr.buildSlice,ed,bN hu,c',GA bb];rw[if_neg hn]
     by_cases h0:m*sz=0
     .have I:zc = #[]:=if_pos h0;rw[I]at J;rw[if_pos h0];simp only[ed,h7,c',U,J];simp[k7]
     .have I:zc=zv.cells:=if_neg h0;rw[I]at J;rw[if_neg h0];simp only[ed,h7,c',Sw hz,U,J];simp[k7]
    .refine⟨hp,by rw[ab];exact dU _,hr.c,fun _=>⟨ae,e,(0,0),hK _ _,.inl rfl,by rw[hr.n,ab],fun i j hi hj=>?_⟩⟩;refine(hr.r i j hi hj).mono (AD.alloc _ _ _) fun b hb hc=>?_
     rcases hS b hc with e|e
     .exact e
     .omega
   .cases C
  .cases C
 .cases hc
end
def sS(g0:Gh)(o0:Cx)(g:Gh)(ob:Cx):Prop:=∀k h,k%32=31->AK k ob=bS h ->
 ∃j,AK k o0=bS j/\h.sz=j.sz/\j.els.length<=h.els.length/\(h.els.length=j.els.length->g.β k=g0.β k/\g.cap k=g0.cap k)
variable{g0 g:Gh}{o0 ob:Cx}
def sS.sub{ob':Cx}(h:sS g0 o0 g ob)(hs:∀k h,AK k ob'=bS h->AK k ob=bS h):sS g0 o0 g ob' :=
 fun k hm j C=>h k hm j (hs k hm C)
def sS.new{g0 g:Gh}{o0 ob:Cx}(h:sS g0 o0 g ob){k b cap:Nat}{hm:Hm}(R:k%32≠31):sS g0 o0 ⟨fun j=>if j=k then b else g.β j,fun j=>if j=k then cap else g.cap j⟩ (DM k hm ob):=by
 intro j U I J;have C:j≠k:=fun e=>R (e▸I)
 rw[BP,if_neg (gb C)]at J;simpa[C]using h j U I J
variable{k:Nat}{hm h2:Hm}
def sS.set(h:sS g0 o0 g ob){b cap:Nat}(hk:AK k ob=bS hm)(R:h2.sz=hm.sz)(U:hm.els.length<=h2.els.length)(hb:h2.els.length=hm.els.length->b=g.β k/\cap=g.cap k):
  sS g0 o0 ⟨fun j=>if j=k then b else g.β j,fun j=>if j=k then cap else g.cap j⟩ (DM k h2 ob):=by
 intro j h' J I;rw[BP]at I
 by_cases C:k=j
 .subst C;rw[if_pos rfl]at I;cases I;obtain⟨h0,e0,e1,e2,e3⟩:=h k hm J hk;refine⟨h0,e0,by rw[R,e1],hT e2 U,fun e=>?_⟩;obtain⟨a1,a2⟩:=hb n';obtain⟨b1,b2⟩:=e3 n';simp[a1,a2,b1,b2]
 .rw[if_neg C]at I;simpa[gb C]using h j h' J I
def sS.setSame(h:sS g0 o0 g ob)(U:AK k ob=bS hm)(R:h2.sz=hm.sz)(hl:h2.els.length=hm.els.length):sS g0 o0 g (DM k h2 ob):=by
 intro j h' J I;rw[BP]at I
 by_cases C:k=j
 .subst C;rw[if_pos rfl]at I;cases I;obtain⟨h0,e0,e1,e2,e3⟩:=h k hm J U;exact⟨h0,e0,by rw[R,e1],n',fun e=>e3 n'⟩
 .rw[if_neg C]at I;exact h j h' J I
structure FX(F Iow:Nat->Prop)(w0:cb)(g0:Gh)(o0:Cx)(g:Gh)(w:cb)(tmps:Array Value)(vm ss:List Nat)(s:St):Prop extends FR F g w tmps vm ss s where
 same:AD Iow w0 w
 hio:∀k,Mo g s.ob k->w0.heap.size<=g.β k\/Iow (g.β k)
 fio:∀b,F b->¬ Iow b
 par:sS g0 o0 g s.ob
section
variable {F Iow:Nat->Prop}{w0:cb}{g0:Gh}{o0:Cx}{g:Gh}{w w':cb}{tmps:Array Value}{ds:List hZ}{vm ss ss':List Nat}{s:St}{P:b'}{o:Oper}{key:Nat}
def FR.setLt(h:FR F g w tmps vm ss s){b:Nat}(hb:AR F g s.ob b):b<w.heap.size:=by
 rcases hb with hb|⟨k,⟨⟨hm,C⟩,j⟩,rfl⟩
 .exact h.fb b hb
 .exact(h.home k hm C).lt j
def AD.into(j:AD Iow w0 w)(C:AD (fun b=>w0.heap.size<=b\/Iow b) w w'):AD Iow w0 w':=by
 refine⟨C.os.trans j.os,C.tape.trans j.tape,C.output.trans j.output,hT j.size C.size,fun b hb I=>?_⟩
 have J:¬ (w0.heap.size<=b\/Iow b):=by
  rintro(c|c)
  .omega
  .exact I c
 exact(C.block b (hD hb j.size) J).trans (j.block b hb I)
def FX.mk'(h:FR F g w' tmps vm ss s){w:cb}(C:AD Iow w0 w)(j:AD (fun b=>w0.heap.size<=b\/Iow b) w w')(hio:∀k,Mo g s.ob k->w0.heap.size<=g.β k\/Iow (g.β k))(fio:∀b,F b->¬ Iow b)(par:sS g0 o0 g s.ob):FX F Iow w0 g0 o0 g w' tmps vm ss s :=
 ⟨h,C.into j,hio,fio,par⟩
variable{k d:Nat}{hm:Hm}
def jb(j:AK k (clear s d).ob=bS hm):AK k s.ob=bS hm:=by
 unfold Go.Proofs.YtegmpdmpgmpiaaaGreatDoor.clear at j;rw[AM]at j;split at j
 .simp only[Ij]at j;split at j
  .cases j
  .exact j
 .exact j
def pR(C:Lb (clear s d).ob k):Lb s.ob k:=by
 obtain⟨hm,j⟩:=C;unfold Go.Proofs.YtegmpdmpgmpiaaaGreatDoor.clear at j;rw[AM]at j;split at j
 .simp only[Ij]at j;split at j
  .cases j
  .exact⟨hm,j⟩
 .exact⟨hm,j⟩
def FR.addNew(h:FR F g w tmps vm ss s)(U:AD C' w w'){k b cap:Nat}{hm:Hm}(J:¬ Lb s.ob k)(hb:w.heap.size<=b)
  (I:∀S':Nat->Prop,(∀c,S' c->AR F g s.ob c\/c=b)->Hy S' w' b cap hm.sz hm.els) :
  FR F ⟨fun j=>if j=k then b else g.β j,fun j=>if j=k then cap else g.cap j⟩ w' tmps vm ss { s with ob:=DM k hm s.ob }:=by
 have C:AD (AR F g s.ob) w w':=U.mono fun _ _ c=>c.elim
 have R:∀c,c<w.heap.size->(AR F g s.ob c\/c=b)->AR F g s.ob c:=fun c hc aa=>by
  rcases aa with e|e
  .exact e
  .omega
 refine(h.grow U).add J (fun _ c hc e=>?_) I (fun k' h' hg=>?_) (fun i hi=>?_) (fun i hi=>?_) (h.tab.mono C R)
 .have:=h.setLt hc;omega
 .exact(h.home k' h' hg).mono C (fun hp=>U.block _ ((h.home k' h' hg).lt hp) (fun c=>c)) R
 .exact(h.vs i hi).mono C R fun k _ hm J=>⟨hm,J,rfl,rfl,rfl,rfl⟩
 .exact(h.st i hi).mono C R fun k _ hm J=>⟨hm,J,rfl,rfl,rfl,rfl⟩
def FX.still(h:FX F Iow w0 g0 o0 g w tmps vm ss s)(aj:RR vm){dst:Option Nat}{D:Kc}(hd:Fb vm ss dst D=bS ss')(I:∀d,dst=bS d->d<tmps.size){m:Mk}{r:Result Next}
  (hp:BM (AR F g s.ob) w g s.ob key m r):∃v w' g',r = .ok (.value v) w'/\FX F Iow w0 g0 o0 g' w' (Jo tmps dst v) vm ss' (EH s key D m):=by
 obtain⟨v,w',hr,hw,U⟩:=hp;have aa:AD (fun b=>w0.heap.size<=b\/Iow b) w w':=hw.mono fun _ _ c=>c.elim
 rcases U with⟨R,hv⟩|⟨k,hm,b,cap,R,J,hb,ae,ab⟩
 .refine⟨v,w',g,hr,?_⟩;unfold EH;rw[R];simp only[VW];have h1:=(h.toFR.grow hw).put aj hd I m.ok (v:=v) (a:=m.v) (fun _=>hv);have this:(BH s m.ok m.v D).ob=s.ob:=by cases D<;>rfl
  refine FX.mk' (w:=w) h1 h.same aa (fun k J=>?_) h.fio (by rw[this];exact h.par);rw[this]at J;exact h.hio k J
 .have h1:=h.toFR.clear key;have ad:∀c,AR F g (clear s key).ob c->AR F g s.ob c:=fun c hc=>Jc (fun k J=>pR J) hc
  have h2:=h1.addNew hw (k:=k) (b:=b) (cap:=cap) (hm:=hm) (rm h.toFR J.1) hb (fun S' hS=>ae S' fun c hc=>by
   rcases hS c hc with e|e
   .exact .inl (ad c e)
   .exact .inr e)
  refine⟨v,w',⟨fun j=>if j=k then b else g.β j,fun j=>if j=k then cap else g.cap j⟩,hr,?_⟩;unfold EH;rw[R];simp only[VW,Tq,GU]
  have h3:=h2.put aj hd I m.ok (v:=v) (a:=m.v) (fun _=>by
   rcases ab with⟨e1,e3⟩|⟨e1,e2,rfl⟩
   .rw[e1];exact⟨hm,by simp[BP],by simpa using e3⟩
   .rw[e1];exact⟨hm,by simp[BP],e2,p'⟩)
  have ay:∀j h',AK j (clear s key).ob=bS h'->AK j s.ob=bS h':=fun j h' hg=>jb hg
  refine FX.mk' (w:=w) h3 h.same aa (fun j hj=>?_) h.fio (by
   have:(BH { clear s key with ob:=DM k hm (clear s key).ob } m.ok m.v D).ob=DM k hm (clear s key).ob:=by cases D<;>rfl
   rw[this];exact(h.par.sub ay).new J.2)
  have:(BH { clear s key with ob:=DM k hm (clear s key).ob } m.ok m.v D).ob=DM k hm (clear s key).ob:=by cases D<;>rfl
  rw[this]at hj
  by_cases C:j=k
  .subst C;simp only[if_true];exact .inl (hT h.same.size hb)
  .simp only[C,if_false];obtain⟨⟨ax,hg⟩,hp⟩:=hj;rw[BP,if_neg (gb C)]at hg;simp only[C,if_false]at hp;exact h.hio j ⟨pR ⟨ax,hg⟩,hp⟩
def Hy.sl{S S':Nat->Prop}{b cap sz:Nat}{els:List AV}(I:Hy S w b cap sz els){r:Nat->Nat->Value}
  (C:∀i j,i<els.length->j<sz->w.cell? ⟨b,i*sz+j,cA⟩=bS (r i j)/\VR S w (r i j) ((els.getD i .any).cells.getD j .any)) (hS:∀c,S' c->S c) (hn:0<cap->¬ S' b) :
  VR S' w (.slice (bS ⟨b,0,cA⟩) els.length cap) (.sl sz els)/\(cap=0->VR S' w (.slice cA 0 0) (.sl sz els)) /\
  ∀i off,i<els.length->VR S' w (.pointer (bS ⟨b,i*sz+off,cA⟩)) (.ptr sz els i off):=by
 have J:0<els.length->¬ S' b:=fun U=>hn (by have:=I.len;omega)
 have hr:∀i j,i<els.length->j<sz->VR S' w (r i j) ((els.getD i .any).cells.getD j .any):=fun i j hi R=>
  (C i j hi R).2.mono (AD.refl _ _) fun b _ hb=>hS b hb
 refine⟨.sl b 0 r rfl I.len I.pos (fun U=>⟨rfl,J U⟩) I.cells (fun i j hi R=>by rw[cI];exact(C i j hi R).1) hr,fun h0=>?_,fun i off hi=>?_⟩
 .have he:els=[]:=by have:=I.len;rw[h0]at this;exact d'.1 n'
  subst he;exact .sl 0 0 (fun _ _=>cB) rfl (dU _) I.pos (fun U=>by simp at U) (fun i hi=>by simp at hi) (fun i j hi _=>by simp at hi) (fun i j hi _=>by simp at hi)
 .have:=VR.ptr (S:=S') (w:=w) (i0:=i) (o0:=off) b 0 r I.pos hi (J n') I.cells (fun i j hi R=>by rw[cI];exact(C i j hi R).1) hr
  rwa [cI]at this
def FR.sl_of(h:FR F g w tmps vm ss s)(hk:AK k s.ob=bS hm){S':Nat->Prop}(hS:∀b,S' b->AR F g s.ob b/\(0<g.cap k->b≠g.β k)):
  VR S' w (.slice (bS ⟨g.β k,0,cA⟩) hm.els.length (g.cap k)) (.sl hm.sz hm.els) /\
  ∀i off,i<hm.els.length->VR S' w (.pointer (bS ⟨g.β k,i*hm.sz+off,cA⟩)) (.ptr hm.sz hm.els i off):=by
 have I:=h.home k hm hk;obtain⟨r,C⟩:=I.cell;have J:0<hm.els.length->¬ S' (g.β k):=fun hp c=>(hS _ c).2 (by have:=I.len;omega) rfl
 have U:∀i j,i<hm.els.length->j<hm.sz->VR S' w (r i j) ((hm.els.getD i .any).cells.getD j .any):=fun i j hi R=>
  (C i j hi R).2.mono (AD.refl _ _) fun b _ hb=>(hS b hb).1
 refine⟨.sl (g.β k) 0 r rfl I.len I.pos (fun hp=>⟨rfl,J hp⟩) I.cells (fun i j hi R=>by rw[cI];exact(C i j hi R).1) U,fun i off hi=>?_⟩;have:=VR.ptr (S:=S') (w:=w) (i0:=i) (o0:=off) (g.β k) 0 r I.pos hi (J n') I.cells (fun i j hi R=>by rw[cI];exact(C i j hi R).1) U
 rwa [cI]at this
def Uf(h:FR F g w tmps vm ss s){k:Nat}{hm:Hm}(I:AK k s.ob=bS hm){v:Value}{a:AV}(ha:QX (AR F g s.ob) w g s.ob v a):QX (AR F g (MU k s.ob)) w g (MU k s.ob) v (a.fz1 k hm):=by
 have hS:∀b,AR F g (MU k s.ob) b->AR F g s.ob b/\(0<g.cap k->b≠g.β k):=by
  intro b hb;rcases hb with hb|⟨j,⟨⟨C,hg⟩,hp⟩,e⟩
  .exact⟨.inl hb,fun hp e=>h.nF k ⟨⟨hm,I⟩,hp⟩ (e▸hb)⟩
  .rw[FH]at hg;split at hg
   .cases hg
   .rename_i R;exact⟨.inr ⟨j,⟨⟨C,hg⟩,hp⟩,e⟩,fun ae e2=>R (h.inj k j ⟨⟨hm,I⟩,ae⟩ ⟨⟨C,hg⟩,hp⟩ (by rw[e,e2]))⟩
 have keep:∀j C,j≠k->AK j s.ob=bS C->AK j (MU k s.ob)=bS C:=fun j C R hg=>by rw[FH,if_neg (gb R)];exact hg
 cases a
 case own j=>
  obtain⟨C,J,e⟩:=ha;simp only[AV.fz1,AM,beq_iff_eq];split
  .rename_i U;subst U;rw[I]at J;cases J;rcases e with e|⟨hz,e⟩
   .rw[e];exact(h.sl_of I hS).1
   .rw[e,h.nil_els I hz];exact .sl 0 0 (fun _ _=>cB) rfl (dU _) (h.home j hm I).pos (fun hp=>by simp at hp) (fun i hi=>by simp at hi) (fun i j hi _=>by simp at hi) (fun i j hi _=>by simp at hi)
  .rename_i U;exact⟨C,keep j C U J,e⟩
 case ref j i off=>
  obtain⟨C,J,hi,e⟩:=ha;simp only[AV.fz1,AM,beq_iff_eq];split
  .rename_i U;subst U;rw[I]at J;cases J;rw[e];exact(h.sl_of I hS).2 i off hi
  .rename_i U;exact⟨C,keep j C U J,hi,e⟩
 all_goals
  simp only[QX,AV.fz1]at ha ⊢;exact ha.mono (AD.refl _ _) fun b _ hb=>(hS b hb).1
def AIy(h:FR F g w tmps vm ss s)(I:AK k s.ob=bS hm){v:Value}{a:AV}(C:SR (AR F g s.ob) w g s.ob v a):SR (AR F g (MU k s.ob)) w g (MU k s.ob) v (a.fz k hm):=by
 have R:∀(l:List AV) j,(l.map (AV.fz1 k hm)).getD j .any=(l.getD j .any).fz1 k hm:=fun l j=>CA _ rfl l j
 cases a
 case fn f a1 a2=>
  obtain⟨v1,v2,e,n1,n2,U,h2⟩:=C;exact⟨v1,v2,e,by simpa using n1,by simpa using n2,fun j J=>by rw[R];exact Uf h I (U j (by simpa using J)),fun j J=>by rw[R];exact Uf h I (h2 j (by simpa using J))⟩
 case tup aa=>
  obtain⟨vs,e,n,U⟩:=C;exact⟨vs,e,by simpa using n,fun j J=>by rw[R];exact Uf h I (U j (by simpa using J))⟩
 case opt b a=>
  simp only[SR,AV.fz]at C ⊢;split at C
  .rename_i hb;rw[if_pos hb];exact Uf h I C
  .rename_i hb;rw[if_neg hb];exact C
 case own j=>exact(Uf h I (a:=.own j) C).toSR
 case ref j i off=>exact(Uf h I (a:=.ref j i off) C).toSR
 all_goals
  simp only[SR]at C;exact(Uf h I C).toSR
def FX.freezeH(h:FX F Iow w0 g0 o0 g w tmps vm ss s)(k:Nat):FX F Iow w0 g0 o0 g w tmps vm ss (freezeH s k (AK k s.ob)):=by
 cases hk:AK k s.ob with
 |none=>exact h
 | some hm=>
  have I:∀j,Lb (MU k s.ob) j->Lb s.ob j:=fun j ⟨J,C⟩=>by
   rw[FH]at C;split at C
   .cases C
   .exact⟨J,C⟩
  have R:FR F g w tmps vm ss (Go.Proofs.YtegmpdmpgmpiaaaGreatDoor.freezeH s k (bS hm)):=by
   refine⟨fun j J C=>?_,fun j U a b=>h.inj j U ⟨I j a.1,a.2⟩ ⟨I U b.1,b.2⟩,fun j a=>h.nF j ⟨I j a.1,a.2⟩,h.fb,by simpa[Go.Proofs.YtegmpdmpgmpiaaaGreatDoor.freezeH]using h.vl,by simpa[Go.Proofs.YtegmpdmpgmpiaaaGreatDoor.freezeH]using h.sl,fun i hi=>?_,fun i hi=>?_,h.fit,h.tab.mono (AD.refl _ _) fun b _ hb=>Jc I hb⟩
   .simp only[Go.Proofs.YtegmpdmpgmpiaaaGreatDoor.freezeH]at C ⊢;rw[FH]at C;split at C
    .cases C
    .exact(h.home j J C).mono (AD.refl _ _) (fun _=>rfl) fun b _ hb=>Jc I hb
   .simp only[Go.Proofs.YtegmpdmpgmpiaaaGreatDoor.freezeH];rw[CA _ rfl];exact AIy h.toFR hk (h.vs i hi)
   .simp only[Go.Proofs.YtegmpdmpgmpiaaaGreatDoor.freezeH];rw[CA _ rfl];exact AIy h.toFR hk (h.st i hi)
  exact⟨R,h.same,fun j hj=>h.hio j ⟨I j hj.1,hj.2⟩,h.fio,h.par.sub fun j J C=>by
   simp only[Go.Proofs.YtegmpdmpgmpiaaaGreatDoor.freezeH]at C;rw[FH]at C;split at C
   .cases C
   .exact C⟩
def FX.freezeAll(ks:List Nat):∀{s:St},FX F Iow w0 g0 o0 g w tmps vm ss s->FX F Iow w0 g0 o0 g w tmps vm ss (freezeAll s ks):=by
 induction ks with
 |nil=>intro s h;exact h
 |cons k r j=>intro s h;exact j (h.freezeH k)
end
open Go Go.RowKit
section
variable {F Iow:Nat->Prop}{w0:cb}{g0:Gh}{o0:Cx}{g:Gh}{w w':cb}{tmps:Array Value}{ds:List hZ}{vm ss ss':List Nat}{s:St}{P:b'}{o:Oper}{key:Nat}
def nE{b off:Nat}{j:Array Value}{T:dx}{C:Nat×Nat}{v:Value}(hb:w.heap[b]? = bS (.cells j T C)):
  (w.setCell ⟨b,off,cA⟩ v).heap[b]? = bS (.cells (j.setIfInBounds off v) T C)/\AD (fun c=>c=b) w (w.setCell ⟨b,off,cA⟩ v):=by
 refine⟨by simp[World.setCell,Array.getElem?_modify,hb],⟨rfl,rfl,rfl,p',fun c J I=>?_⟩⟩;exact Below.heap_setCell w _ _ c I
def PY(b:Nat)(T:dx)(fz:Nat×Nat):∀(vs:List Value) (o i:Nat) (arr:Array Value) (w:cb),w.heap[b]? = bS (.cells arr T fz)->(fz=(0,0)\/arr.size<=fz.1)->o+i+vs.length<=arr.size->(∀v,v∈vs->v.oneCell'=bI) ->
  ∃ w' j,(kf ⟨b,o,cA⟩ vs i).run P w = .ok () w'/\AD (fun c=>c=b) w w'/\w'.heap[b]? = bS (.cells j T fz)/\j.size=arr.size /\
   ∀x,j.getD x cB=if o+i<=x/\x<o+i+vs.length then vs.getD (x-(o+i)) cB else arr.getD x cB
 |[],o,i,arr,w,hb,_,_,_=>⟨w,arr,rfl,AD.refl _ _,hb,rfl,fun x=>by simp only[hV];rw[if_neg n']⟩
 | v::vs,o,i,arr,w,hb,U,hle,h1=>by
  have J:o+i<arr.size:=by simp at hle;omega
  have I:w.cell? ⟨b,o+i,cA⟩=bS arr[o+i]:=by simp[kp,hb,J]
  have aa:w.frozen? ⟨b,o+i,cA⟩=bR:=by
   simp only[World.frozen?,hb];rcases U with e|e
   .subst e;simp
   .simp;omega
  have ae:(store ((⟨b,o,cA⟩:Addr).add i) v).run P w = .ok () (w.setCell ⟨b,o+i,cA⟩ v):=by
   rw[Ic,run_store P w _ v _ (h1 v p'),I];simp[aa]
  obtain⟨ao,C⟩:=nE (off:=o+i) (v:=v) hb;obtain⟨w',j,hr,hs,aj,ad,R⟩:=PY b T fz vs o (i+1) (arr.setIfInBounds (o+i) v) (w.setCell ⟨b,o+i,cA⟩ v) ao (by simpa using U) (by simp at hle ⊢;omega) (fun x hx=>h1 x (by simp[hx]));refine⟨w',j,by simp only[kf,ed,ae,c',hr],C.trans hs,aj,by simpa using ad,fun x=>?_⟩;rw[R x];simp only[j6]
  by_cases c1:o+(i+1)<=x/\x<o+(i+1)+vs.length
  .rw[if_pos c1,if_pos n',show x-(o+i)=(x-(o+(i+1)))+1 by omega,h4]
  .rw[if_neg c1]
   by_cases c2:o+i=x
   .subst c2;rw[if_pos n',ke,eL,Kr J]
   .rw[if_neg n',Ez c2]
def sE(P:b')(vm ss:List Nat)(sz:Nat)(p x:Src):Op->Bool
 |.store t a b=>Bb vm ss a p&&(Bb vm ss b x&&Wq P t==bS sz)
 |_=>bR
def ph{a:AV}(h:a.atom=bI):a.isAgg=bR:=by cases a<;>first|rfl|(simp[AV.atom]at h)
def yL(l:List AV)(j:Nat)(h:j<l.length):l[j]=l.getD j .any:=by
 rw[gdE,geE h];rfl
def rA{el:AV}{xs:List AV}{off:Nat}(J:∀j,j<xs.length->(xs.getD j .any).atom=bI)(C:off+xs.length<=el.cells.length):(el.like (Eg el.cells off xs)).cells=Eg el.cells off xs:=by
 by_cases R:el.isAgg=bI
 .cases el<;>simp[AV.isAgg]at R
  rfl
 .have U:=Xp (by simpa using R:el.isAgg=bR);rw[U]at C ⊢;simp only[List.length_singleton]at C;have I:∀y,el.like [y]=y:=fun y=>by cases el<;>first|rfl|(simp[AV.isAgg]at R)
  match xs,J,C with
  |[],_,_=>simp only[Eg];rw[I,U]
  | [y],J,C=>
   have h0:off=0:=by simp at C;omega
   subst h0;simp only[Eg,List.set_cons_zero];rw[I];exact Xp (ph (by simpa using J 0 p'))
  |y::z::r,_,C=>simp at C;omega
variable{k:Nat}{hm h2:Hm}
def Tm.set(R:AK k s.ob=bS hm)(J:h2.els.length=hm.els.length)(I:h2.sz=hm.sz)(j:Nat):Tm g g s.ob (DM k h2 s.ob) j:=by
 intro U C
 by_cases e:k=j
 .subst e;rw[R]at C;cases C;exact⟨h2,by rw[BP,if_pos rfl],J,I,rfl,rfl⟩
 .exact⟨U,by rw[BP,if_neg e];exact C,rfl,rfl,rfl,rfl⟩
def QE{j:Nat}{ob:Cx}(I:AK k ob=bS hm)(J:Lb (DM k h2 ob) j):Lb ob j:=by
 obtain⟨R,C⟩:=J;rw[BP]at C;split at C
 .rename_i e;subst e;exact⟨hm,I⟩
 .exact⟨R,C⟩
def FX.change(h:FX F Iow w0 g0 o0 g w tmps vm ss s){k:Nat}{hm h2:Hm}(J:AK k s.ob=bS hm)(hp:0<g.cap k)(hl:h2.els.length=hm.els.length)(hz:h2.sz=hm.sz)(hw:AD (fun c=>c=g.β k) w w')
  (aa:Hy (AR F g s.ob) w' (g.β k) (g.cap k) h2.sz h2.els) (ok:Bool):FX F Iow w0 g0 o0 g w' tmps vm ss { s with ob:=DM k h2 s.ob,ok:=ok }:=by
 have C:∀c,AR F g (DM k h2 s.ob) c->AR F g s.ob c:=fun c hc=>Jc (fun j hj=>QE J hj) hc
 have I:AD (AR F g s.ob) w w':=hw.mono fun c _ e=>.inr ⟨k,⟨⟨hm,J⟩,hp⟩,e.symm⟩
 have ab:=h.toFR.slots (w':=w') (g':=g) (ob':=DM k h2 s.ob) id rfl I (fun b _ c=>C b c) (fun a v _=>.inr ⟨rfl,fun j _=>Tm.set J hl hz j⟩) (fun j h' R=>by
  rw[BP]at R;split at R
  .rename_i e;subst e;cases R;exact aa.mono (AD.refl _ _) (fun _=>rfl) fun b _ c=>C b c
  .rename_i e;exact(h.home j h' R).mono I (fun U=>hw.block _ ((h.home j h' R).lt U) fun e2=>e (h.inj k j ⟨⟨hm,J⟩,hp⟩ ⟨⟨h',R⟩,U⟩ e2.symm)) fun b _ c=>C b c) (fun j j' a b=>h.inj j j' ⟨QE J a.1,a.2⟩ ⟨QE J b.1,b.2⟩) (fun j a=>h.nF j ⟨QE J a.1,a.2⟩) ok
 simp only[List.map_id]at ab;refine FX.mk' (w:=w) ab h.same (hw.mono fun c _ e=>?_) (fun j hj=>h.hio j ⟨QE J hj.1,hj.2⟩) h.fio (h.par.setSame J hz hl);rw[e];exact h.hio k ⟨⟨hm,J⟩,hp⟩
def FX.store(h:FX F Iow w0 g0 o0 g w tmps vm ss s){sz:Nat}{p x:Src}(hc:sE P vm ss sz p x o.op=bI)(C:(MN s sz (rd s x) (rd s p)).ok=bI):
  ∃w',(bX (D' tmps ds).eval o).run P w = .ok .skip w'/\FX F Iow w0 g0 o0 g w' tmps vm ss (MN s sz (rd s x) (rd s p)):=by
 unfold sE at hc;split at hc
 .rename_i t a b he;simp only[baT,beq_iff_eq]at hc;obtain⟨b3,b2,b1⟩:=hc;have ba:=h.toFR.src (ds:=ds) b3;have a7:=h.toFR.src (ds:=ds) b2;revert C;generalize rd s p=ap at ba;generalize rd s x=ax at a7;intro C;cases ap<;>simp only[MN,fail]at C<;>try(cases C;done)
  case ref k i off=>
   obtain⟨hm,ho,hi,b5⟩:=ba;simp only[MN,ho,Tv]at C ⊢;simp only[VC,baT,beq_iff_eq,dtE]at C;obtain⟨_,b8,U,hle,ae⟩:=C;have hh:=h.home k hm ho;obtain⟨arr,T,fz,hr,hf,az,a8⟩:=hh.row (by have:=hh.len;omega);have b0:=a7.atoms ae;have J:=b0.cells ae;have R:=hh.cells i hi
   have hbound:i*hm.sz+hm.sz<=arr.size:=by
    have h1:=hh.len;have:(i+1)*hm.sz<=g.cap k*hm.sz:=cd _ n';rw[e7]at this;omega
   obtain⟨w',bs,bb,aa,b7,ay,bh⟩:=PY (P:=P) (g.β k) T fz ((D' tmps ds).eval b).cells.toList (i*hm.sz+off) 0 arr w hr (hf.imp_right And.right) (by simp only[fx,J.1,U];rw[R.1]at hle;omega) (fun u hu=>by
    obtain⟨j,hj,rfl⟩:=iN hu;have be:j<ax.cells.length:=by rw[←J.1];simpa using hj
    have:=(J.2 j be).oneCell (It ae be);rw[←FK,gdE,geE hj]at this;exact this)
   refine⟨w',?_,?_⟩
   .have b6:((D' tmps ds).eval b).cells.size=sz:=by rw[J.1,U]
    simp[bX,he,Instr.storeAt,hX,b5,storeVar,GA b1,b6,bb]
   .have a6:=rA (el:=hm.els.getD i .any) (xs:=ax.cells) (off:=off) (fun j hj=>It ae hj) n';refine h.change (h2:=⟨hm.sz,hm.els.set i ((hm.els.getD i .any).like (Eg (hm.els.getD i .any).cells off ax.cells))⟩) ho (by have:=hh.len;omega) p' rfl aa ?_ _;have I:AD (AR F g s.ob) w w':=aa.mono fun c _ e=>.inr ⟨k,⟨⟨hm,ho⟩,by have:=hh.len;omega⟩,e.symm⟩
    have au:∀i',i'<hm.els.length->(hm.els.set i ((hm.els.getD i .any).like (Eg (hm.els.getD i .any).cells off ax.cells))).getD i' .any=if i=i' then(hm.els.getD i .any).like (Eg (hm.els.getD i .any).cells off ax.cells)else hm.els.getD i' .any:=by
     intro i' ad;rw[gdE,l7]
     by_cases e:i=i'
     .simp[e,ad]
     .simp[e,gdE]
    have a1:(Eg (hm.els.getD i .any).cells off ax.cells).length=hm.sz:=by rw[LE,R.1]
    refine⟨hh.pos,by simpa using hh.len,fun i' ad=>?_,fun _=>⟨bs,T,fz,b7,by rw[ay];exact hf,by rw[ay,az],fun i' j ad hj=>?_⟩⟩
    .have ab:i'<hm.els.length:=by simpa using ad
     rw[au i' ab];split
     .refine⟨by rw[a6,a1],?_⟩;simp only[AV.atoms,a6,ew];intro q hq;obtain⟨j,hj,rfl⟩:=iN hq;rw[yL _ j hj,MT];split
      .exact It ae n'
      .exact It R.2 (by rw[R.1];omega)
     .exact hh.cells i' ab
    .have ab:i'<hm.els.length:=by simpa using ad
     have cc:j<hm.sz:=hj;rw[au i' ab,bh];simp only[fx,J.1,U,fA]
     by_cases e:i=i'
     .subst e;rw[if_pos rfl,a6,MT]
      by_cases c1:off<=j/\j<off+sz
      .rw[if_pos n',if_pos (by rw[U,R.1];omega),FK,show i*hm.sz+j-(i*hm.sz+off)=j-off by omega];exact(J.2 (j-off) n').ext I
      .rw[if_neg n',if_neg (by rw[U];omega)];exact(a8 i j hi hj).ext I
     .rw[if_neg e,if_neg]
      .exact(a8 i' j ab hj).ext I
      .rw[R.1]at hle;rintro⟨c1,c2⟩;rcases l5 e with b4|b4
       .have:(i+1)*hm.sz<=i'*hm.sz:=cd _ n';rw[e7]at this;omega
       .have:(i'+1)*hm.sz<=i*hm.sz:=cd _ n';rw[e7]at this;omega
 .cases hc
def XR(P:b')(t:dx):Bool :=
 match P.underlying t with
 |some (.slice _)=>bI
 |some .string=>bI
 |_=>bR
def AGS(P:b')(vm ss:List Nat)(sz bytes:Nat)(z:AV)(a x:Src):Op->Bool
 | .call { callee:=.builtin .append,args:=args,argTypes:=tys }=>(match args.toList,tys.toList with
  | [p,q],[t,u]=>Bb vm ss p a&&(Bb vm ss q x&&(XR P u&&(cS (1<=sz)&&(match tL P t with
   | some e=>Wq P e==bS sz&&(byT P e==bS bytes&&(match tx P e with
    |some j=>j.cells.size==sz&&cS (1<=bytes)
    |none=>bR))
   |none=>bR))))
  |_,_=>bR)
 |_=>bR
structure cP(S:Nat->Prop)(w:cb)(P:b')(sz:Nat)(v:Value)(ys:List AV)(news:Array Value):Prop where
 n:(iI v).run P w = .ok ys.length w
 c:(eu sz ys.length v).run P w = .ok news w
 l:news.size=ys.length*sz
 e:∀i,i<ys.length->(ys.getD i .any).cells.length=sz/\(ys.getD i .any).atoms=bI
 r:∀i j,i<ys.length->j<sz->VR S w (news.getD (i*sz+j) cB) ((ys.getD i .any).cells.getD j .any)
def aC(f:Nat->Value)(n x:Nat)(h:x<n):((k5 n).map f).toArray.getD x cB=f x:=by
 rw[Qa,gdE,fm,List.getElem?_range h];rfl
def jt{x n sz:Nat}(j:1<=sz)(h:x<n*sz):x/sz<n/\x%sz<sz/\x=x/sz*sz+x%sz :=
 ⟨Nat.div_lt_of_lt_mul (by rw[h5];exact h),Nat.mod_lt _ n',by rw[h5];exact(Nat.div_add_mod x sz).symm⟩
def OM(h:FR F g w tmps vm ss s){sz:Nat}(bb:1<=sz){v:Value}{a:AV}(hv:SR (AR F g s.ob) w g s.ob v a)(C:(DG sz s.ob a).ok=bI)(ae:(DG sz s.ob a).sz=sz):
  ∃news,cP (AR F g s.ob) w P sz v (DG sz s.ob a).els news:=by
 cases a<;>simp only[DG]at C<;>try(cases C;done)
 case str l=>
  have e:=Tz hv;subst e;simp only[beq_iff_eq]at C;subst C;simp only[DG]
  have hg:∀i,i<l.length->(l.map Js).getD i .any=Js (l.getD i 0):=fun i hi=>by
   rw[gdE,fm,geE hi,gdE,geE hi];rfl
  refine⟨(l.map fun b=>Value.int .u8 (b.toNat:Int)).toArray,⟨by simp[iI,PE],?_,p',fun i hi=>?_,fun i j hi J=>?_⟩⟩
  .simp only[eu,lz];rw[ByteArray.extract_mk];simp
  .rw[hg i (by simpa using hi)];exact⟨rfl,rfl⟩
  .have U:i<l.length:=by simpa using hi
   have ax:j=0:=n'
   subst ax;rw[hg i U,kR,fA,Qa]
   have:(l.map fun b=>Value.int .u8 (b.toNat:Int)).getD i cB = .int .u8 ((l.getD i 0).toNat:Int):=by
    rw[gdE,fm,geE U,gdE,geE U];rfl
   rw[this];exact .int
 case nilsl=>
  have e:=UA hv;subst e;simp only[DG];exact⟨#[],⟨rfl,rfl,p',fun i hi=>by simp at hi,fun i j hi _=>by simp at hi⟩⟩
 case sl sz2 els=>
  simp only[SR,QX]at hv;simp only[beq_iff_eq]at C;subst C;simp only[DG];cases hv with
  | @sl ad n cap _ _ b off r hn a8 ab ha az hw hr=>
   subst hn
   by_cases hp:0<els.length
   .obtain⟨rfl,bo⟩:=ha hp
    have hl:=j7 (P:=P) w ⟨b,off,cA⟩ (els.length*sz2) (fun x=>r (x/sz2) (x%sz2)) (fun x hx=>by
     obtain⟨h1,h2,h3⟩:=jt ab hx;rw[Ic];have:=hw (x/sz2) (x%sz2) h1 h2
     rwa [←h3]at this)
    refine⟨_,⟨rfl,by simp only[eu];exact hl,p',az,fun i j hi J=>?_⟩⟩;have R:=Sa hi J;rw[aC _ _ _ R,h5 i,m' n',lu J,fA,hW,hQ J];exact hr i j hi J
   .have h0:els=[]:=d'.1 n';subst h0;refine⟨#[],⟨rfl,?_,p',fun i hi=>by simp at hi,fun i j hi _=>by simp at hi⟩⟩;cases ad<;>simp[eu,l2,j8]
 case own k=>
  obtain⟨hm,ho,e⟩:=hv;rcases e with e|⟨hz,e⟩
  rotate_left
  .subst e;simp only[DG,ho,iD];rw[h.nil_els ho hz];exact⟨#[],⟨rfl,rfl,p',fun i hi=>by simp at hi,fun i j hi _=>by simp at hi⟩⟩
  subst e;simp only[DG,ho,iD]at C ae ⊢;subst ae;have hh:=h.home k hm ho;obtain⟨r,I⟩:=hh.cell
  have hl:=j7 (P:=P) w ⟨g.β k,0,cA⟩ (hm.els.length*hm.sz) (fun x=>r (x/hm.sz) (x%hm.sz)) (fun x hx=>by
   obtain⟨h1,h2,h3⟩:=jt hh.pos hx;rw[Ic,cI];have:=(I (x/hm.sz) (x%hm.sz) h1 h2).1
   rwa [←h3]at this)
  refine⟨_,⟨rfl,by simp only[eu];exact hl,p',hh.cells,fun i j hi J=>?_⟩⟩;have R:=Sa hi J;rw[aC _ _ _ R,h5 i,m' n',lu J,fA,hW,hQ J];exact(I i j hi J).2
end
section
variable {F Iow:Nat->Prop}{w0:cb}{g0:Gh}{o0:Cx}{g:Gh}{w w':cb}{tmps:Array Value}{ds:List hZ}{vm ss ss':List Nat}{s:St}{P:b'}{o:Oper}{key:Nat}
def oJ(k:Nat):AV.kill k .any = .any:=by simp[AV.kill,AV.names,AV.keys]
def aW(k:Nat)(a:AV):AV.kill k a = .any\/(AV.kill k a=a/\k ∉ a.keys):=by
 by_cases j:a.names k=bI
 .exact .inl (by simp[AV.kill,j])
 .exact .inr ⟨by simp[AV.kill,j],fun h=>j (Od.2 h)⟩
def FX.reown'(h:FX F Iow w0 g0 o0 g w tmps vm ss s){k:Nat}{hm h2:Hm}{b cap:Nat}(hk:AK k s.ob=bS hm)(hw:AD (fun c=>c=g.β k/\0<g.cap k) w w')
  (hb:0<cap->(b=g.β k/\0<g.cap k)\/w.heap.size<=b) (a6:∀S':Nat->Prop,(∀c,S' c->AR F g s.ob c\/c=b)->Hy S' w' b cap h2.sz h2.els) (a1:sS g0 o0 ⟨fun j=>if j=k then b else g.β j,fun j=>if j=k then cap else g.cap j⟩ (DM k h2 s.ob)) (ok:Bool) :
  FX F Iow w0 g0 o0 ⟨fun j=>if j=k then b else g.β j,fun j=>if j=k then cap else g.cap j⟩ w' tmps vm ss { vs:=s.vs.map (AV.kill k),st:=s.st.map (AV.kill k),ob:=DM k h2 s.ob,ok:=ok }:=by
 have ab:AD (AR F g s.ob) w w':=hw.mono fun c _ e=>.inr ⟨k,⟨⟨hm,hk⟩,e.2⟩,e.1.symm⟩
 have ba:∀{j},Lb (DM k h2 s.ob) j->Lb s.ob j:=fun R=>QE hk R
 have aj:∀c,AR F ⟨fun j=>if j=k then b else g.β j,fun j=>if j=k then cap else g.cap j⟩ (DM k h2 s.ob) c->AR F g s.ob c\/(c=b/\0<cap):=by
  intro c hc;rcases hc with hc|⟨j,⟨R,hp⟩,e⟩
  .exact .inl (.inl hc)
  .by_cases C:j=k
   .subst C;exact .inr ⟨by simpa using e.symm,by simpa using hp⟩
   .exact .inl (.inr ⟨j,⟨ba R,by simpa[C]using hp⟩,by simpa[C]using e⟩)
 have aa:∀c,c<w.heap.size->AR F ⟨fun j=>if j=k then b else g.β j,fun j=>if j=k then cap else g.cap j⟩ (DM k h2 s.ob) c->AR F g s.ob c:=by
  intro c hc hs;rcases aj c hs with e|e
  .exact e
  .rcases hb e.2 with hb|hb
   .exact .inr ⟨k,⟨⟨hm,hk⟩,hb.2⟩,by rw[e.1,hb.1]⟩
   .omega
 have a7:0<cap->∀j,j≠k->Mo g s.ob j->g.β j≠b:=by
  intro ae j R hl e;rcases hb ae with hb|hb
  .exact R (h.inj j k hl ⟨⟨hm,hk⟩,hb.2⟩ (by rw[e,hb.1]))
  .obtain⟨⟨h',hg⟩,hp⟩:=hl;have:=(h.home j h' hg).lt hp;omega
 have J:∀j,j≠k->Mo ⟨fun j=>if j=k then b else g.β j,fun j=>if j=k then cap else g.cap j⟩ (DM k h2 s.ob) j->Mo g s.ob j:=fun j R hl=>⟨ba hl.1,by simpa[R]using hl.2⟩
 have bh:=h.toFR.slots (w':=w') (g':=⟨fun j=>if j=k then b else g.β j,fun j=>if j=k then cap else g.cap j⟩) (ob':=DM k h2 s.ob) (AV.kill k) (oJ k) ab aa (fun a v _=>by
   rcases aW k a with e|⟨e,hn⟩
   .exact .inl e
   .refine .inr ⟨e,fun j R h' hg=>?_⟩;have C:j≠k:=fun e=>hn (e▸R)
    exact⟨h',by rw[BP,if_neg (gb C)];exact hg,rfl,rfl,by simp[C],by simp[C]⟩) (fun j h' hg=>by
  rw[BP]at hg
  by_cases C:k=j
  .subst C;rw[if_pos rfl]at hg;cases hg;simp only[if_true];exact a6 _ fun c hc=>(aj c hc).imp id fun e=>e.1
  .rw[if_neg C]at hg;simp only[if_neg (gb C)];refine(h.home j h' hg).mono ab (fun az=>hw.block _ ((h.home j h' hg).lt az) fun U=>?_) aa;exact C (h.inj k j ⟨⟨hm,hk⟩,U.2⟩ ⟨⟨h',hg⟩,az⟩ U.1.symm)) (fun j j' a c e=>by
  by_cases I:j=k
  .by_cases U:j'=k
   .rw[I,U]
   .simp only[I,U,if_true,if_false]at e;exact absurd e.symm (a7 (by simpa[I]using a.2) j' U (J j' U c))
  .by_cases U:j'=k
   .simp only[I,U,if_true,if_false]at e;exact absurd e (a7 (by simpa[U]using c.2) j I (J j I a))
   .simp only[I,U,if_false]at e;exact h.inj j j' (J j I a) (J j' U c) e) (fun j a=>by
  by_cases I:j=k
  .have ae:0<cap:=by simpa[I]using a.2
   simp only[I,if_true];rcases hb ae with hb|hb
   .rw[hb.1];exact h.nF k ⟨⟨hm,hk⟩,hb.2⟩
   .intro hf;have:=h.fb b hf;omega
  .simp only[I,if_false];exact h.nF j (J j I a)) ok
 refine FX.mk' (w:=w) bh h.same (hw.mono fun c _ e=>?_) (fun j R=>?_) h.fio a1
 .rw[e.1];exact h.hio k ⟨⟨hm,hk⟩,e.2⟩
 .by_cases I:j=k
  .have ae:0<cap:=by simpa[I]using R.2
   simp only[I,if_true];rcases hb ae with hb|hb
   .rw[hb.1];exact h.hio k ⟨⟨hm,hk⟩,hb.2⟩
   .exact .inl (hT h.same.size hb)
  .simp only[I,if_false];exact h.hio j (J j I R)
def FX.reown(h:FX F Iow w0 g0 o0 g w tmps vm ss s){k:Nat}{hm h2:Hm}{b cap:Nat}(J:AK k s.ob=bS hm)(U:AD (fun c=>c=g.β k/\0<g.cap k) w w')
  (hb:0<cap->(b=g.β k/\0<g.cap k)\/w.heap.size<=b) (C:∀S':Nat->Prop,(∀c,S' c->AR F g s.ob c\/c=b)->Hy S' w' b cap h2.sz h2.els) (R:h2.sz=hm.sz) (hl:hm.els.length<=h2.els.length) (I:h2.els.length=hm.els.length->b=g.β k/\cap=g.cap k) (ok:Bool) :
  FX F Iow w0 g0 o0 ⟨fun j=>if j=k then b else g.β j,fun j=>if j=k then cap else g.cap j⟩ w' tmps vm ss { vs:=s.vs.map (AV.kill k),st:=s.st.map (AV.kill k),ob:=DM k h2 s.ob,ok:=ok } :=
 h.reown' J U hb C (h.par.set J R hl I) ok
def aJ{u:dx}(h:XR P u=bI):(∃e,P.underlying u=bS (.slice e))\/P.underlying u=bS .string:=by
 unfold XR at h;split at h
 .rename_i e hu;exact .inl ⟨e,hu⟩
 .rename_i hu;exact .inr hu
 .cases h
def Nx{t u e ty:dx}{sz n cap m:Nat}{base:Option Addr}{x:Value}{news:Array Value}(R:P.underlying t=bS (.slice e))(hu:XR P u=bI)(j:Wq P e=bS sz)
  (U:(iI x).run P w = .ok m w) (hc:(eu sz m x).run P w = .ok news w) (C:n+m<=cap) (I:∀a,base=bS a->(kf (a.add (n*sz)) news.toList).run P w = .ok () w') (J:base=cA->w'=w) :
  (e9 #[t,u] ty #[.slice base n cap,x]).run P w = .ok (.slice base (n+m) cap) w':=by
 rcases aJ hu with⟨d,hd⟩|hd
 .cases base with
  |none=>have:=J rfl;subst this;simp[e9,bN R,bN hd,GA j,U,hc,C]
  |some a=>have:=I a rfl;simp[e9,bN R,bN hd,GA j,U,hc,C,this]
 .cases base with
  |none=>have:=J rfl;subst this;simp[e9,bN R,bN hd,GA j,U,hc,C]
  |some a=>have:=I a rfl;simp[e9,bN R,bN hd,GA j,U,hc,C,this]
def VP{t u e ty:dx}{sz bytes n cap m:Nat}{base:Option Addr}{x zv:Value}{olds news:Array Value}(ht:P.underlying t=bS (.slice e))(hu:XR P u=bI)(I:Wq P e=bS sz)
  (U:byT P e=bS bytes) (C:tx P e=bS zv) (ay:1<=bytes)
  (hn:(iI x).run P w = .ok m w) (hc:(eu sz m x).run P w.drew = .ok news w.drew) (ho:(eu sz n (.slice base n cap)).run P w.drew = .ok olds w.drew)
  (hg:cap<n+m) (j:(n+m)*bytes<=140737488355328) :
  (e9 #[t,u] ty #[.slice base n cap,x]).run P w =
   .ok (.slice (bS ⟨w.heap.size,0,cA⟩) (n+m) (hL w (n+m) cap e)) (w.drew.alloc (.cells (olds++news++iZ zv.cells (hL w (n+m) cap e-(n+m))) e)):=by
 obtain⟨i,hi,R⟩:=pe U;have hle:¬ (n+m<=cap):=n'
 have h0:i.bytes≠0:=n'
 have J:¬ (281474976710656<Builtin.nextslicecap (n+m) cap*i.bytes):=by have:=growslice_fits hg j;rw[R];omega
 rcases aJ hu with⟨d,hd⟩|hd
 .simp[e9,bN ht,bN hd,GA I,hn,hc,ho,hle,VN hi,h0,J,Question.forced,Sw C,k7,hL]
 .simp[e9,bN ht,bN hd,GA I,hn,hc,ho,hle,VN hi,h0,J,Question.forced,Sw C,k7,hL]
def QS{a b:Array Value}{x:Nat}:(a++b).getD x cB=if x<a.size then a.getD x cB else b.getD (x-a.size) cB:=by
 simp only[agD,Array.getElem?_append];split<;>rfl
variable{i:Nat}
def Jq{l r:List AV}:(l++r).getD i .any=if i<l.length then l.getD i .any else r.getD (i-l.length) .any:=by
 simp only[gdE,List.getElem?_append];split<;>rfl
def cP.both{S:Nat->Prop}{sz:Nat}{u v:Value}{xs C:List AV}{olds news:Array Value}(I:cP S w P sz u xs olds)(U:cP S w P sz v C news){rest:Array Value}:
  (∀i,i<(xs++C).length->((xs++C).getD i .any).cells.length=sz/\((xs++C).getD i .any).atoms=bI) /\
  ∀i j,i<(xs++C).length->j<sz->VR S w ((olds++news++rest).getD (i*sz+j) cB) (((xs++C).getD i .any).cells.getD j .any):=by
 refine⟨fun i hi=>?_,fun i j hi J=>?_⟩
 .rw[Jq];rw[h8]at hi;split
  .exact I.e i n'
  .exact U.e _ n'
 .rw[h8]at hi
  have aa:i*sz+j<(olds++news).size:=by
   rw[j2,I.l,U.l,←e7];exact Sa hi J
  rw[QS,if_pos aa,QS,I.l,Jq]
  by_cases R:i<xs.length
  .rw[if_pos (Sa R J),if_pos R];exact I.r i j R J
  .have ab:xs.length*sz<=i*sz:=cd _ n';rw[if_neg n',if_neg R];have:=U.r (i-xs.length) j n' J
   rwa [nm,show i*sz-xs.length*sz+j=i*sz+j-xs.length*sz by omega]at this
variable{sz:Nat}
def AAN{S:Nat->Prop}{v:Value}{J:List AV}{news:Array Value}(I:1<=sz)(j:cP S w P sz v J news):∀u,u∈news.toList->u.oneCell'=bI:=by
 intro u hu;obtain⟨x,R,rfl⟩:=iN hu;have C:x<J.length*sz:=by rw[←j.l];simpa using R
 obtain⟨U,h2,h3⟩:=jt I C;have hr:=j.r (x/sz) (x%sz) U h2;have he:=j.e (x/sz) U;have:=hr.oneCell (It he.2 (by rw[he.1];exact h2));rw[←h3,←FK,gdE,geE R]at this;exact this
def jK{S:Nat->Prop}{sz n cap:Nat}{u v J:Value}{xs C:List AV}{olds news:Array Value}{e:dx}(U:1<=sz)(R:J.cells.size=sz)(hx:cP S w.drew P sz u xs olds)(hy:cP S w.drew P sz v C news)
  (I:xs.length+C.length<=cap) {S':Nat->Prop} (hS:∀c,S' c->S c\/c=w.heap.size) :
  Hy S' (w.drew.alloc (.cells (olds++news++iZ J.cells (cap-(xs.length+C.length))) e)) w.heap.size cap sz (xs++C):=by
 obtain⟨h1,h2⟩:=hx.both hy (rest:=iZ J.cells (cap-(xs.length+C.length)));refine⟨U,by simpa using I,h1,fun _=>⟨_,e,(0,0),hK w.drew _,.inl rfl,?_,fun i j hi hj=>?_⟩⟩
 .rw[j2,j2,size_zeroCells,hx.l,hy.l,R,←e7,←e7]
  congr 1;omega
 .refine(h2 i j hi hj).mono (AD.alloc _ _ _) fun b hb hc=>?_
  rcases hS b hc with e|e
  .exact e
  .exact absurd hb (by rw[e];exact hJ _)
def ADN{bytes:Nat}{z:AV}{a x:Src}{op:Op}(C:AGS P vm ss sz bytes z a x op=bI):
  ∃ t u p q e J ty args j,op = .call { callee:=.builtin .append,args:=args,argTypes:=j }/\args = #[p,q]/\j = #[t,u]/\Bb vm ss p a=bI/\Bb vm ss q x=bI/\XR P u=bI/\1<=sz /\
   P.underlying t=bS (.slice e)/\Wq P e=bS sz/\byT P e=bS bytes/\tx P e=bS J/\J.cells.size=sz/\1<=bytes/\ty=(0:dx):=by
 unfold AGS at C;split at C
 .rename_i args j;split at C
  .rename_i p q t u h1 h2;simp only[baT,dtE]at C;obtain⟨c1,c2,c3,c4,c5⟩:=C;split at c5
   .rename_i e R;simp only[baT,beq_iff_eq]at c5;obtain⟨c6,c7,I⟩:=c5;split at I
    .rename_i J U;simp only[baT,beq_iff_eq,dtE]at I;exact⟨t,u,p,q,e,J,0,args,j,rfl,by rw[←kA (xs:=args),h1],by rw[←kA (xs:=j),h2],c1,c2,c3,c4,PW R,c6,c7,U,I.1,I.2,rfl⟩
    .cases I
   .cases c5
  .cases C
 .cases C
def FX.app(h:FX F Iow w0 g0 o0 g w tmps vm ss s)(c7:RR vm){D:Kc}(hd:Fb vm ss o.dst D=bS ss')(b4:∀d,o.dst=bS d->d<tmps.size){sz bytes:Nat}{z:AV}{a x:Src}(hc:AGS P vm ss sz bytes z a x o.op=bI)
  (ay:(Uo s key D sz bytes (DG sz s.ob (rd s x)) (rd s a)).ok=bI) :
  ∃v w' g',(bX (D' tmps ds).eval o).run P w = .ok (.value v) w'/\FX F Iow w0 g0 o0 g' w' (Jo tmps o.dst v) vm ss' (Uo s key D sz bytes (DG sz s.ob (rd s x)) (rd s a)):=by
 obtain⟨t,u,p,q,e,zv,ty,args,e4,he,rfl,rfl,ct,cn,hu,C,ht,ba,dc,cl,cf,df,-⟩:=ADN hc;have b7:=h.toFR.src (ds:=ds) ct;have b6:=h.toFR.src (ds:=ds) cn
 have az:∀r w',(e9 #[t,u] o.type #[(D' tmps ds).eval p,(D' tmps ds).eval q]).run P w = .ok r w'->(bX (D' tmps ds).eval o).run P w = .ok (.value r) w':=by
  intro r w' hr;unfold bX;simp only[he,jm,kn,jn,ed,h7,c',List.map_toArray,fp,List.map_nil,hr]
 have ca:AD C' w w.drew:=AD.drew _ _;have bb:=h.toFR.grow ca;have bh:=bb.src (ds:=ds) ct;have be:=bb.src (ds:=ds) cn;revert ay;generalize rd s x=ax at b6 be;generalize rd s a=aa at b7 bh;intro ay;cases aa<;>simp only[Uo,fail]at ay<;>try(cases ay;done)
 case nilsl=>
  have I:=UA b7
  have hk:(EH s key D ⟨((DG sz s.ob ax).sz==sz)&&((DG sz s.ob ax).ok&&Dg (DG sz s.ob ax).els.length bytes),.own (Bn key),[(Bn key,⟨sz,(DG sz s.ob ax).els⟩)]⟩).ok=bI->((DG sz s.ob ax).sz=sz/\(DG sz s.ob ax).ok=bI/\(DG sz s.ob ax).els.length*bytes<=140737488355328):=by
   intro h0;cases D<;>simpa[EH,VW,BH,Dg]using (by simpa[EH,VW,BH,Dg]using h0:_/\_).2
  obtain⟨U,ab,b1⟩:=hk ay;obtain⟨news,J⟩:=OM (P:=P) h.toFR C b6 ab U;obtain⟨ae,a7⟩:=OM (P:=P) bb C be ab U;obtain⟨ad,aj⟩:=OM (P:=P) bb C (a:=.nilsl) (sz:=sz) bh rfl rfl;refine FX.still h c7 hd b4 ?_;simp only[DG]at aj;have a8:=aj.c;rw[I]at a8;simp only[hV]at a8;rcases j1 (DG sz s.ob ax).els.length with h0|h0
  .have ef:(DG sz s.ob ax).els=[]:=d'.1 h0;rw[ef]at J ⊢;have hr:=Nx (P:=P) (w:=w) (w':=w) (ty:=o.type) (base:=none) (n:=0) (cap:=0) ht hu ba J.n J.c p' (fun a e=>by cases e) (fun _=>rfl);refine⟨.slice cA 0 0,w,az _ _ (by rw[I];exact hr),AD.refl _ _,.inr ⟨Bn key,⟨sz,[]⟩,w.heap.size,0,rfl,by simp[Bn],dU _,fun S' hS=>?_,.inl ⟨rfl,.inr ⟨rfl,rfl⟩⟩⟩⟩;exact⟨C,dU _,fun i hi=>by simp at hi,fun hp=>absurd hp (hJ _)⟩
  .have hg:=VP (P:=P) (w:=w) (ty:=o.type) (base:=none) (n:=0) (cap:=0) (olds:=ad) (news:=ae) ht hu ba dc cl df J.n a7.c a8 n' (by rw[cI];exact b1);refine⟨_,_,az _ _ (by rw[I];exact hg),(AD.drew _ _).trans (AD.alloc _ _ _),.inr ⟨Bn key,⟨sz,(DG sz s.ob ax).els⟩,w.heap.size,hL w (0+(DG sz s.ob ax).els.length) 0 e,rfl,by simp[Bn],dU _,fun S' hS=>?_,.inl ⟨rfl,.inl (by rw[cI])⟩⟩⟩;have:=jK (w:=w) (P:=P) (e:=e) (n:=0) C cf aj a7 (cap:=hL w (0+(DG sz s.ob ax).els.length) 0 e) (by simpa using grownCap_ge w (0+(DG sz s.ob ax).els.length) 0 e) hS;simpa using this
 case own k=>
  obtain⟨hm,ho,I⟩:=b7;simp only[Uo,ho,Xt]at ay ⊢
  have hk:hm.sz=sz/\(DG sz s.ob ax).sz=sz/\(DG sz s.ob ax).ok=bI/\(hm.els.length+(DG sz s.ob ax).els.length)*bytes<=140737488355328:=by
   cases D<;>simpa[BH,Dg]using (by simpa[BH,Dg]using ay:_/\_).2
  obtain⟨a1,U,ab,b1⟩:=hk;obtain⟨news,J⟩:=OM (P:=P) h.toFR C b6 ab U;obtain⟨ae,a7⟩:=OM (P:=P) bb C be ab U;have b9:(DG sz s.ob (.own k))=⟨bI,hm.sz,hm.els⟩:=by simp[DG,ho,iD]
  obtain⟨ad,aj⟩:=OM (P:=P) bb C (a:=.own k) (sz:=sz) bh (by rw[b9]) (by rw[b9];exact a1);rw[b9]at aj;have hh:=h.home k hm ho;generalize e6:(DG sz s.ob ax).els=ys at J a7 b1 ⊢
  have fin:∀(b cap:Nat) (v:Value) (w':cb),(ys.length=0->b=g.β k/\cap=g.cap k)->(e9 #[t,u] o.type #[(D' tmps ds).eval p,(D' tmps ds).eval q]).run P w = .ok v w' ->
    AD (fun c=>c=g.β k/\0<g.cap k) w w'->(0<cap->(b=g.β k/\0<g.cap k)\/w.heap.size<=b)->(∀S':Nat->Prop,(∀c,S' c->AR F g s.ob c\/c=b)->Hy S' w' b cap sz (hm.els++ys)) ->
    (v = .slice (bS ⟨b,0,cA⟩) (hm.els.length+ys.length) cap\/(cap=0/\v = .slice cA 0 0)) ->
    ∃ v w' g',(bX (D' tmps ds).eval o).run P w = .ok (.value v) w'/\FX F Iow w0 g0 o0 g' w' (Jo tmps o.dst v) vm ss' (BH { s with vs:=s.vs.map (AV.kill k),st:=s.st.map (AV.kill k),ob:=DM k ⟨sz,hm.els++ys⟩ s.ob }
     ((hm.sz==sz)&&(((DG sz s.ob ax).sz==sz)&&((DG sz s.ob ax).ok&&cS ((hm.els.length+ys.length)*bytes<=140737488355328)))) (.own k) D):=by
   intro b cap v w' e1 hr ej hb c6 hv;have h1:=h.reown (h2:=⟨sz,hm.els++ys⟩) (b:=b) (cap:=cap) ho ej hb c6 a1.symm p' (fun e=>e1 (by simp at e;simp[e])) s.ok;refine⟨v,w',⟨fun j=>if j=k then b else g.β j,fun j=>if j=k then cap else g.cap j⟩,az _ _ hr,?_⟩;have h2:=h1.toFR.put c7 hd b4 ((hm.sz==sz)&&(((DG sz s.ob ax).sz==sz)&&((DG sz s.ob ax).ok&&cS ((hm.els.length+ys.length)*bytes<=140737488355328)))) (v:=v) (a:=.own k) (fun _=>⟨⟨sz,hm.els++ys⟩,by simp[BP],by simpa using hv⟩);refine⟨h2,h1.same,fun j hj=>h1.hio j ?_,h1.fio,?_⟩
   .revert hj;cases D<;>exact id
   .have:=h1.par;revert this;cases D<;>exact id
  by_cases au:hm.els.length+ys.length<=g.cap k
  .rcases j1 (g.cap k)with hz|hz
   .have b2:hm.els=[]:=h.nil_els ho hz;have eg:ys=[]:=d'.1 n';subst eg;have en:news = #[]:=j4 (by simpa using J.l);subst en;have hH:∀S':Nat->Prop,Hy S' w (g.β k) 0 sz (hm.els++[]):=fun S'=>⟨C,by simp[b2],fun i hi=>by simp[b2]at hi,fun hp=>absurd hp (hJ _)⟩
    rcases I with I|⟨_,I⟩
    .have hr:=Nx (P:=P) (w:=w) (w':=w) (ty:=o.type) (base:=some ⟨g.β k,0,cA⟩) (n:=0) (cap:=0) ht hu ba J.n J.c p' (fun a e=>by simp[kf]) (fun e=>by cases e);exact fin (g.β k) 0 _ w (fun _=>⟨rfl,hz.symm⟩) (by rw[I,b2,hz];exact hr) (AD.refl _ _) (fun hp=>absurd hp (hJ _)) (fun S' _=>hH S') (.inl (by simp[b2]))
    .have hr:=Nx (P:=P) (w:=w) (w':=w) (ty:=o.type) (base:=none) (n:=0) (cap:=0) ht hu ba J.n J.c p' (fun a e=>by cases e) (fun _=>rfl);exact fin (g.β k) 0 _ w (fun _=>⟨rfl,hz.symm⟩) (by rw[I];exact hr) (AD.refl _ _) (fun hp=>absurd hp (hJ _)) (fun S' _=>hH S') (.inr ⟨rfl,p'⟩)
   .rcases I with I|⟨e5,_⟩
    rotate_left
    .omega
    obtain⟨arr,T,fz,hr,hf,ao,cm⟩:=hh.row hz;rw[a1]at hf ao cm
    have hbound:hm.els.length*sz+ys.length*sz<=arr.size:=by
     rw[ao,←e7];exact cd _ au
    obtain⟨w',ea,cw,bo,e2,b5,c8⟩:=PY (P:=P) (g.β k) T fz news.toList (hm.els.length*sz) 0 arr w hr (hf.imp_right And.right) (by simp only[fx,J.l];omega) (AAN C J);have ek:=Nx (P:=P) (w:=w) (w':=w') (ty:=o.type) (base:=some ⟨g.β k,0,cA⟩) (n:=hm.els.length) (cap:=g.cap k) ht hu ba J.n J.c au (fun a e=>by cases e;rw[Ic,cI];exact cw) (fun e=>by cases e);refine fin (g.β k) (g.cap k) _ w' (fun _=>⟨rfl,rfl⟩) (by rw[I];exact ek) (bo.mono fun c _ e=>⟨e,hz⟩) (fun _=>.inl ⟨rfl,hz⟩) (fun S' hS=>?_) (.inl rfl)
    have dw:∀c,S' c->AR F g s.ob c:=fun c hc=>by
     rcases hS c hc with e|e
     .exact e
     .exact .inr ⟨k,⟨⟨hm,ho⟩,hz⟩,e.symm⟩
    have bz:AD (AR F g s.ob) w w':=bo.mono fun c _ e=>.inr ⟨k,⟨⟨hm,ho⟩,hz⟩,e.symm⟩
    refine⟨C,by simpa using au,fun i hi=>?_,fun _=>⟨ea,T,fz,e2,by rw[b5];exact hf,by rw[b5,ao],fun i j hi hj=>?_⟩⟩
    .rw[Jq];rw[h8]at hi;split
     .rename_i hc;rw[←a1];exact hh.cells i hc
     .exact J.e _ n'
    .rw[h8]at hi;rw[c8,Jq];simp only[fA,fx,J.l]
     by_cases hc:i<hm.els.length
     .rw[if_neg (by have:=Sa hc hj;omega),if_pos hc];exact(cm i j hc hj).mono bz fun b _ c=>dw b c
     .have db:hm.els.length*sz<=i*sz:=cd _ n';have eo:i*sz+j<(hm.els.length+ys.length)*sz:=Sa hi hj;rw[e7]at eo;rw[if_pos n',if_neg hc,FK];have:=J.r (i-hm.els.length) j n' hj;rw[nm,show i*sz-hm.els.length*sz+j=i*sz+j-hm.els.length*sz by omega]at this;exact this.mono bz fun b _ c=>dw b c
  .have R:∃base,(D' tmps ds).eval p = .slice base hm.els.length (g.cap k):=by
    rcases I with I|⟨hz,I⟩
    .exact⟨_,I⟩
    .exact⟨cA,by rw[I,hz,h.nil_els ho hz];rfl⟩
   obtain⟨base,R⟩:=R;have a8:=aj.c;rw[R]at a8;have hg:=VP (P:=P) (w:=w) (ty:=o.type) (base:=base) (n:=hm.els.length) (cap:=g.cap k) (olds:=ad) (news:=ae) ht hu ba dc cl df J.n a7.c a8 n' b1;have db:=grownCap_ge w (hm.els.length+ys.length) (g.cap k) e;refine fin w.heap.size (hL w (hm.els.length+ys.length) (g.cap k) e) _ _ (fun e0=>absurd hh.len n') (by rw[R];exact hg) ?_ (fun _=>.inr (dU _)) (fun S' hS=>jK (w:=w) (P:=P) (e:=e) (n:=0) C cf aj a7 db hS) (.inl rfl);exact AD.mono (S:=fun _=>False) ((AD.drew _ _).trans (AD.alloc _ _ _)) fun _ _ c=>c.elim
def sD(P:b')(vm ss:List Nat)(sz:Nat)(x hi:Src):Op->Bool
 | .slice t y cA (bS h) cA=>Bb vm ss y x&&(Bb vm ss h hi&&(match tL P t with
  |some e=>Wq P e==bS sz && !(sz==0)
  |none=>bR))
 |_=>bR
def QL{els:List AV}{n:Nat}(hi:i<n):(els.take n).getD i .any=els.getD i .any:=by
 rw[gdE,gdE,h9,if_pos hi]
def AAD{s:St}{c:Bool}{a:AV}{D:Kc}(h:(BH s c a D).ok=bI):c=bI:=by
 have:s.ok=bI/\c=bI:=by cases D<;>simpa[BH]using h
 exact this.2
def FX.trunc(h:FX F Iow w0 g0 o0 g w tmps vm ss s)(be:RR vm){D:Kc}(hd:Fb vm ss o.dst D=bS ss')(aj:∀d,o.dst=bS d->d<tmps.size){sz:Nat}{x hi:Src}(hc:sD P vm ss sz x hi o.op=bI)
  (C:(ML s D sz (fL (rd s hi)) (rd s x)).ok=bI) :
  ∃v w' g',(bX (D' tmps ds).eval o).run P w = .ok (.value v) w'/\FX F Iow w0 g0 o0 g' w' (Jo tmps o.dst v) vm ss' (ML s D sz (fL (rd s hi)) (rd s x)):=by
 unfold sD at hc;split at hc
 .rename_i t y hh he;simp only[baT]at hc;obtain⟨hs,bs,R⟩:=hc;split at R
  .rename_i e ba;simp only[baT,beq_iff_eq]at R;have ad:=R.1;have hu:=PW ba;have hv:=h.toFR.src (ds:=ds) hs;revert C;generalize hn:fL (rd s hi)=n;generalize rd s x=a at hv;intro C;cases a<;>simp only[ML,fail]at C<;>try(cases C;done)
   rename_i k;obtain⟨hm,ho,J⟩:=hv;simp only[ML,ho,Wt]at C ⊢
   have hk:hm.sz=sz/\k%32≠31/\0<=n/\n<=(hm.els.length:Int):=by
    have:=AAD C;simp only[Ja,baT,beq_iff_eq,dtE,hI,beq_eq_false_iff_ne]at this;exact⟨this.1,this.2.1,this.2.2.2.1,this.2.2.2.2⟩
   obtain⟨b4,ae,h0,hb⟩:=hk;have hH:=h.home k hm ho
   have bz:∃kk,(D' tmps ds).eval hh = .int kk n:=by
    have:=Zk (h.toFR.src (ds:=ds) bs) (by rw[hn];exact h0)
    rwa [hn]at this
   have hlen:=hH.len;have I:=RO P w (isS:=true) (len:=hm.els.length) (cap:=g.cap k) (lo:=none) (hi:=some ((D' tmps ds).eval hh)) (a:=0) (b:=n) rfl bz (Int.le_refl 0) h0 n'
   have au:∀S':Nat->Prop,(∀c,S' c->AR F g s.ob c\/c=g.β k)->Hy S' w (g.β k) (g.cap k) hm.sz (hm.els.take n.toNat):=by
    intro S' hS;refine⟨hH.pos,by rw[hO];omega,fun i ab=>?_,fun hp=>?_⟩
    .rw[hO]at ab;rw[QL n'];exact hH.cells i n'
    .obtain⟨arr,T,fz,hr,hf,aa,a8⟩:=hH.row hp;refine⟨arr,T,fz,hr,hf,aa,fun i j ab hj=>?_⟩;rw[hO]at ab;rw[QL n'];refine(a8 i j n' hj).mono (AD.refl _ _) fun b _ b0=>?_
     rcases hS b b0 with e1|e1
     .exact e1
     .exact .inr ⟨k,⟨⟨hm,ho⟩,hp⟩,e1.symm⟩
   have h1:=h.reown' (h2:=⟨hm.sz,hm.els.take n.toNat⟩) (b:=g.β k) (cap:=g.cap k) ho (AD.refl _ w) (fun hp=>.inl ⟨rfl,hp⟩) au (h.par.new (b:=g.β k) (cap:=g.cap k) ae) s.ok
   have U:∀v,(bX (D' tmps ds).eval o).run P w = .ok (.value v) w->(v = .slice (bS ⟨g.β k,0,cA⟩) n.toNat (g.cap k)\/(g.cap k=0/\v = .slice cA 0 0)) ->
     ∃ v w' g',(bX (D' tmps ds).eval o).run P w = .ok (.value v) w'/\FX F Iow w0 g0 o0 g' w' (Jo tmps o.dst v) vm ss' (BH { s with vs:=s.vs.map (AV.kill k),st:=s.st.map (AV.kill k),ob:=DM k ⟨hm.sz,hm.els.take n.toNat⟩ s.ob }
      ((hm.sz==sz)&&((!(k%32==31))&&Ja 0 n hm.els.length)) (.own k) D):=by
    intro v hr hv;refine⟨v,w,⟨fun j=>if j=k then g.β k else g.β j,fun j=>if j=k then g.cap k else g.cap j⟩,hr,?_⟩
    have h2:=h1.toFR.put be hd aj ((hm.sz==sz)&&((!(k%32==31))&&Ja 0 n hm.els.length)) (v:=v) (a:=.own k) (fun _=>⟨⟨hm.sz,hm.els.take n.toNat⟩,by simp[BP],by
     have e:(hm.els.take n.toNat).length=n.toNat:=by rw[hO];omega
     simpa[e]using hv⟩)
    refine⟨h2,h1.same,fun j hj=>h1.hio j ?_,h1.fio,?_⟩
    .revert hj;cases D<;>exact id
    .have:=h1.par;revert this;cases D<;>exact id
   rcases J with J|⟨hz,J⟩
   .refine U (.slice (bS ⟨g.β k,0,cA⟩) n.toNat (g.cap k)) ?_ (.inl rfl);simp[bX,he,hG,hY,bN hu,J,I,GA ad,Ic]
   .have a7:hm.els.length=0:=n'
    have bh:n=0:=n'
    refine U (.slice cA 0 0) ?_ (.inr ⟨hz,rfl⟩);rw[a7,hz,bh]at I;simp[bX,he,hG,hY,bN hu,J,I,GA ad]
  .cases R
 .cases hc
end
