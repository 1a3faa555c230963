/- Lemmas and walks, several texts in one. No condition. -/
import Derived.Test.YtegmpdmpgmpiaaaGreatDoorP6
import Derived.Test.YtegmpdmpgmpiaaaGreatDoorP7
import Derived.Test.YtegmpdmpgmpiaaaGreatDoorP3
import Derived.Test.YtegmpdmpgmpiaaaGreatDoorRows
import Derived.WalkKit
import Derived.RangeFuncNested
import Derived.RangeFuncBox
import Derived.RangeFuncBound
import Derived.RangeFuncCalls
import Derived.RangeFuncLeaves
import Derived.Shelf.Abstract
import Derived.Shelf.RegionOpen
import Derived.OwnWalkIn
import Derived.TacticsInMore
import Derived.LoopNIn
import Derived.LoopIn
import Derived.Lib.Hide
open Array renaming replicate_zero->dz,replicate_succ->dT
open Bool renaming false->be,true->c',false_ne_true->fm,noConfusion->fx,not_false->hA,not_true->hG
open Classical renaming choose->gk
open Go renaming World->d',grownBy_keeps_cells->e7,CallsIn->ev,callsIn_of_wp->fy,callsIn_wide->gb,grownBy_putObj'->gg,undef->gr,Boxed->gu,bodyPost_ret->h7,TypeId->h8,Fence->ht,Calls->hz,results->hJ,run_takeDeferred->hN
open Go.Boxed renaming new->ga,alloc->hL
open Go.Fence renaming wide->gj
open Go.IntKind renaming i64->b7
open Go.KeepsOthers renaming setCell->cL
open Go.Lib renaming hid->bs
open Go.Obj renaming cells->b8
open Go.OwnFrom renaming and->fi
open Go.Proofs.Tryz renaming prog->b5,func106->gv,ntmps106->g',f106->h4,func228->h5,ntmps228->hC
open Go.RowKit renaming Below->cA
open Go.RowKit.Below renaming refl->et,heap_setCell->ff,heap_alloc->fu
open Go.Value renaming string->b6,int->b9,bool->cn,slice->e6,pointer->fs
open Go.World renaming cell?->cf,size_alloc->ef,setCells->fA,alloc_heap_new->f',frozen?->gw
open Inhabited renaming default->c7
open List renaming map->cm,append_toArray->dX,cons_append->e0,nil_append->e9,size_toArray->ea,push_toArray->ec,length_cons->ej,length_nil->ek,find?_eq_none->h6,map_append->h9,map_cons->hB,mem_map->hH
open Nat renaming le_refl->en,reduceSub->ew,reduceAdd->eL,eq_zero_or_pos->gn,le_trans->hM
open Option renaming none->b',some->ct
set_option linter.defProp false
set_option linter.unusedSimpArgs false
set_option linter.unusedVariables false
set_option maxRecDepth 100000
set_option maxHeartbeats 4000000
open Go.IntKind (i64 u64)
namespace Go.Proofs.YtegmpdmpgmpiaaaGreatDoor
open Go Go.RowKit
noncomputable def mr:List AV->Rs
 | [.str l]=>match CV l with
  | some y=>⟨c',.tup [Ns y.1,.bool y.2],[.any]⟩
  | none=>Rs.bad
 | _=>Rs.bad
noncomputable def Ey:Ar:=⟨[.bor],be,mr⟩
theorem KT{line:List UInt8}{g:EM×Bool}(h:CV line=ct g):Ey.F [.str line]=⟨c',.tup [Ns g.1,.bool g.2],[.any]⟩:=by
 show (match CV line with
  | some y=>(⟨c',.tup [Ns y.1,.bool y.2],[.any]⟩:Rs)
  | none=>Rs.bad)=_
 rw[h]
theorem Tb:Ey.modes=[.bor]:=rfl
theorem SS:Ey.flat=false:=rfl
attribute [go_sem] Tb SS
theorem mq{args:List AV}(h:(mr args).ok=c'):∃ l y,CV l=ct y∧args=[.str l]:=by
 unfold mr at h;split at h
 ·rename_i l;split at h
  ·rename_i y g;exact⟨l,y,g,rfl⟩
  ·cases h
 ·cases h
theorem Sm{f:FuncId}{C:Ar}{i:Func}{c:Code}(U:CF b5 f C)(P:b5.funcs[f]? = ct i)(R:i.body=ct c)(p:(i.name == "runtime.NumGoroutine")=be)(hm:C.modes=[.bor]){X:List UInt8}{W:d'}(J:GT (fun _=>False) W){r:AV}{outs:List AV}(T:C.F [.str X]=⟨c',r,outs⟩):
  hz b5 f #[.string ⟨X.toArray⟩] W fun e o=>∃ v,e = .returned v∧AG (fun _=>False) W o∧VR (fun _=>False) o v (QU r) :=
 MW U P R p (args:=[.str X]) (vargs:=#[.string ⟨X.toArray⟩]) rfl (by rw[hm];rfl) rfl (fun j I=>by
  have g:j<1:=by simpa using I
  match j,g with
  | 0,_=>exact .str) J T
theorem Xg{S:Nat->Prop}{w:d'}{u:Value}{z:Int}{b:Bool}(h:VR S w u (.tup [.int .i64 z,.bool b])):u = .tuple #[.int .i64 z,.bool b]:=by
 cases h with
 | @tup cs o j h=>
  have i:=h 0 (by simp);have g:=h 1 (by simp);obtain⟨l⟩:=cs
  match l,j with
  | [a,c],_=>
   have i:VR S w a (.int .i64 z):=i;have g:VR S w c (.bool b):=g;cases i;cases g;rfl
theorem zd{S:Nat->Prop}{w:d'}{u:Value}{z:List UInt8}{b:Bool}(h:VR S w u (.tup [.str z,.bool b])):u = .tuple #[.string ⟨z.toArray⟩,.bool b]:=by
 cases h with
 | @tup cs o j h=>
  have i:=h 0 (by simp);have g:=h 1 (by simp);obtain⟨l⟩:=cs
  match l,j with
  | [a,c],_=>
   have i:VR S w a (.str z):=i;have g:VR S w c (.bool b):=g;cases i;cases g;rfl
theorem jp{O:Nat->Prop}{line:List UInt8}{y:EM×Bool}(h:CV line=ct y){w:d'}(hO:∀ b,O b->b<w.heap.size)(aa:GT O w):
  hz b5 58 #[.string ⟨line.toArray⟩] w (rdc.RdEnd O y w):=by
 unfold CV at h;have hg:GT (fun _=>False) w:=aa.mono (AG.refl _ _) fun _ _ c=>c.elim
 obtain⟨g,ay,h⟩:=AN h;obtain⟨p,h⟩:=AO h;simp only[baT,dtE] at p;obtain⟨kinds,R,h⟩:=AN h;obtain⟨dw,a2,h⟩:=AN h;obtain⟨c,a3,h⟩:=AN h;have J:∀ W,cA w.heap.size w W->GT (fun _=>False) W:=fun W C=>hg.mono (GU C) fun _ _ c=>c
 have ac:hz b5 97 #[.string ⟨line.toArray⟩,.string ⟨#[32]⟩] (w.alloc (.cells #[.slice b' 0 0,.slice b' 0 0,.bool be,.bool be] 91)) fun e w1=>∃ v,e = .returned v∧cA (w.heap.size+1) (w.alloc (.cells #[.slice b' 0 0,.slice b' 0 0,.bool be,.bool be] 91)) w1∧VR (fun k=>k=w.heap.size∨O k) w1 v (.sl 1 (cm AV.str g)):=by
  refine (DG (O:=fun k=>k=w.heap.size∨O k) jj Tryz.func97 rfl (by decide +kernel) (args:=[.str line,.str [32]]) (vargs:=#[.string ⟨line.toArray⟩,.string ⟨#[32]⟩]) rfl (by rw[mI];rfl) rfl (fun j T=>?_) (fun b e=>by
   rcases e with e|e
   ·simp;omega
   ·have:=hO b e;simp;omega) (aa.mono (AG.alloc _ w _) fun b hb e=>by
   rcases e with e|e
   ·omega
   ·exact e) (We ay)).mono fun e w' ⟨u,I,h2,o⟩=>⟨u,I,?_,o⟩
  ·have P:j<2:=by simpa using T
   match j,P with
   | 0,_=>exact .str
   | 1,_=>exact .str
  ·have:=CE h2;simpa using this
 have ad:∀ W,cA w.heap.size w W->hz b5 98 #[plot.strV (g.getD 0 c7)] W fun e W'=>e = .returned (.string ⟨kinds.toArray⟩)∧cA W.heap.size W W':=fun W C=>by
  refine (Sm s_5.s Tryz.func98 rfl (by decide +kernel) M_5 (J W C) (Fs_5 R)).mono fun e w' ⟨u,I,h2,o⟩=>?_
  have o:VR _ w' u (.str kinds):=o;cases o
  exact⟨I,CE h2⟩
 have ae:∀ W,cA w.heap.size w W->hz b5 100 #[] W fun e W'=>∃ v,e = .returned v∧cA W.heap.size W W'∧∀ U,cA W'.heap.size W' U->hz b5 99 #[v,plot.strV (g.getD 0 c7)] U fun e W3=>e = .returned (.bool c)∧cA U.heap.size U W3:=fun W C=>by
  refine (MW s_6.s Tryz.func100 rfl (by decide +kernel) (args:=[]) (vargs:=#[]) rfl (by rw[M_6];rfl) rfl (fun j T=>absurd T (by simp)) (J W C) (Fs_6 a2)).mono fun e w' ⟨u,I,h2,o⟩=>⟨u,I,CE h2,fun U aj=>?_⟩
  have o:VR (fun _=>False) w' u (.sl 1 (cm AV.str dw)):=o;have a6:cA w.heap.size w U:=(C.trans ((CE h2).mono C.size)).trans (aj.mono (hM C.size h2.size));refine (MW s_8.s Tryz.func99 rfl (by decide +kernel) (args:=[.sl 1 (cm AV.str dw),.str (g.getD 0 c7)]) (vargs:=#[u,plot.strV (g.getD 0 c7)]) rfl (by rw[M_8];rfl) rfl (fun j T=>?_) (J U a6) (Fs_8 a3)).mono fun e av ⟨u2,q1,q2,q3⟩=>?_
  ·have P:j<2:=by simpa using T
   match j,P with
   | 0,_=>exact o.mono (GU aj) fun _ _ c=>c
   | 1,_=>exact .str
  ·have q3:VR _ av u2 (.bool c):=q3;cases q3
   exact⟨q1,CE q2⟩
 split at h
 ·rename_i i;cases h
  have a0:c=be∨¬ (g.length:Int)=(kinds.length:Int)+1:=by
   simp only[Bool.or_eq_true,Bool.not_eq_true',beq_eq_false_iff_ne] at i;exact i
  have a1:kinds.length<=1099511627776:=by
   unfold Bg at R
   repeat' (first|(split at R)|(cases R;simp))
  refine rdc.read_none O line g.length (g.getD 0 c7) kinds c w p.1 a0 p.2 a1 (ac.mono ?_) ad ae;rintro e w1 ⟨v,rfl,hb,hv⟩;obtain⟨b,off,cap,rfl,a4,_,a5,_⟩:=rdc.words_of hv p.1;exact⟨b,off,cap,rfl,hb,a4,a5 0 p.1⟩
 ·rename_i i;obtain⟨y',hy,h⟩:=AN h;cases h
  obtain⟨rfl,b1⟩:c=c'∧(g.length:Int)=(kinds.length:Int)+1:=by
   cases c with
   | false=>exact absurd rfl i
   | true=>exact⟨rfl,by simpa using i⟩
  refine rdc.read_all O line g.length g (g.getD 0 c7) rfl kinds y' w hO rfl p.1 (by omega) p.2 hy ac ad ae ?_ ?_ ?_
  ·intro X q W C hX;refine (Sm jk Tryz.func101 rfl (by decide +kernel) mJ (J W C) (fM hX)).mono fun e w' ⟨u,I,h2,o⟩=>?_
   have o:VR _ w' u (.tup [.int .i64 q.1,.bool q.2]):=o;rw[Xg o] at I;exact⟨I,CE h2⟩
  ·intro X q W C hX;refine (Sm s_22.s Tryz.func102 rfl (by decide +kernel) M_22 (J W C) (AMT hX)).mono fun e w' ⟨u,I,h2,o⟩=>?_
   have o:VR _ w' u (.tup [.int .i64 q.1,.bool q.2]):=o;rw[Xg o] at I;exact⟨I,CE h2⟩
  ·intro X q W C hX;refine (MW s_12.s Tryz.func103 rfl (by decide +kernel) (args:=[.str X,.str [60]]) (vargs:=#[plot.strV X,.string ⟨#[60]⟩]) rfl (by rw[M_12];rfl) rfl (fun j T=>?_) (J W C) (AFR hX)).mono fun e w' ⟨u,I,h2,o⟩=>?_
   ·have P:j<2:=by simpa using T
    match j,P with
    | 0,_=>exact .str
    | 1,_=>exact .str
   ·have o:VR _ w' u (.tup [.str q.1,.bool q.2]):=o;rw[zd o] at I;exact⟨I,CE h2⟩
theorem dM{F:Nat->Prop}{g:Gh}{b:Nat}(h:AS F g [] b):F b:=by
 rcases h with h|⟨k,i,_⟩
 ·exact h
 ·obtain⟨hm,j⟩:=i.1;simp[AK] at j
theorem TB:CF b5 58 Ey:=by
 refine⟨fun e=>fx e,fun F U w args vargs aa o g p=>⟨fun e=>fx e,?_⟩⟩;obtain⟨l,y,J,rfl⟩:=mq p;have T:=GD g (i:=0) (by simp);rw[NG o];generalize vargs.getD 0 gr=v at T;cases T
 have he:=Go.Proofs.enters_of (P:=b5) Tryz.func58 (by kernel_rfl) rfl;unfold DD;rw[he,KT J];refine (jp (O:=AS F U []) J ?_ (g.tab.mono (AG.refl _ _) fun _ _ c=>?_)).mono ?_
 ·exact fun b hb=>g.fb b (dM hb)
 ·exact .inl (dM c)
 rintro e' w' ⟨ws,nu,rfl,hS,Xr,RA⟩;refine⟨_,U,[],id,rfl,Kb hS ⟨_,rfl,rfl,fun j I=>?_⟩ (fun i hi=>?_) (oY rfl)⟩
 ·match j,I with
  | 0,_=>
   refine .agg rfl (fun k C=>?_) (fun k C=>?_)
   ·match k,C with
    | 0,_=>rfl
    | 1,_=>rfl
    | 2,_=>rfl
    | 3,_=>rfl
   ·match k,C with
    | 0,_=>exact Xr
    | 1,_=>exact RA
    | 2,_=>exact .bool
    | 3,_=>exact .bool
  | 1,_=>exact .bool
 ·obtain⟨j,_,I,R⟩:=hi
  match j,I with
  | 0,_=>exact absurd R fm
  | 1,_=>exact absurd R fm
set_option maxHeartbeats 64000000
instance i_c_impl_readCommand:Sd b5 58 Ey:=⟨TB⟩
noncomputable def ADQ:Bl:=Aj b5 Tryz.f182 [0,2] [] [] []
noncomputable abbrev uN:Ar:=Cw [(154,cU)] ADQ [.bor]
instance:Sd b5 182 uN:=Aq
attribute [local go_sem] ED in
@[go_sem]theorem ALM{t:Int}(h:(ED t).isSome=c'):uN.F [.int .i64 t]=⟨c',.bool (gd (ED t)),[.any]⟩:=Cj ADQ trivial
theorem AMS{t:Int}{g:Bool}(h:ED t=ct g):uN.F [.int .i64 t]=⟨c',.bool g,[.any]⟩:=by
 have q:=ALM (MZ h);simp only[h,BA] at q;exact q
noncomputable def qK:Bl:=Aj b5 Tryz.f168 [0,2,3,4,5,15,16,17] [] [] [(97,0,2)]
noncomputable def zj:List (Nat×Ar):=[]
instance:SdL b5 zj:=SdL0
noncomputable abbrev gX:Ar:=Cw zj qK [.bor]
instance s_25:Sd b5 168 gX:=Aq
noncomputable def jM(s_:List UInt8)(i:Int):Int->St
 | g=>⟨[.str s_,.any,.any,.any,.any,.int .i64 i,.int .i64 g,.any],[],[],c'⟩
noncomputable def iX(s_:List UInt8)(g:Int):(Unit⊕Bool)->FU
 | .inl y=>(.exit 0,⟨[.any,.any,.any,.any,.any,.any,.any,.any],[],[],c'⟩)
 | .inr y=>(.ret,⟨[.any,.bool y,.any,.any,.any,.any,.any,.any],[],[],c'⟩)
attribute [local go_sem] Ia jM iX in
theorem Uh{s_:List UInt8}{j g:Int}{i:Unit⊕Bool}(h:AE (Ia s_ j) g=ct i):∃ o,∀ L,o<=L->Jj zj L qK 0 (jM s_ j g)=iX s_ j i:=LF qK trivial
attribute [local go_sem] By zj jM iX in
@[go_sem]theorem ALL{s_:List UInt8}(h:(By s_).isSome=c'):gX.F [.str s_]=⟨c',.bool (gd (By s_)),[.any]⟩:=Cj qK @Uh
theorem M_25:gX.modes=[.bor]:=rfl
theorem AMR{s_:List UInt8}{g:Bool}(h:By s_=ct g):gX.F [.str s_]=⟨c',.bool g,[.any]⟩:=by
 have q:=ALL (MZ h);simp only[h,BA] at q;exact q
noncomputable def AEB:Bl:=Aj b5 Tryz.f121 [0,1,2] [] [] []
noncomputable abbrev ABe:Ar:=Cw [(182,uN),(168,gX),(181,oP)] AEB [.bor]
instance:Sd b5 121 ABe:=Aq
attribute [local go_sem] Fj in
@[go_sem]theorem G_26{j:Int}{o g:List UInt8}{p:Int}{i:Bool}(h:(Fj (AA.mk j o g p i)).isSome=c'):ABe.F [.agg ([.int .i64 j,.str o,.str g,.int .i64 p,.bool i])]=⟨c',.bool (gd (Fj (AA.mk j o g p i))),[.any]⟩:=Cj AEB trivial
noncomputable def ACv:Bl:=Aj b5 Tryz.f231 [0,2] [] [] []
noncomputable abbrev AHo:Ar:=Cw [] ACv [.bor]
instance:Sd b5 231 AHo:=Aq
attribute [local go_sem] HJ in
@[go_sem]theorem G_27{x:Int}(h:(HJ x).isSome=c'):AHo.F [.int .i64 x]=⟨c',.bool (gd (HJ x)),[.any]⟩:=Cj ACv trivial
noncomputable def ADP:Bl:=Aj b5 Tryz.f184 [0,1,4,5,6] [] [] []
noncomputable abbrev AHn:Ar:=Cw [(231,AHo)] ADP [.bor,.bor]
instance:Sd b5 184 AHn:=Aq
attribute [local go_sem] Fb in
@[go_sem]theorem G_28{x y:Int}(h:(Fb x y).isSome=c'):AHn.F [.int .i64 x,.int .i64 y]=⟨c',.int .i64 (gd (Fb x y)),[.any,.any]⟩:=Cj ADP trivial
theorem AFl:CF b5 263 RR:=nh Tryz.func263 (by kernel_rfl) (by kernel_rfl) (by kernel_rfl) (by kernel_rfl)
instance i_c_hCmp:Sd b5 263 RR:=⟨AFl⟩
@[go_sem]def zN{a b:List UInt8}:=cr (fun y=>@ABz a b y)
noncomputable def ACu:Bl:=Aj b5 Tryz.f232 [0,1,4] [] [] []
noncomputable abbrev AHm:Ar:=Cw [(263,RR)] ACu [.bor,.bor]
instance:Sd b5 232 AHm:=Aq
attribute [local go_sem] Dj in
@[go_sem]theorem G_30{a b:List UInt8}(h:(Dj a b).isSome=c'):AHm.F [.str a,.str b]=⟨c',.int .i64 (gd (Dj a b)),[.any,.any]⟩:=Cj ACu trivial
noncomputable def ADO:Bl:=Aj b5 Tryz.f185 [0,1,4] [] [] []
noncomputable abbrev AHl:Ar:=Cw [(232,AHm)] ADO [.bor,.bor]
instance:Sd b5 185 AHl:=Aq
attribute [local go_sem] Gr in
@[go_sem]theorem G_31{a b:List UInt8}(h:(Gr a b).isSome=c'):AHl.F [.str a,.str b]=⟨c',.int .i64 (gd (Gr a b)),[.any,.any]⟩:=Cj ADO trivial
noncomputable def qJ:Bl:=Aj b5 Tryz.f183 [0,2,3,5,6,7,8,9] [] [] [(116,4,2)]
noncomputable def zi:List (Nat×Ar):=[]
instance:SdL b5 zi:=SdL0
noncomputable abbrev ABd:Ar:=Cw zi qJ [.bor]
instance:Sd b5 183 ABd:=Aq
noncomputable def jL(zero:Int)(j:List Int)(i:Int):Int->St
 | g=>⟨[.any,.any,.int .i64 zero,.any,.sl 1 (cm (AV.int .i64) j),.int .i64 i,.int .i64 g,.any],[],[],c'⟩
noncomputable def iW(zero:Int)(i:List Int)(g:Int):(Unit⊕Int)->FU
 | .inl y=>(.exit 0,⟨[.any,.any,.int .i64 zero,.any,.any,.any,.any,.any],[],[],c'⟩)
 | .inr y=>(.ret,⟨[.any,.int .i64 y,.any,.any,.any,.any,.any,.any],[],[],c'⟩)
attribute [local go_sem] JT jL iW in
theorem WP{zero:Int}{o:List Int}{j g:Int}{i:Unit⊕Int}(h:AE (JT zero o j) g=ct i):∃ p,∀ L,p<=L->Jj zi L qJ 0 (jL zero o j g)=iW zero o j i:=LF qJ trivial
attribute [local go_sem] Kn zi jL iW in
@[go_sem]theorem ALK{g:List Int}(h:(Kn g).isSome=c'):ABd.F [.sl 1 (cm (AV.int .i64) g)]=⟨c',.int .i64 (gd (Kn g)),[.any]⟩:=Cj qJ @WP
theorem AMP{g:List Int}{i:Int}(h:Kn g=ct i):ABd.F [.sl 1 (cm (AV.int .i64) g)]=⟨c',.int .i64 i,[.any]⟩:=by
 have q:=ALK (MZ h);simp only[h,BA] at q;exact q
noncomputable def AEA:Bl:=Aj b5 Tryz.f122 [0,1,2,3,4] [(104,16),(109,16),(114,16),(115,32),(116,16)] [] []
noncomputable abbrev ABc:Ar:=Cw [(184,AHn),(185,AHl),(183,ABd)] AEA [.bor,.bor]
instance:Sd b5 122 ABc:=Aq
attribute [local go_sem] BV in
@[go_sem]theorem G_33{I:Int}{J i:List UInt8}{R:Int}{o:Bool}{p:Int}{C g:List UInt8}{P:Int}{j:Bool}(h:(BV (AA.mk I J i R o) (AA.mk p C g P j)).isSome=c'):ABc.F [.agg ([.int .i64 I,.str J,.str i,.int .i64 R,.bool o]),.agg ([.int .i64 p,.str C,.str g,.int .i64 P,.bool j])]=⟨c',.int .i64 (gd (BV (AA.mk I J i R o) (AA.mk p C g P j))),[.any,.any]⟩:=Cj AEA @AMP
noncomputable def AAn:Bl:=Aj b5 Tryz.f70 [0,2,3,4,8,9,10,11] [(601,16)] [] [(113,0,2)]
noncomputable def sB:List (Nat×Ar):=[(121,ABe),(122,ABc)]
instance:SdL b5 sB:=by unfold sB;infer_instance
noncomputable abbrev oO:Ar:=Cw sB AAn [.bor]
instance s_34:Sd b5 70 oO:=Aq
noncomputable def jK(g i:List AA)(t9:Int):Int->St
 | t10=>⟨[.sl 5 (cm AC g),.any,.any,.any,.sl 5 (cm AC i),.int .i64 t9,.int .i64 t10,.any],[],[],c'⟩
noncomputable def iV(g i:List AA)(t9:Int):(Unit⊕Bool)->FU
 | .inl y=>(.exit 0,⟨[.any,.any,.any,.any,.any,.any,.any,.any],[],[],c'⟩)
 | .inr y=>(.ret,⟨[.any,.bool y,.any,.any,.any,.any,.any,.any],[],[],c'⟩)
attribute [local go_sem] DB sB jK iV in
theorem Nw{g o:List AA}{t9 i:Int}{j:Unit⊕Bool}(h:AE (DB g o t9) i=ct j):∃ p,∀ L,p<=L->Jj sB L AAn 0 (jK g o t9 i)=iV g o t9 j:=LF AAn trivial
attribute [local go_sem] BZ sB jK iV in
@[go_sem]theorem ALJ{g:List AA}(h:(BZ g).isSome=c'):oO.F [.sl 5 (cm AC g)]=⟨c',.bool (gd (BZ g)),[.any]⟩:=Cj AAn @Nw
theorem M_34:oO.modes=[.bor]:=rfl
theorem AMO{g:List AA}{i:Bool}(h:BZ g=ct i):oO.F [.sl 5 (cm AC g)]=⟨c',.bool i,[.any]⟩:=by
 have q:=ALJ (MZ h);simp only[h,BA] at q;exact q
end Go.Proofs.YtegmpdmpgmpiaaaGreatDoor
namespace Go.Proofs.YtegmpdmpgmpiaaaGreatDoor.last
open Go Go.RowKit Go.Shelf Go.Proofs.YtegmpdmpgmpiaaaGreatDoor
attribute [local go_sem] Oper.semAt_some
noncomputable def Mj(e:AA):Value:=.agg #[.int .i64 e.Time,.string ⟨e.Star.toArray⟩,.string ⟨e.Observer.toArray⟩,.int .i64 e.Mag,.bool e.Fainter]
structure mR(W:d')(b off:Nat)(l:List AA):Prop where
  c0:∀ k,k<l.length->W.cell? ⟨b,off+k*5,b'⟩=ct (.int .i64 (l.getD k c7).Time)
  c1:∀ k,k<l.length->W.cell? ⟨b,off+k*5+1,b'⟩=ct (.string ⟨(l.getD k c7).Star.toArray⟩)
  c2:∀ k,k<l.length->W.cell? ⟨b,off+k*5+2,b'⟩=ct (.string ⟨(l.getD k c7).Observer.toArray⟩)
  c3:∀ k,k<l.length->W.cell? ⟨b,off+k*5+3,b'⟩=ct (.int .i64 (l.getD k c7).Mag)
  c4:∀ k,k<l.length->W.cell? ⟨b,off+k*5+4,b'⟩=ct (.bool (l.getD k c7).Fainter)
theorem mR.below{o:Nat}{A B:d'}(h:cA o A B){b off:Nat}{l:List AA}(j:b<o)(i:mR A b off l):mR B b off l :=
  ⟨fun k g=>(h.cell (p:=⟨b,_,b'⟩) j).trans (i.c0 k g),fun k g=>(h.cell (p:=⟨b,_,b'⟩) j).trans (i.c1 k g),fun k g=>(h.cell (p:=⟨b,_,b'⟩) j).trans (i.c2 k g),
   fun k g=>(h.cell (p:=⟨b,_,b'⟩) j).trans (i.c3 k g),fun k g=>(h.cell (p:=⟨b,_,b'⟩) j).trans (i.c4 k g)⟩
noncomputable def dn(n k:Nat):List Nat:=(List.range k).map fun j=>n-1-j
theorem qk(n k:Nat):dn n (k+1)=dn n k++[n-1-k]:=by simp[dn,List.range_succ]
theorem uE(n k:Nat):(dn n k).length=k:=by simp[dn]
theorem AKZ(F:ht)(n:Nat)(hf:F.fn 228)(ac:F.round=b')(hn:1<=n)(l Bs P b off len cap:Nat)(L:List AA)(av:len=L.length)(a0:len<=100)(hb:b<P)(ae:Bs<P)(J Jx:List Nat->d'->Prop)
    (hY:∀ pre x W,J pre W->pre.length<len->YieldAt F (n-1) b5 l #[.int .i64 (x:Nat),Mj (L.getD x c7)] W fun e I=>
      (e = .returned (.bool c')∧J (pre++[x]) I∧cA P W I)∨(e = .returned (.bool be)∧Jx (pre++[x]) I))
    (W:d') (ad:W.cell? ⟨Bs,0,b'⟩=ct (.slice (ct ⟨b,off,b'⟩) len cap)) (hc:mR W b off L) (h0:J [] W) :
    ev F n b5 228 #[.func (.yield l) #[] #[],.pointer (ct ⟨Bs,0,b'⟩)] W fun e I=>(∃ v,e = .returned v) ∧
      ((∃ ys,ys=dn len len∧J ys I)∨(∃ pre,(∃ k,k<=len∧pre=dn len k)∧Jx pre I)):=by
  refine fy h5 rfl hf ?_ ac;simp only[hC,ea,ej,ek,eL,ew,dT,dz,ec,dX,e9,e0];have a8:b7.wrap ((len:Int)-1)=(len:Int)-1:=Z1 (by omega)
  gi_wp2
  gi_loopw [3] (fun i wr=>(∃ k j:Nat,k+(j+1)=len∧i = .int .i64 j∧J (dn len k) wr∧cA P W wr)∨(i = .int .i64 (-1)∧J (dn len len) wr∧cA P W wr))
    (fun i _=>(intOf i+1).toNat)
  case atStart=>
    rcases gn len with h|h
    · refine .inr ⟨?_,?_,et _ _⟩
      · congr 1;omega
      · rw[h];exact h0
    · refine .inl ⟨0,len-1,by omega,?_,h0,et _ _⟩
      congr 1
      omega
  case round=>
    rcases hrel with⟨k,j,hk,rfl,C,o⟩|⟨rfl,C,o⟩
    · have T:j<L.length:=by omega
      have g:=hc.below o hb;have q0:=g.c0 j T;have q1:=g.c1 j T;have q2:=g.c2 j T;have q3:=g.c3 j T;have q4:=g.c4 j T;have bb:=(o.cell (p:=⟨Bs,0,b'⟩) ae).trans ad;obtain⟨fn,tmps,assign,body,hy,hR⟩:=hY _ j wr C (by rw[uE];omega);obtain⟨x,hx⟩:∃ x,x=L.getD j default:=⟨_,rfl⟩;rw[← hx] at q0 q1 q2 q3 q4 hy;unfold Mj at hy;clear hx g hc hY
      gi_wp2
      refine hR.mono ?_;rintro e W3 (⟨rfl,aa,R⟩|⟨rfl,U⟩)
      · gi_wp2
        go_roundw
        case rel=>
          have e:dn len (k+1)=dn len k++[j]:=by rw[qk,show len-1-k=j by omega]
          rcases gn j with h|h
          · refine .inr ⟨?_,?_,o.trans R⟩
            · rw[h];rfl
            · rw[show len=k+1 by omega] at e ⊢;rw[e];rw[show k+1=len by omega];exact aa
          · refine .inl ⟨k+1,j-1,by omega,?_,by rw[e];exact aa,o.trans R⟩
            congr 1
            omega
        case measure=>simp[intOf]
      · gi_wp2
        refine h7 (results_none rfl _ _ _) rfl ?_;exact⟨⟨_,rfl⟩,.inr ⟨_,⟨k+1,by omega,by rw[qk,show len-1-k=j by omega]⟩,U⟩⟩
    · gi_wp2
      go_end0
      exact⟨⟨_,rfl⟩,.inl ⟨_,rfl,C⟩⟩
theorem uR(F:ht)(n:Nat)(p:F.fn 228)(g:F.round=b')(l o:Nat)(a:Option Addr)(cap:Nat)(J:List Nat->d'->Prop)(W:d')(C:W.cell? ⟨o,0,b'⟩=ct (.slice a 0 cap))(I:J [] W):
    ev F n b5 228 #[.func (.yield l) #[] #[],.pointer (ct ⟨o,0,b'⟩)] W fun e P=>(∃ v,e = .returned v)∧J [] P:=by
  refine fy h5 rfl p ?_ g;simp only[hC,ea,ej,ek,eL,ew,dT,dz,ec,dX,e9,e0]
  gi_wp2
  gi_loopw [3] (fun i wr=>i = .int .i64 (-1)∧J [] wr) (fun _ _=>0)
  case atStart=>exact⟨rfl,I⟩
  case round=>
    obtain⟨rfl,j⟩:=hrel
    gi_wp2
    go_end0
    exact⟨⟨_,rfl⟩,j⟩
theorem ABh(F:ht)(n:Nat)(i:F.fn 169)(g:F.round=b')(a:Option Addr)(len cap:Nat)(w:d'):
    ev F n b5 169 #[.slice a len cap] w fun e w'=>e = .returned (.func (.func 228) #[] #[.pointer (ct ⟨w.heap.size,0,b'⟩)])∧w'=w.alloc (.cells #[.slice a len cap] 30):=by
  refine fy Tryz.func169 rfl i ?_ g;simp only[Tryz.ntmps169,ea,ej,ek,eL,ew,dT,dz,ec,dX,e9,e0]
  gi_wp2
  go_ret
  exact⟨rfl,rfl⟩
noncomputable def il(i:Nat)(W:d')(g:Value)(L:List AA):Prop := ∃ a cap,g = .slice a L.length cap∧(0<L.length->∃ b off,a=ct ⟨b,off,b'⟩∧b<i∧mR W b off L)
theorem yq(F:ht)(n:Nat)(R:F.fn 228)(j:F.round=b')(hn:1<=n)(i:Nat)(P:Value)(L:List AA)(C:L.length<=100)(w:d')(o:i<w.heap.size)
    (hc:w.cell? ⟨i,0,b'⟩=ct P) (hI:il w.heap.size w P L) :
    SeqStopsK F n b5 228 #[.pointer (ct ⟨i,0,b'⟩)] (fun x:Nat=>#[b9 .i64 (x:Int),Mj (L.getD x c7)]) (cA w.heap.size) (fun ys=>ys=dn L.length L.length)
      (fun pre=>∃ k,k<=L.length∧pre=dn L.length k) L.length w:=fun l J Jx W U _ _ hY h0=>by
  have g:=(U.cell (p:=⟨i,0,b'⟩) o).trans hc;obtain⟨a,cap,rfl,hp⟩:=hI;rcases gn L.length with h|h
  · rw[h] at g;refine (uR F n R j l i a cap J W g h0).mono fun e W' ⟨I,hj⟩=>⟨I,.inl ⟨[],by rw[h];rfl,hj⟩⟩
  · obtain⟨b,off,rfl,T,I⟩:=hp h;exact AKZ F n R j hn l i w.heap.size b off L.length cap L rfl C T o J Jx hY W g (I.below U T) h0
theorem Se{w w':d'}(h:AG (fun _=>False) w w'):cA w.heap.size w w':=⟨h.os,h.tape,h.output,h.size,fun b g=>h.block b g fun c=>c⟩
theorem ACN{w g:d'}{x y z:Obj}(h:cA (((w.alloc x).alloc y).alloc z).heap.size (((w.alloc x).alloc y).alloc z) g):AG (fun _=>False) w g :=
  (((AG.alloc _ _ _).trans (AG.alloc _ _ _)).trans (AG.alloc _ _ _)).trans ⟨h.os,h.tape,h.output,h.size,fun b i _=>h.block b i⟩
theorem il.below{g:Nat}{A B:d'}(h:cA g A B){i:Value}{L:List AA}:il g A i L->il g B i L
  | ⟨a,cap,e,o⟩=>⟨a,cap,e,fun q=>by obtain⟨b,off,C,j,p⟩:=o q;exact⟨b,off,C,j,p.below h j⟩⟩
theorem il.le{j i:Nat}{A:d'}(h:j<=i){g:Value}{L:List AA}:il j A g L->il i A g L
  | ⟨a,cap,e,o⟩=>⟨a,cap,e,fun q=>by obtain⟨b,off,C,I,p⟩:=o q;exact⟨b,off,C,by omega,p⟩⟩
noncomputable def QT(L:List AA)(s:List UInt8):AA×Int :=match L.reverse.find? (fun e=>e.Star==s) with
  | some e=>(e,0)
  | none=>(AA.mk 0 [] [] 0 be,3)
noncomputable def Ij(e:AA):Array Value:=#[.int .i64 e.Time,.string ⟨e.Star.toArray⟩,.string ⟨e.Observer.toArray⟩,.int .i64 e.Mag,.bool e.Fainter]
theorem vV(L:List AA):L.reverse=(dn L.length L.length).map fun j=>L.getD j c7:=by
  apply List.ext_getElem
  · simp[dn]
  · intro i g h2;have hi:i<L.length:=by simpa using g
    simp only[dn,List.getElem_reverse,List.getElem_map,List.getElem_range];rw[gdE,geE (by omega)];rfl
theorem nR{L:List AA}{s:List UInt8}(h:∀ x∈dn L.length L.length,((L.getD x c7).Star==s)=be):QT L s=(AA.mk 0 [] [] 0 be,3):=by
  have:L.reverse.find? (fun e=>e.Star==s)=b':=by
    rw[h6];intro e g;rw[vV] at g;obtain⟨j,i,rfl⟩:=hH.1 g;rw[h j i];simp
  unfold QT;rw[this]
theorem nQ{L:List AA}{s:List UInt8}{k g:Nat}{i:List Nat}(J:k<=L.length)(o:dn L.length k=i++[g])(h:∀ x∈i,((L.getD x c7).Star==s)=be)(I:((L.getD g c7).Star==s)=c'):
    QT L s=(L.getD g c7,0):=by
  have p:dn L.length L.length=dn L.length k++(dn L.length L.length).drop k:=by
    have:(dn L.length L.length).take k=dn L.length k:=by
      unfold dn;rw[← List.map_take,List.take_range,Nat.min_eq_left J]
    rw[← this,List.take_append_drop]
  have:L.reverse.find? (fun e=>e.Star==s)=ct (L.getD g c7):=by
    rw[vV,p,o,h9,h9,List.append_assoc,List.find?_append]
    have C:(i.map fun j=>L.getD j c7).find? (fun e=>e.Star==s)=b':=by
      rw[h6];intro e o;obtain⟨j,P,rfl⟩:=hH.1 o;rw[h j P];simp
    rw[C];simp only[hB,List.map_nil,e0,e9,Option.none_or];rw[List.find?_cons,I]
  unfold QT;rw[this]
noncomputable def Lx(W:d')(b:Nat)(t:h8)(e:AA):Prop:=W.heap[b]? = ct (.cells (Ij e) t (0,0))
theorem Lx.lt{W:d'}{b:Nat}{t:h8}{e:AA}(h:Lx W b t e):b<W.heap.size:=(Array.getElem?_eq_some_iff.1 h).1
theorem Lx.own(b:Nat)(t:h8)(f:Unit->AA):Own (fun (_:List Nat) W=>Lx W b t (f ())):=fun s X Y row hs i g=>(e7 i g hs rfl).trans hs
theorem Lx.cells{W:d'}{b:Nat}{t:h8}{X:AA}(g:Lx W b t X):W.cell? ⟨b,0,b'⟩=ct (.int .i64 X.Time)∧W.cell? ⟨b,1,b'⟩=ct (.string ⟨X.Star.toArray⟩)∧W.cell? ⟨b,2,b'⟩=ct (.string ⟨X.Observer.toArray⟩)∧W.cell? ⟨b,3,b'⟩=ct (.int .i64 X.Mag)∧W.cell? ⟨b,4,b'⟩=ct (.bool X.Fainter):=by
  refine⟨?_,?_,?_,?_,?_⟩<;>simp[cf,show W.heap[b]? = _ from g,Ij]
theorem AFf{W:d'}{b n:Nat}{t:h8}{e X:AA}(o:Lx W b t e)(i:n<=b):Lx (W.setCells b 0 (Ij X).toList) b t X∧cA n W (W.setCells b 0 (Ij X).toList)∧KeepsOthers W (W.setCells b 0 (Ij X).toList) ∧
    ∀ c T v,c≠b->gu W c T v->gu (W.setCells b 0 (Ij X).toList) c T v:=by
  refine⟨?_,?_,?_,?_⟩
  · simp only[Ij,fA,World.setCell,Lx];unfold Lx at o;simp[Array.getElem?_modify,o,Ij]
  · simp only[Ij,fA];exact (((((et _ W).setCell (p:=⟨b,0,b'⟩) i _).setCell (p:=⟨b,1,b'⟩) i _).setCell (p:=⟨b,2,b'⟩) i _).setCell (p:=⟨b,3,b'⟩) i _).setCell (p:=⟨b,4,b'⟩) i _
  · simp only[Ij,fA];exact ((((cL W _ _).trans (cL _ _ _)).trans (cL _ _ _)).trans (cL _ _ _)).trans (cL _ _ _)
  · intro c T v C h;have g:∀ (j:Nat) (u:Value) (Z:d'),gu Z c T v->gu (Z.setCell ⟨b,j,b'⟩ u) c T v:=fun j u Z h=>(ff _ _ _ _ C).trans h
    simp only[Ij,fA];exact g _ _ _ (g _ _ _ (g _ _ _ (g _ _ _ (g _ _ _ h))))
theorem AAX(F:ht)(n:Nat)(f0:F.fn 106)(f1:F.fn 169)(f2:F.fn 228)(f3:F.fn 70)(f4:F.fn 168)(a3:F.round=b')(hn:5<=n)(a:Option Addr)(len cap:Nat)(L:List AA)(a4:len=L.length)(a7:L.length<=100)(s:List UInt8)(g:ByteArray)(aj:g=⟨s.toArray⟩)(w:d')(hI:il w.heap.size w (.slice a len cap) L)
    (cb:∀ x y z,ev F (n-1) b5 70 #[.slice a len cap] (((w.alloc x).alloc y).alloc z) fun e a9=>e = .returned (.bool c')∧cA (((w.alloc x).alloc y).alloc z).heap.size (((w.alloc x).alloc y).alloc z) a9)
    (cc:∀ w',AG (fun _=>False) w w'->ev F (n-1) b5 168 #[.string g] w' fun e a9=>e = .returned (.bool c')∧cA w'.heap.size w' a9) :
    ev F n b5 106 #[.slice a len cap,.string g] w fun e W'=>e = .returned (.tuple #[Mj (QT L s).1,.int .i64 (QT L s).2])∧cA w.heap.size w W':=by
  have h1:1<=n:=by omega
  refine callsIn_of_wp_marks gv rfl f0 ?_ a3;simp only[g',ea,ej,ek,eL,ew,dT,dz,ec,dX,e9,e0];have a6:=bs cc;have a5:=bs cb;have ds:=bs hI;have c9:=bs a4;have T:=bs aj;have b4:=bs a7;clear cc cb hI a4 aj a7
  gi_wp2_with (first
    | (gi_at_call 70;refine (a5.out _ _ _).mono ?_;rintro e w1 ⟨rfl,o⟩;have c6:=ACN o;have dc:=(o.cell (p:=⟨w.heap.size,0,b'⟩) (by simp;omega)).trans (((ga w 9 (.string g)).alloc _).alloc _).cell)
    | (gi_at_call 168;refine (a6.out _ c6).mono ?_;rintro e w2 ⟨rfl,P⟩)
    | (gi_at_call 169;refine (ABh F (n-1) f1 a3 _ _ _ _).mono ?_;rintro e w3 ⟨rfl,rfl⟩))
  have hI:=ds.out
  have C:cA w.heap.size w (w2.alloc (b8 #[e6 a len cap] 30)):=by
    have h3:cA w.heap.size w (((w.alloc (b8 #[b6 g] 9)).alloc (b8 #[b9 b7 0,b6 { data:=#[] },b6 { data:=#[] },b9 b7 0,cn be] 89)).alloc (b8 #[b9 b7 0] 2)) :=
      (((et _ w).alloc (en _) _).alloc (by simp) _).alloc (by simp;omega) _
    exact ((h3.trans (o.mono h3.size)).trans (P.mono (h3.trans (o.mono h3.size)).size)).alloc ((h3.trans (o.mono h3.size)).trans (P.mono (h3.trans (o.mono h3.size)).size)).size _
  have s1:w.heap.size+3<=w1.heap.size:=by have:=o.size;simpa using this
  have s2:=P.size
  have bS:gu (w2.alloc (b8 #[e6 a len cap] 30)) w.heap.size 9 (.string g):=by
    have h:=((ga w 9 (.string g)).alloc (b8 #[b9 b7 0,b6 { data:=#[] },b6 { data:=#[] },b9 b7 0,cn be] 89)).alloc (b8 #[b9 b7 0] 2);exact hL (((P.block _ (by omega)).trans (o.block _ (by simp;omega))).trans h) _
  have bR:Lx (w2.alloc (b8 #[e6 a len cap] 30)) (w.heap.size+1) 89 (AA.mk 0 [] [] 0 be):=by
    have h:(((w.alloc (b8 #[b6 g] 9)).alloc (b8 #[b9 b7 0,b6 { data:=#[] },b6 { data:=#[] },b9 b7 0,cn be] 89)).alloc (b8 #[b9 b7 0] 2)).heap[w.heap.size+1]? = ct (.cells (Ij (AA.mk 0 [] [] 0 be)) 89 (0,0)):=by
      refine (fu _ _ _ (by simp)).trans ?_;have:=f' (w.alloc (b8 #[b6 g] 9)) (b8 #[b9 b7 0,b6 { data:=#[] },b6 { data:=#[] },b9 b7 0,cn be] 89);rw[ef] at this;exact this
    exact (fu _ _ _ (by omega)).trans (((P.block _ (by omega)).trans (o.block _ (by simp))).trans h)
  have bI:gu (w2.alloc (b8 #[e6 a len cap] 30)) (w.heap.size+1+1) 2 (.int .i64 0):=by
    have h:=ga ((w.alloc (b8 #[b6 g] 9)).alloc (b8 #[b9 b7 0,b6 { data:=#[] },b6 { data:=#[] },b9 b7 0,cn be] 89)) 2 (.int .i64 0);simp only[ef] at h;exact hL (((P.block _ (by omega)).trans (o.block _ (by simp))).trans h) _
  have bN:gu (w2.alloc (b8 #[e6 a len cap] 30)) w2.heap.size 30 (.slice a len cap):=ga _ _ _;have ab:=hI.below C;have s3:(w2.alloc (b8 #[e6 a len cap] 30)).heap.size=w2.heap.size+1:=ef _ _;obtain⟨W0,ca⟩:∃ W0,w2.alloc (b8 #[e6 a len cap] 30)=W0:=⟨_,rfl⟩;obtain⟨nb,c8⟩:∃ nb,w2.heap.size=nb:=⟨_,rfl⟩;rw[ca] at C bS bR bI bN ab s3 ⊢;rw[c8] at bN s2 s3 ⊢;clear ca;have cd:=ab.le C.size;clear ab o P dc a6 a5 hI
  refine wpIn_rangeFunc_ownH a3 h1 (gf:=228) (lb:=#[.pointer (ct ⟨nb,0,b'⟩)]) rfl f2 (enters_of h5 (by kernel_rfl) rfl)
    (yq F (n-1) f2 a3 (by omega) nb _ L b4.out W0 (by omega) bN.cell cd) belowK_t (belowK_b (en _)) (et _ _) (fun _=>rfl)
    (fun pre W=>((gu W w.heap.size 9 (.string g)∧Lx W (w.heap.size+1) 89 (AA.mk 0 [] [] 0 be))∧gu W (w.heap.size+1+1) 2 (.int .i64 0))∧(cA w.heap.size w W∧(W0.heap.size<=W.heap.size∧∀ x∈pre,((L.getD x c7).Star==s)=be)))
    (fun c pre W=>(∃ ad last,pre=ad++[last]∧(∀ x∈ad,((L.getD x c7).Star==s)=be)∧((L.getD last c7).Star==s)=c'∧Lx W (w.heap.size+1) 89 (L.getD last c7)∧gu W (w.heap.size+1+1) 2 (.int .i64 0))∧(cA w.heap.size w W∧c = .ret))
    (fi (fi (fi (Own.from (boxed_own _ _ (fun _=>b6 g)) _) (Own.from (Lx.own _ _ (fun _=>AA.mk 0 [] [] 0 be)) _)) (Own.from (boxed_own _ _ (fun _=>b9 .i64 0)) _)) (fi (ownFrom_below (en _) C.size) (fun s A B row hs hg _=>⟨hM hs.1 hg.size,hs.2⟩)))
    (fun c=>fi (Own.from (fun s A B row hs hg hr=>by obtain⟨ad,last,e1,e2,e3,e4,e5⟩:=hs;exact⟨ad,last,e1,e2,e3,(e7 hg hr e4 rfl).trans e4,(e7 hg hr e5 rfl).trans e5⟩) _) (fi (ownFrom_below (en _) C.size) (fun s A B row hs _ _=>hs)))
    ⟨⟨⟨bS,bR⟩,bI⟩,C,en _,by simp⟩
    (fun x a' W=>∃ I,W0.heap.size<=I∧Lx W I 89 (L.getD x c7)∧a'={ tmps:=#[e6 a len cap,b6 g,gr,fs (ct { block:=w.heap.size,off:=0 }),fs (ct { block:=w.heap.size+1,off:=0 }),fs (ct { block:=w.heap.size+1+1,off:=0 }),gr,fs (ct { block:=I,off:=0 }),cn be,e6 a len cap,cn c',cn be,gr,cn be,b6 g,cn c',cn be,gr,e6 a len cap,Value.func (Fn.func 228) #[] #[fs (ct { block:=nb,off:=0 })],.int .i64 (x:Nat),Mj (L.getD x c7),gr,gr,gr,gr,gr,gr],defers:=[] })
    (fun x a' _ X Y row hs hg hr=>by obtain⟨I,h1,h2,h3⟩:=hs;exact⟨I,h1,(e7 hg (fun r e=>(hr r e).2) h2 rfl).trans h2,h3⟩)
    ?assign ?body ?done ?stop
  case assign=>
    rintro l pre x W K ⟨⟨⟨iS,i⟩,R⟩,iB,iZ,iN⟩ hK;obtain⟨X,hX⟩:∃ X,X=L.getD x default:=⟨_,rfl⟩;rw[← hX] at hK ⊢;unfold Mj at hK ⊢;clear hX;have b3:=bs hK;clear hK
    gi_wp2
    exact b3.out _ _ ((KeepsOthers.alloc _ _).from _) ((et _ W).alloc iZ _) ⟨⟨⟨iS.alloc _,(fu _ _ _ i.lt).trans i⟩,R.alloc _⟩,iB.alloc iB.size _,by rw[ef];omega,iN⟩ ⟨W.heap.size,iZ,f' W _,rfl⟩
  case body=>
    rintro l pre x a' W hl ⟨r,hr⟩ ⟨⟨⟨iS,i⟩,R⟩,iB,iZ,iN⟩ ⟨I,eu,bX,rfl⟩ el;obtain⟨X,hX⟩:∃ X,X=L.getD x default:=⟨_,rfl⟩;rw[← hX] at bX ⊢;have b2:=bs hX;clear hX;have q0:W.cell? ⟨I,0,b'⟩=ct (.int .i64 X.Time):=by simp[cf,show W.heap[I]? = _ from bX,Ij]
    have q1:W.cell? ⟨I,1,b'⟩=ct (.string ⟨X.Star.toArray⟩):=by simp[cf,show W.heap[I]? = _ from bX,Ij]
    have q2:W.cell? ⟨I,2,b'⟩=ct (.string ⟨X.Observer.toArray⟩):=by simp[cf,show W.heap[I]? = _ from bX,Ij]
    have q3:W.cell? ⟨I,3,b'⟩=ct (.int .i64 X.Mag):=by simp[cf,show W.heap[I]? = _ from bX,Ij]
    have q4:W.cell? ⟨I,4,b'⟩=ct (.bool X.Fainter):=by simp[cf,show W.heap[I]? = _ from bX,Ij]
    have r0:W.cell? ⟨w.heap.size+1,0,b'⟩=ct (.int .i64 0):=by simp[cf,show W.heap[w.heap.size+1]? = _ from i,Ij]
    have r1:W.cell? ⟨w.heap.size+1,1,b'⟩=ct (.string ⟨#[]⟩):=by simp[cf,show W.heap[w.heap.size+1]? = _ from i,Ij]
    have r2:W.cell? ⟨w.heap.size+1,2,b'⟩=ct (.string ⟨#[]⟩):=by simp[cf,show W.heap[w.heap.size+1]? = _ from i,Ij]
    have r3:W.cell? ⟨w.heap.size+1,3,b'⟩=ct (.int .i64 0):=by simp[cf,show W.heap[w.heap.size+1]? = _ from i,Ij]
    have r4:W.cell? ⟨w.heap.size+1,4,b'⟩=ct (.bool be):=by simp[cf,show W.heap[w.heap.size+1]? = _ from i,Ij]
    have U:∀ j,W.frozen? ⟨w.heap.size+1,j,b'⟩=false:=fun j=>by simp[gw,show W.heap[w.heap.size+1]? = _ from i]
    have g0:=U 0;have g1:=U 1;have g2:=U 2;have g3:=U 3;have g4:=U 4;have cS:=iS.cell;have cI:=R.cell;have fI:=R.frozen;have c5:=bs iS;have a0:=bs i;have a2:=bs R;have a1:=bs iN;have fa:=bs bX;clear iS i R iN bX U;unfold Mj
    by_cases hq:(X.Star==s)=c'
    · have hc:(X.Star==g.toList)=c':=by rw[T.out,ByteArray.toList_eq];exact hq
      have b0:=bs hq;clear hq
      gi_wp2
      obtain⟨hh,ax,au,ho⟩:=AFf (n:=w.heap.size) (X:=X) a0.out (by omega);have av:=ho (w.heap.size+1+1) 2 (.int .i64 0) (by omega) a2.out;show ownPostG _ _ _ _ _ _ _ _ ((W.setCells (w.heap.size+1) 0 (Ij X).toList).setCell ⟨w.heap.size+1+1,0,b'⟩ (.int .i64 0));generalize W.setCells (w.heap.size+1) 0 (Ij X).toList=W2 at hh ax au av;refine⟨(au.trans (cL _ _ _)).from _,⟨pre,x,rfl,a1.out,by rw[← b2.out];exact b0.out,?_,av.set _⟩,iB.trans ((ax.setCell (p:=⟨w.heap.size+1+1,0,b'⟩) (by simp;omega) _)),rfl⟩;rw[← b2.out];exact (ff _ _ _ _ (by simp)).trans hh
    · have bv:(X.Star==s)=be:=by simpa using hq
      have hc:(X.Star==g.toList)=be:=by rw[T.out,ByteArray.toList_eq];exact bv
      have b0:=bs bv;clear hq bv
      gi_wp2
      refine⟨KeepsFrom.refl _ _,et _ _,⟨⟨c5.out,a0.out⟩,a2.out⟩,iB,iZ,fun y hy=>?_⟩;rcases List.mem_append.1 hy with h|h
      · exact a1.out y h
      · simp at h;subst h;rw[← b2.out];exact b0.out
  case done=>
    rintro D ys W hD rfl ⟨⟨⟨iS,i⟩,R⟩,iB,iZ,iN⟩ hK;have r0:W.cell? ⟨w.heap.size+1,0,b'⟩=ct (.int .i64 0):=by simp[cf,show W.heap[w.heap.size+1]? = _ from i,Ij]
    have r1:W.cell? ⟨w.heap.size+1,1,b'⟩=ct (.string ⟨#[]⟩):=by simp[cf,show W.heap[w.heap.size+1]? = _ from i,Ij]
    have r2:W.cell? ⟨w.heap.size+1,2,b'⟩=ct (.string ⟨#[]⟩):=by simp[cf,show W.heap[w.heap.size+1]? = _ from i,Ij]
    have r3:W.cell? ⟨w.heap.size+1,3,b'⟩=ct (.int .i64 0):=by simp[cf,show W.heap[w.heap.size+1]? = _ from i,Ij]
    have r4:W.cell? ⟨w.heap.size+1,4,b'⟩=ct (.bool be):=by simp[cf,show W.heap[w.heap.size+1]? = _ from i,Ij]
    have U:∀ j,W.frozen? ⟨w.heap.size+1,j,b'⟩=false:=fun j=>by simp[gw,show W.heap[w.heap.size+1]? = _ from i]
    have g0:=U 0;have g1:=U 1;have g2:=U 2;have g3:=U 3;have g4:=U 4;have cI:=R.cell;have fI:=R.frozen;have b3:=bs hK;have a0:=bs i;have a1:=bs iN;have bo:=bs iB;have a2:=bs R;clear iS i R iN iB U hK
    gi_wp2
    obtain⟨hh,ax,au,ho⟩:=AFf (n:=w.heap.size) (X:=AA.mk 0 [] [] 0 be) a0.out (by omega);have av:=ho (w.heap.size+1+1) 2 (.int .i64 0) (by omega) a2.out;show bodyPostM _ _ _ _ _ _ _ ((W.setCells (w.heap.size+1) 0 (Ij (AA.mk 0 [] [] 0 be)).toList).setCell ⟨w.heap.size+1+1,0,b'⟩ (.int .i64 3));generalize W.setCells (w.heap.size+1) 0 (Ij (AA.mk 0 [] [] 0 be)).toList=W2 at hh ax au av;have b1:Lx (W2.setCell ⟨w.heap.size+1+1,0,b'⟩ (.int .i64 3)) (w.heap.size+1) 89 (AA.mk 0 [] [] 0 be):=(ff _ _ _ _ (by simp)).trans hh;have ab:=av.set (.int .i64 3);have ao:=((au.trans (cL W2 ⟨w.heap.size+1+1,0,b'⟩ (.int .i64 3)))).same D _ b3.out rfl;have cl:=bo.out.trans (ax.setCell (p:=⟨w.heap.size+1+1,0,b'⟩) (by simp;omega) (.int .i64 3));generalize W2.setCell ⟨w.heap.size+1+1,0,b'⟩ (.int .i64 3)=W3 at b1 ab ao cl;refine⟨by simp,.inl ⟨_,_,rfl,hN ao,?_⟩⟩;have J:Lx (W3.putObj D (.deferred b')) (w.heap.size+1) 89 (AA.mk 0 [] [] 0 be):=(e7 (gg _ D (.deferred b')) (fun r e=>by cases e;exact⟨_,ao,rfl⟩) b1 rfl).trans b1;have aa:=cell_kept ab.cell (gg _ D (.deferred b')) (fun r e=>by cases e;exact⟨_,ao,rfl⟩);obtain⟨c0,c1,c2,c3,c4⟩:=J.cells;refine⟨.tuple #[Mj (QT L s).1,.int .i64 (QT L s).2],?_,rfl,cl.trans (belowK_b (w:=w) (en _) _ D _ _ (by have:=C.size;omega) ao rfl rfl)⟩;rw[nR a1.out];simp[hJ,h4,go_sem,c0,c1,c2,c3,c4,aa,Mj]
  case stop=>
    rintro D c pre W hD ⟨k,hk,rfl⟩ ⟨⟨ad,last,e1,e2,e3,i,R⟩,iB,rfl⟩ hK;have hr:=bs (nQ hk e1 e2 e3);have J:Lx (W.putObj D (.deferred b')) (w.heap.size+1) 89 (L.getD last c7):=(e7 (gg _ D (.deferred b')) (fun r e=>by cases e;exact⟨_,hK,rfl⟩) i rfl).trans i;have aa:=cell_kept R.cell (gg _ D (.deferred b')) (fun r e=>by cases e;exact⟨_,hK,rfl⟩);have db:=bs J;have df:=bs aa;have bo:=bs iB;have e8:=bs e1;clear J aa iB i R e1 e2 e3
    gi_wp2
    refine⟨by simp,.inl ⟨_,_,rfl,hN hK,?_⟩⟩;refine⟨.tuple #[Mj (QT L s).1,.int .i64 (QT L s).2],?_,rfl,bo.out.trans (belowK_b (w:=w) (en _) W D _ _ (by have:=C.size;omega) hK rfl rfl)⟩;have J:=db.out;have aa:=df.out;rw[hr.out];generalize L.getD last c7=X at J ⊢;obtain⟨c0,c1,c2,c3,c4⟩:=J.cells;simp[hJ,h4,go_sem,c0,c1,c2,c3,c4,aa,Mj]
theorem vD{w j:d'}{g:ByteArray}(i:cA (((w.alloc (b8 #[b6 g] 9)).alloc (b8 #[b9 b7 0,b6 { data:=#[] },b6 { data:=#[] },b9 b7 0,cn be] 89)).alloc (b8 #[b9 b7 0] 2)).heap.size (((w.alloc (b8 #[b6 g] 9)).alloc (b8 #[b9 b7 0,b6 { data:=#[] },b6 { data:=#[] },b9 b7 0,cn be] 89)).alloc (b8 #[b9 b7 0] 2)) j):
    j.cell? ⟨w.heap.size,0,b'⟩=ct (.string g)∧Lx j (w.heap.size+1) 89 (AA.mk 0 [] [] 0 be)∧gu j (w.heap.size+1+1) 2 (.int .i64 0)∧cA w.heap.size w j:=by
  have o:cA w.heap.size w (((w.alloc (b8 #[b6 g] 9)).alloc (b8 #[b9 b7 0,b6 { data:=#[] },b6 { data:=#[] },b9 b7 0,cn be] 89)).alloc (b8 #[b9 b7 0] 2)):=(((et _ w).alloc (en _) _).alloc (by simp) _).alloc (by simp;omega) _;refine⟨?_,?_,?_,o.trans (i.mono o.size)⟩
  · exact (i.cell (p:=⟨w.heap.size,0,b'⟩) (by simp;omega)).trans (((ga w 9 (.string g)).alloc _).alloc _).cell
  · have h:(((w.alloc (b8 #[b6 g] 9)).alloc (b8 #[b9 b7 0,b6 { data:=#[] },b6 { data:=#[] },b9 b7 0,cn be] 89)).alloc (b8 #[b9 b7 0] 2)).heap[w.heap.size+1]? = ct (.cells (Ij (AA.mk 0 [] [] 0 be)) 89 (0,0)):=by
      refine (fu _ _ _ (by simp)).trans ?_;have:=f' (w.alloc (b8 #[b6 g] 9)) (b8 #[b9 b7 0,b6 { data:=#[] },b6 { data:=#[] },b9 b7 0,cn be] 89);rw[ef] at this;exact this
    exact (i.block _ (by simp)).trans h
  · have h:=ga ((w.alloc (b8 #[b6 g] 9)).alloc (b8 #[b9 b7 0,b6 { data:=#[] },b6 { data:=#[] },b9 b7 0,cn be] 89)) 2 (.int .i64 0);simp only[ef] at h;exact (i.block _ (by simp)).trans h
theorem Lx.fr{W:d'}{b:Nat}{t:h8}{X:AA}(h:Lx W b t X)(j:Nat):W.frozen? ⟨b,j,b'⟩=be:=by
  simp[gw,show W.heap[b]? = _ from h]
theorem AKP{w W:d'}{c:Int}(C:Lx W (w.heap.size+1) 89 (AA.mk 0 [] [] 0 be))(I:gu W (w.heap.size+1+1) 2 (.int .i64 0))(J:cA w.heap.size w W):
    Lx ((W.setCells (w.heap.size+1) 0 (Ij (AA.mk 0 [] [] 0 be)).toList).setCell ⟨w.heap.size+1+1,0,b'⟩ (.int .i64 c)) (w.heap.size+1) 89 (AA.mk 0 [] [] 0 be) ∧
    ((W.setCells (w.heap.size+1) 0 (Ij (AA.mk 0 [] [] 0 be)).toList).setCell ⟨w.heap.size+1+1,0,b'⟩ (.int .i64 c)).cell? ⟨w.heap.size+1+1,0,b'⟩=ct (.int .i64 c) ∧
    cA w.heap.size w ((W.setCells (w.heap.size+1) 0 (Ij (AA.mk 0 [] [] 0 be)).toList).setCell ⟨w.heap.size+1+1,0,b'⟩ (.int .i64 c)):=by
  obtain⟨o,i,j,P⟩:=AFf (n:=w.heap.size) (X:=(AA.mk 0 [] [] 0 be)) C (by omega);have g:=P (w.heap.size+1+1) 2 (.int .i64 0) (by omega) I;generalize W.setCells (w.heap.size+1) 0 (Ij (AA.mk 0 [] [] 0 be)).toList=W2 at o i j g;exact⟨(ff _ _ _ _ (by simp)).trans o,(g.set _).cell,J.trans (i.setCell (p:=⟨w.heap.size+1+1,0,b'⟩) (by simp;omega) _)⟩
theorem AGT(F:ht)(n:Nat)(f0:F.fn 106)(f3:F.fn 70)(T:F.round=b')(hn:5<=n)(a:Option Addr)(len cap:Nat)(i:ByteArray)(w:d')
    (p:∀ x y z,ev F (n-1) b5 70 #[.slice a len cap] (((w.alloc x).alloc y).alloc z) fun e I=>e = .returned (.bool be)∧cA (((w.alloc x).alloc y).alloc z).heap.size (((w.alloc x).alloc y).alloc z) I) :
    ev F n b5 106 #[.slice a len cap,.string i] w fun e W'=>e = .returned (.tuple #[Mj (AA.mk 0 [] [] 0 be),.int .i64 1])∧cA w.heap.size w W':=by
  have h1:1<=n:=by omega
  refine fy gv rfl f0 ?_ T;simp only[g',ea,ej,ek,eL,ew,dT,dz,ec,dX,e9,e0];have o:=bs p;clear p
  gi_wp2_with (gi_at_call 70;refine (o.out _ _ _).mono ?_;rintro e w2 ⟨rfl,j⟩;obtain⟨U,g,C,iB⟩:=vD j;clear j U;obtain⟨q0,q1,q2,q3,q4⟩:=g.cells;have g0:=g.fr 0;have g1:=g.fr 1;have g2:=g.fr 2;have g3:=g.fr 3;have g4:=g.fr 4;have cI:=C.cell;have fI:=C.frozen;have J:=bs g;have P:=bs C;have R:=bs iB;clear g C iB)
  obtain⟨k1,k2,k3⟩:=AKP (c:=1) J.out P.out R.out;show bodyPost _ _ _ _ _ ((w2.setCells (w.heap.size+1) 0 (Ij (AA.mk 0 [] [] 0 be)).toList).setCell ⟨w.heap.size+1+1,0,b'⟩ (.int .i64 1));generalize (w2.setCells (w.heap.size+1) 0 (Ij (AA.mk 0 [] [] 0 be)).toList).setCell ⟨w.heap.size+1+1,0,b'⟩ (.int .i64 1)=W3 at k1 k2 k3;obtain⟨c0,c1,c2,c3,c4⟩:=k1.cells;refine h7 (v:=.tuple #[Mj (AA.mk 0 [] [] 0 be),.int .i64 1]) ?_ rfl ⟨rfl,k3⟩;simp[hJ,h4,go_sem,c0,c1,c2,c3,c4,k2,Mj]
theorem AAY(F:ht)(n:Nat)(f0:F.fn 106)(f3:F.fn 70)(f4:F.fn 168)(aj:F.round=b')(hn:5<=n)(a:Option Addr)(len cap:Nat)(j:ByteArray)(w:d')
    (R:∀ x y z,ev F (n-1) b5 70 #[.slice a len cap] (((w.alloc x).alloc y).alloc z) fun e p=>e = .returned (.bool c')∧cA (((w.alloc x).alloc y).alloc z).heap.size (((w.alloc x).alloc y).alloc z) p)
    (U:∀ w',AG (fun _=>False) w w'->ev F (n-1) b5 168 #[.string j] w' fun e p=>e = .returned (.bool be)∧cA w'.heap.size w' p) :
    ev F n b5 106 #[.slice a len cap,.string j] w fun e W'=>e = .returned (.tuple #[Mj (AA.mk 0 [] [] 0 be),.int .i64 2])∧cA w.heap.size w W':=by
  have h1:1<=n:=by omega
  refine fy gv rfl f0 ?_ aj;simp only[g',ea,ej,ek,eL,ew,dT,dz,ec,dX,e9,e0];have P:=bs R;clear R;have T:=bs U;clear U
  gi_wp2_with (first
    | (gi_at_call 70;refine (P.out _ _ _).mono ?_;rintro e w1 ⟨rfl,i⟩;have ae:=ACN i;obtain⟨a1,C,I,J⟩:=vD i;have kR:=bs C;have kI:=bs I;have kB:=bs J;have s1:w.heap.size+3<=w1.heap.size:=(by have:=i.size;simpa using this);clear C I J i)
    | (gi_at_call 168;refine (T.out _ ae).mono ?_;rintro e w2 ⟨rfl,g⟩;obtain⟨o,iI,iB⟩:Lx w2 (w.heap.size+1) 89 (AA.mk 0 [] [] 0 be)∧gu w2 (w.heap.size+1+1) 2 (.int .i64 0)∧cA w.heap.size w w2:=⟨(g.block _ (by omega)).trans kR.out,(g.block _ (by omega)).trans kI.out,kB.out.trans (g.mono kB.out.size)⟩;clear g;obtain⟨q0,q1,q2,q3,q4⟩:=o.cells;have g0:=o.fr 0;have g1:=o.fr 1;have g2:=o.fr 2;have g3:=o.fr 3;have g4:=o.fr 4;have cI:=iI.cell;have fI:=iI.frozen;have ab:=bs o;have ac:=bs iI;have ad:=bs iB;clear o iI iB))
  obtain⟨k1,k2,k3⟩:=AKP (c:=2) ab.out ac.out ad.out;show bodyPost _ _ _ _ _ ((w2.setCells (w.heap.size+1) 0 (Ij (AA.mk 0 [] [] 0 be)).toList).setCell ⟨w.heap.size+1+1,0,b'⟩ (.int .i64 2));generalize (w2.setCells (w.heap.size+1) 0 (Ij (AA.mk 0 [] [] 0 be)).toList).setCell ⟨w.heap.size+1+1,0,b'⟩ (.int .i64 2)=W3 at k1 k2 k3;obtain⟨c0,c1,c2,c3,c4⟩:=k1.cells;refine h7 (v:=.tuple #[Mj (AA.mk 0 [] [] 0 be),.int .i64 2]) ?_ rfl ⟨rfl,k3⟩;simp[hJ,h4,go_sem,c0,c1,c2,c3,c4,k2,Mj]
end Go.Proofs.YtegmpdmpgmpiaaaGreatDoor.last
namespace Go.Proofs.YtegmpdmpgmpiaaaGreatDoor
open Go Go.RowKit Go.Shelf Go.Proofs.YtegmpdmpgmpiaaaGreatDoor.last
theorem ABE:∀ {a b:AA},AC a=AC b->a=b
  | ⟨_,_,_,_,_⟩,⟨_,_,_,_,_⟩,h=>by
    simp only[AC,AV.agg.injEq,List.cons.injEq,AV.int.injEq,AV.str.injEq,AV.bool.injEq,true_and,and_true] at h;obtain⟨rfl,rfl,rfl,rfl,rfl⟩:=h;rfl
theorem lO:∀ {a b:List AA},cm AC a=cm AC b->a=b
  | [],[],_=>rfl
  | [],_::_,h=>by simp at h
  | _::_,[],h=>by simp at h
  | a::l,b::m,h=>by
    simp only[hB,List.cons.injEq] at h;rw[ABE h.1,lO h.2]
open Classical in
noncomputable def kU (args:List AV):Rs :=if h:∃ q:List AA×List UInt8×(AA×Int),Hq q.1 q.2.1=ct q.2.2∧args=[.sl 5 (cm AC q.1),.str q.2.1] then ⟨c',.tup [AC (gk h).2.2.1,.int .i64 (gk h).2.2.2],[.any,.any]⟩ else Rs.bad
noncomputable def JU:Ar:=⟨[.bor,.bor],be,kU⟩
theorem RZ{i:List AA}{g:List UInt8}{o:AA×Int}(h:Hq i g=ct o):
    JU.F [.sl 5 (cm AC i),.str g]=⟨c',.tup [AC o.1,.int .i64 o.2],[.any,.any]⟩:=by
  show kU _=_;have j:∃ q:List AA×List UInt8×(AA×Int),Hq q.1 q.2.1=ct q.2.2∧[AV.sl 5 (cm AC i),.str g]=[.sl 5 (cm AC q.1),.str q.2.1]:=⟨(i,g,o),h,rfl⟩;unfold kU;rw[dif_pos j];obtain⟨p,h2⟩:=Classical.choose_spec j;generalize gk j=q at p h2 ⊢;simp only[List.cons.injEq,AV.sl.injEq,AV.str.injEq,true_and,and_true] at h2;have C:=lO h2.1;rw[← C,← h2.2,h] at p;rw[← Option.some.inj p]
theorem cX:JU.modes=[.bor,.bor]:=rfl
theorem bG:JU.flat=false:=rfl
attribute [go_sem] cX bG
theorem tO{args:List AV}(h:(kU args).ok=c'):∃ g star y,Hq g star=ct y∧args=[.sl 5 (cm AC g),.str star]:=by
  unfold kU at h;split at h
  · rename_i i;obtain⟨q,j,h2⟩:=i;exact⟨q.1,q.2.1,q.2.2,j,h2⟩
  · cases h
theorem ABC{S:Nat->Prop}{w:d'}{v:Value}{l:List AA}(h:VR S w v (.sl 5 (cm AC l))):il w.heap.size w v l:=by
  cases h with
  | @sl a n cap sz els b off rd U P R ha hc C T=>
    have o:(cm AC l).length=l.length:=by simp
    refine⟨a,cap,by rw[U,o],fun I=>?_⟩;obtain⟨e,_⟩:=ha (by rw[o];exact I);have hb:=World.block_lt_of_cell? w ⟨b,off+(0*5+0),b'⟩ (C 0 0 (by rw[o];exact I) (by omega))
    have p:∀ k,k<l.length->(cm AC l).getD k .any=AC (l.getD k c7):=fun k g=>by
      simp[gdE,g]
    have one:∀ k j,k<l.length->j<5->w.cell? ⟨b,off+(k*5+j),b'⟩=ct (rd k j)∧VR S w (rd k j) ((AC (l.getD k c7)).cells.getD j .any):=fun k j g J=>by
      refine⟨C k j (by rw[o];exact g) J,?_⟩;have:=T k j (by rw[o];exact g) J
      rwa [p k g] at this
    have i:∀ {u:Value} {k:IntKind} {z:Int},VR S w u (.int k z)->u = .int k z:=fun h=>by cases h;rfl
    have s:∀ {u:Value} {z:List UInt8},VR S w u (.str z)->u = .string ⟨z.toArray⟩:=fun h=>by cases h;rfl
    have bo:∀ {u:Value} {z:Bool},VR S w u (.bool z)->u = .bool z:=fun h=>by cases h;rfl
    refine⟨b,off,e,hb,⟨fun k g=>?_,fun k g=>?_,fun k g=>?_,fun k g=>?_,fun k g=>?_⟩⟩
    · obtain⟨q,r⟩:=one k 0 g (by omega);rw[← i r];exact q
    · obtain⟨q,r⟩:=one k 1 g (by omega);rw[← s r];exact q
    · obtain⟨q,r⟩:=one k 2 g (by omega);rw[← s r];exact q
    · obtain⟨q,r⟩:=one k 3 g (by omega);rw[← i r];exact q
    · obtain⟨q,r⟩:=one k 4 g (by omega);rw[← bo r];exact q
theorem rW{l:List AA}(h:BZ l=ct c'):l.length<=100:=by
  unfold BZ at h;split at h
  · cases h
  · rename_i g;simp only[dtE] at g;omega
theorem ABF{S:Nat->Prop}{w:d'}(e:AA):VR S w (Mj e) (AC e):=by
  refine .agg rfl (fun j g=>?_) (fun j g=>?_)
  · match j,g with
    | 0,_=>rfl
    | 1,_=>rfl
    | 2,_=>rfl
    | 3,_=>rfl
    | 4,_=>rfl
  · match j,g with
    | 0,_=>exact .int
    | 1,_=>exact .str
    | 2,_=>exact .str
    | 3,_=>exact .int
    | 4,_=>exact .bool
theorem AKa{C:Ar}(h:C.modes=[.bor,.bor])(j:Nat):C.modes[j]? ≠ ct .io:=by
  rw[h]
  match j with
  | 0=>intro c;cases c
  | 1=>intro c;cases c
  | j+2=>simp
theorem nP{l:List AA}{s:List UInt8}{y:AA×Int}(h:Hq l s=ct y){v:Value}{w:d'}(T:VR (fun _=>False) w v (.sl 5 (cm AC l)))(U:GT (fun _=>False) w):
    hz b5 106 #[v,.string ⟨s.toArray⟩] w fun e W'=>e = .returned (.tuple #[Mj y.1,.int .i64 y.2])∧cA w.heap.size w W':=by
  unfold Hq at h;have hE:=ABC T;obtain⟨a,cap,rfl,hp⟩:=id hE;cases I:BZ l with
  | none=>rw[I] at h;cases h
  | some b=>
    rw[I,obS] at h
    have p:∀ x y z,ev gj (9-1) b5 70 #[.slice a l.length cap] (((w.alloc x).alloc y).alloc z) fun e i=>e = .returned (.bool b)∧cA (((w.alloc x).alloc y).alloc z).heap.size (((w.alloc x).alloc y).alloc z) i:=fun x y z=>by
      have g:AG (fun _=>False) w (((w.alloc x).alloc y).alloc z):=((AG.alloc _ _ _).trans (AG.alloc _ _ _)).trans (AG.alloc _ _ _);refine gb.2 ((WB s_34.s Tryz.func70 rfl (by decide +kernel) (args:=[.sl 5 (cm AC l)]) (vargs:=#[.slice a l.length cap]) rfl (by rw[M_34];rfl) rfl (fun j J=>?_) (U.mono g fun _ _ c=>c) (AMO I)).mono fun e i ⟨R,h2⟩=>⟨R,Se h2⟩);have o:j<1:=by simpa using J
      match j,o with
      | 0,_=>exact T.mono g fun _ _ c=>c
    cases b
    · simp only[hA,if_true,Option.some.injEq] at h;subst h;exact gb.1 (AGT gj 9 trivial trivial rfl (by omega) a l.length cap ⟨s.toArray⟩ w p)
    · simp only[hG,bfT,if_false] at h;cases P:By s with
      | none=>rw[P] at h;cases h
      | some c=>
        rw[P,obS] at h
        have C:∀ w',AG (fun _=>False) w w'->ev gj (9-1) b5 168 #[.string ⟨s.toArray⟩] w' fun e i=>e = .returned (.bool c)∧cA w'.heap.size w' i:=fun w' g=>by
          refine gb.2 ((WB s_25.s Tryz.func168 rfl (by decide +kernel) (args:=[.str s]) (vargs:=#[.string ⟨s.toArray⟩]) rfl (by rw[M_25];rfl) rfl (fun j J=>?_) (U.mono g fun _ _ c=>c) (AMR P)).mono fun e i ⟨R,h2⟩=>⟨R,Se h2⟩);have o:j<1:=by simpa using J
          match j,o with
          | 0,_=>exact .str
        cases c
        · simp only[hA,if_true,Option.some.injEq] at h;subst h;exact gb.1 (AAY gj 9 trivial trivial trivial rfl (by omega) a l.length cap ⟨s.toArray⟩ w p C)
        · simp only[hG,bfT,if_false] at h
          have e:QT l s=y:=by
            unfold QT;revert h;cases l.reverse.find? (fun e=>e.Star==s)<;>intro h<;>exact Option.some.inj h
          rw[← e];exact gb.1 (AAX gj 9 trivial trivial trivial trivial trivial rfl (by omega) a l.length cap l rfl (rW I) s ⟨s.toArray⟩ rfl w hE p C)
theorem cF:CF b5 106 JU:=by
  refine⟨fun e=>fx e,fun F g0 w args vargs ab C g I=>⟨fun e=>fx e,?_⟩⟩;obtain⟨l,s,y,R,rfl⟩:=tO I;have U:=GD g (i:=0) (by simp);have p:=GD g (i:=1) (by simp);rw[NF C];generalize vargs.getD 0 gr=v at U;generalize vargs.getD 1 gr=u at p;have hv:VR (fun _=>False) w v (.sl 5 (cm AC l)):=VR.mono (AG.refl _ _) (fun _ _ c=>c.elim) U;have p:VR _ w u (.str s):=p;cases p
  have he:=Go.Proofs.enters_of (P:=b5) gv (by kernel_rfl) rfl;unfold DD;rw[he,RZ R];refine (nP R hv (g.tab.mono (AG.refl _ _) fun _ _ c=>c.elim)).mono ?_;rintro e' w' ⟨rfl,o⟩;have hs:AG (fun _=>False) w w':=⟨o.os,o.tape,o.output,o.size,fun b hb _=>o.block b hb⟩;refine⟨_,g0,[],id,rfl,Kb hs ⟨_,rfl,rfl,fun j J=>?_⟩ (fun i hi=>?_) (AKa rfl)⟩
  · match j,J with
    | 0,_=>exact ABF _
    | 1,_=>exact .int
  · obtain⟨j,_,J,T⟩:=hi
    match j,J with
    | 0,_=>exact absurd T fm
    | 1,_=>exact absurd T fm
end Go.Proofs.YtegmpdmpgmpiaaaGreatDoor
