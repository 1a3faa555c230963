/- Lemmas. No condition. -/
import Derived.Test.YtegmpdmpgmpiaaaGreatDoorP6
import Derived.Test.YtegmpdmpgmpiaaaGreatDoorP7
import Derived.RangeFuncNested
import Derived.RangeFuncBound
import Derived.Shelf.RegionOpen
import Derived.OwnWalkIn
import Derived.LoopNIn
import Derived.LoopIn
open Array renaming replicate_zero->dU,replicate_succ->d'
open Bool renaming false->cm,true->dT,false_ne_true->fB,noConfusion->gb,not_false->hT,not_true->h'
open Classical renaming choose->h7
open Go renaming World->e6,grownBy_keeps_cells->e9,CallsIn->fp,callsIn_of_wp->gn,callsIn_wide->h4,grownBy_putObj'->h5,undef->h9,Boxed->ht,bodyPost_ret->hL,TypeId->hM,Fence->hP,Calls->hQ,results->ir,run_takeDeferred->i'
open Go.Boxed renaming new->g',alloc->ix
open Go.Fence renaming wide->h6
open Go.IntKind renaming i64->b6
open Go.KeepsOthers renaming setCell->dx
open Go.Lib renaming hid->cn
open Go.Obj renaming cells->b'
open Go.OwnFrom renaming and->fA
open Go.Proofs.Tryz renaming prog->b3,func106->hz,ntmps106->hB,f106->hG,func228->hH,ntmps228->hZ
open Go.RowKit renaming Below->ds
open Go.RowKit.Below renaming refl->fm,heap_setCell->fy,heap_alloc->ga
open Go.Value renaming string->b5,int->cl,bool->c',slice->e8,pointer->f'
open Go.World renaming cell?->cA,size_alloc->ew,setCells->gr,alloc_heap_new->gu,frozen?->hA
open Inhabited renaming default->cw
open List renaming map->cB,append_toArray->e0,cons_append->e7,nil_append->ea,size_toArray->eg,push_toArray->ev,length_cons->eL,length_nil->fa,find?_eq_none->hJ,map_append->hN,map_cons->hV,mem_map->ih
open Nat renaming le_refl->fi,reduceSub->fs,reduceAdd->fu,eq_zero_or_pos->h8,le_trans->iR
open Option renaming none->ct,some->dc
set_option linter.defProp false
set_option linter.unusedSimpArgs false
set_option linter.unusedVariables false
set_option maxRecDepth 100000
set_option maxHeartbeats 4000000
open Go.IntKind (i64 u64)
noncomputable section
namespace Go.Proofs.YtegmpdmpgmpiaaaGreatDoor
open Go Go.RowKit
def qd:List AV->Rs
 | [.str l]=>match CG l with
  |some y=>⟨dT,.tup [JH y.1,.bool y.2],[.any]⟩
  |none=>Rs.bad
 |_=>Rs.bad
def Fd:Ao:=⟨[.bor],cm,qd⟩
variable{j:Bool}
def LW{line:L8}{j:Cm×Bool}(h:CG line=dc j):Fd.F [.str line]=⟨dT,.tup [JH j.1,.bool j.2],[.any]⟩:=by
 show(match CG line with
  |some y=>(⟨dT,.tup [JH y.1,.bool y.2],[.any]⟩:Rs)
  |none=>Rs.bad)=_
 rw[h]
theorem Ot:Fd.modes=[.bor]:=rfl
theorem TY:Fd.flat=false:=rfl
attribute [go_sem] Ot TY
def qc{args:List AV}(h:(qd args).ok=dT):∃l y,CG l=dc y/\args=[.str l]:=by
 unfold qd at h;split at h
 .rename_i l;split at h
  .rename_i y j;exact⟨l,y,j,rfl⟩
  .cases h
 .cases h
variable{C:Bool}
def Tu{f:FuncId}{C:Ao}{J:Func}{c:Code}(hC:Cd b3 f C)(hf:b3.funcs[f]? = dc J)(hb:J.body=dc c)(U:(J.name == "runtime.NumGoroutine")=cm)(hm:C.modes=[.bor]){X:L8}{W:e6}(hg:GT C' W){r:AV}{outs:List AV}(hF:C.F [.str X]=⟨dT,r,outs⟩):
  hQ b3 f #[.string ⟨X.toArray⟩] W fun e R=>∃v,e = .returned v/\AD C' W R/\VR C' R v (RY r) :=
 EZ hC hf hb U (args:=[.str X]) (vargs:=#[.string ⟨X.toArray⟩]) rfl (by rw[hm];rfl) rfl (fun j hj=>by
  have I:j<1:=by simpa using hj
  match j,I with
  |0,_=>exact .str) hg hF
variable{S:Nat->Prop}{w:e6}{u:Value}{b:Bool}
def ZB{z:Int}(h:VR S w u (.tup [.int .i64 z,.bool b])):u = .tuple #[.int .i64 z,.bool b]:=by
 cases h with
 | @tup cs J I h=>
  have C:=h 0 p';have j:=h 1 p';obtain⟨l⟩:=cs
  match l,I with
  | [a,c],_=>
   have C:VR S w a (.int .i64 z):=C;have j:VR S w c (.bool b):=j;cases C;cases j;rfl
def AEA{z:L8}(h:VR S w u (.tup [.str z,.bool b])):u = .tuple #[.string ⟨z.toArray⟩,.bool b]:=by
 cases h with
 | @tup cs J I h=>
  have C:=h 0 p';have j:=h 1 p';obtain⟨l⟩:=cs
  match l,I with
  | [a,c],_=>
   have C:VR S w a (.str z):=C;have j:VR S w c (.bool b):=j;cases C;cases j;rfl
def nO{O:Nat->Prop}{line:L8}{y:Cm×Bool}(h:CG line=dc y){w:e6}(hO:∀b,O b->b<w.heap.size)(ao:GT O w):
  hQ b3 58 #[.string ⟨line.toArray⟩] w (rdc.RdEnd O y w):=by
 unfold CG at h;have hg:GT C' w:=ao.mono (AD.refl _ _) fun _ _ c=>c.elim
 obtain⟨words,ba,h⟩:=AO h;obtain⟨J,h⟩:=AY h;simp only[baT,dtE]at J;obtain⟨kinds,ad,h⟩:=AO h;obtain⟨dw,bh,h⟩:=AO h;obtain⟨c,bo,h⟩:=AO h;have aa:∀W,ds w.heap.size w W->GT C' W:=fun W R=>hg.mono (IF R) fun _ _ c=>c
 have ax:hQ b3 97 #[.string ⟨line.toArray⟩,.string ⟨#[32]⟩] (w.alloc (.cells #[.slice ct 0 0,.slice ct 0 0,.bool cm,.bool cm] 91)) fun e w1=>∃v,e = .returned v/\ds (w.heap.size+1) (w.alloc (.cells #[.slice ct 0 0,.slice ct 0 0,.bool cm,.bool cm] 91)) w1/\VR (fun k=>k=w.heap.size\/O k) w1 v (.sl 1 (cB AV.str words)):=by
  refine(DR (O:=fun k=>k=w.heap.size\/O k) nI Tryz.func97 rfl z' (args:=[.str line,.str [32]]) (vargs:=#[.string ⟨line.toArray⟩,.string ⟨#[32]⟩]) rfl (by rw[pn];rfl) rfl (fun j hj=>?_) (fun b e=>by
   rcases e with e|e
   .simp;omega
   .have:=hO b e;simp;omega) (ao.mono (AD.alloc _ w _) fun b hb e=>by
   rcases e with e|e
   .omega
   .exact e) (Xw ba)).mono fun e w' ⟨u,U,h2,I⟩=>⟨u,U,?_,I⟩
  .have ab:j<2:=by simpa using hj
   match j,ab with
   |0,_=>exact .str
   |1,_=>exact .str
  .have:=DS h2;simpa using this
 have ay:∀W,ds w.heap.size w W->hQ b3 98 #[plot.strV (words.getD 0 cw)] W fun e W'=>e = .returned (.string ⟨kinds.toArray⟩)/\ds W.heap.size W W':=fun W R=>by
  refine(Tu s_5.s Tryz.func98 rfl z' M_5 (aa W R) (Fs_5 ad)).mono fun e w' ⟨u,U,h2,I⟩=>?_
  have I:VR _ w' u (.str kinds):=I;cases I
  exact⟨U,DS h2⟩
 have az:∀W,ds w.heap.size w W->hQ b3 100 #[] W fun e W'=>∃v,e = .returned v/\ds W.heap.size W W'/\∀W2,ds W'.heap.size W' W2->hQ b3 99 #[v,plot.strV (words.getD 0 cw)] W2 fun e W3=>e = .returned (.bool c)/\ds W2.heap.size W2 W3:=fun W R=>by
  refine(EZ s_6.s Tryz.func100 rfl z' (args:=[]) (vargs:=#[]) rfl (by rw[M_6];rfl) rfl (fun j hj=>absurd hj p') (aa W R) (Fs_6 bh)).mono fun e w' ⟨u,U,h2,I⟩=>⟨u,U,DS h2,fun W2 a1=>?_⟩
  have I:VR C' w' u (.sl 1 (cB AV.str dw)):=I;have b0:ds w.heap.size w W2:=(R.trans ((DS h2).mono R.size)).trans (a1.mono (iR R.size h2.size));refine(EZ s_8.s Tryz.func99 rfl z' (args:=[.sl 1 (cB AV.str dw),.str (words.getD 0 cw)]) (vargs:=#[u,plot.strV (words.getD 0 cw)]) rfl (by rw[M_8];rfl) rfl (fun j hj=>?_) (aa W2 b0) (Fs_8 bo)).mono fun e a8 ⟨u2,q1,q2,q3⟩=>?_
  .have ab:j<2:=by simpa using hj
   match j,ab with
   |0,_=>exact I.mono (IF a1) fun _ _ c=>c
   |1,_=>exact .str
  .have q3:VR _ a8 u2 (.bool c):=q3;cases q3
   exact⟨q1,DS q2⟩
 split at h
 .rename_i C;cases h
  have bb:c=cm\/¬ (words.length:Int)=(kinds.length:Int)+1:=by
   simp only[Bool.or_eq_true,Bool.not_eq_true',beq_eq_false_iff_ne]at C;exact C
  have be:kinds.length<=1099511627776:=by
   unfold Bm at ad
   repeat' (first|(split at ad)|(cases ad;simp))
  refine rdc.read_none O line words.length (words.getD 0 cw) kinds c w J.1 bb J.2 be (ax.mono ?_) ay az;rintro e w1 ⟨v,rfl,hb,hv⟩;obtain⟨b,off,cap,rfl,bs,_,bz,_⟩:=rdc.words_of hv J.1;exact⟨b,off,cap,rfl,hb,bs,bz 0 J.1⟩
 .rename_i C;obtain⟨y',hy,h⟩:=AO h;cases h
  obtain⟨rfl,b8⟩:c=dT/\(words.length:Int)=(kinds.length:Int)+1:=by
   cases c with
   |false=>exact absurd rfl C
   |true=>exact⟨rfl,by simpa using C⟩
  refine rdc.read_all O line words.length words (words.getD 0 cw) rfl kinds y' w hO rfl J.1 n' J.2 hy ax ay az ?_ ?_ ?_
  .intro X q W R hX;refine(Tu nJ Tryz.func101 rfl z' po (aa W R) (jp hX)).mono fun e w' ⟨u,U,h2,I⟩=>?_
   have I:VR _ w' u (.tup [.int .i64 q.1,.bool q.2]):=I;rw[ZB I]at U;exact⟨U,DS h2⟩
  .intro X q W R hX;refine(Tu s_22.s Tryz.func102 rfl z' M_22 (aa W R) (ASD hX)).mono fun e w' ⟨u,U,h2,I⟩=>?_
   have I:VR _ w' u (.tup [.int .i64 q.1,.bool q.2]):=I;rw[ZB I]at U;exact⟨U,DS h2⟩
  .intro X q W R hX;refine(EZ s_12.s Tryz.func103 rfl z' (args:=[.str X,.str [60]]) (vargs:=#[plot.strV X,.string ⟨#[60]⟩]) rfl (by rw[M_12];rfl) rfl (fun j hj=>?_) (aa W R) (AKE hX)).mono fun e w' ⟨u,U,h2,I⟩=>?_
   .have ab:j<2:=by simpa using hj
    match j,ab with
    |0,_=>exact .str
    |1,_=>exact .str
   .have I:VR _ w' u (.tup [.str q.1,.bool q.2]):=I;rw[AEA I]at U;exact⟨U,DS h2⟩
variable{b:L8}
def iF{F:Nat->Prop}{g:Gh}{b:Nat}(h:AR F g [] b):F b:=by
 rcases h with h|⟨k,j,_⟩
 .exact h
 .obtain⟨hm,C⟩:=j.1;simp[AK]at C
def OW:Cd b3 58 Fd:=by
 refine⟨fun e=>gb e,fun F g0 w args vargs ae I C J=>⟨fun e=>gb e,?_⟩⟩;obtain⟨l,y,hy,rfl⟩:=qc J;have h0:=Hw C (i:=0) p';rw[Pm I];generalize vargs.getD 0 h9=v at h0;cases h0
 have he:=Go.Proofs.enters_of (P:=b3) Tryz.func58 o' rfl;unfold DJ;rw[he,LW hy];refine(nO (O:=AR F g0 []) hy ?_ (C.tab.mono (AD.refl _ _) fun _ _ c=>?_)).mono ?_
 .exact fun b hb=>C.fb b (iF hb)
 .exact .inl (iF c)
 rintro e' w' ⟨ws,nu,rfl,hS,hv1,hv2⟩;refine⟨_,g0,[],id,rfl,Mf hS ⟨_,rfl,rfl,fun j U=>?_⟩ (fun i hi=>?_) (yc rfl)⟩
 .match j,U with
  | 0,_=>
   refine .agg rfl (fun k R=>?_) (fun k R=>?_)
   .match k,R with
    |0,_=>rfl
    |1,_=>rfl
    |2,_=>rfl
    |3,_=>rfl
   .match k,R with
    |0,_=>exact hv1
    |1,_=>exact hv2
    |2,_=>exact .bool
    |3,_=>exact .bool
  |1,_=>exact .bool
 .obtain⟨j,_,U,hf⟩:=hi
  match j,U with
  |0,_=>exact absurd hf fB
  |1,_=>exact absurd hf fB
set_option maxHeartbeats 64000000
def AHx:=Af b3 Tryz.f182 [0,2] [] [] []
abbrev yX:=CV [(154,fo)] AHx [.bor]
instance:Sd b3 182 yX:=Am
variable{t:Int}
attribute [local go_sem] EV in
@[go_sem]def AQd:Q7 (EV t) yX [.i t] .bool [.any]:=CK AHx trivial
def ASC(h:EV t=dc j):yX.F [.int .i64 t]=⟨dT,.bool j,[.any]⟩:=(Q8 AQd h:)
def uL:=Af b3 Tryz.f168 [0,2,3,4,5,15,16,17] [] [] [(97,0,2)]
def AEF:List (Nat×Ao):=[]
instance:SdL b3 AEF:=SdL0
abbrev lF:=CV AEF uL [.bor]
instance s_25:Sd b3 168 lF:=Am
def ma(s_:L8)(j:Int):Int->St
 |t16=>⟨[.str s_,.any,.any,.any,.any,.i j,.i t16,.any],[],[],dT⟩
def lr(s_:L8)(j:Int):(Unit⊕Bool)->FM
 |.inl y=>(.exit 0,⟨[.any,.any,.any,.any,.any,.any,.any,.any],[],[],dT⟩)
 |.inr y=>(.ret,⟨[.any,.bool y,.any,.any,.any,.any,.any,.any],[],[],dT⟩)
attribute [local go_sem] JX ma lr in
def Vy{s_:L8}{I:Int}:L7 (JX s_ I) AEF uL 0 (ma s_ I) (lr s_ I):=Jd uL trivial
variable{s_:L8}
attribute [local go_sem] CD AEF ma lr in
@[go_sem]def AQc:Q7 (CD s_) lF [.str s_] .bool [.any]:=CK uL @Vy
theorem M_25:lF.modes=[.bor]:=rfl
def ASB(h:CD s_=dc j):lF.F [.str s_]=⟨dT,.bool j,[.any]⟩:=(Q8 AQc h:)
def AIi:=Af b3 Tryz.f121 [0,1,2] [] [] []
abbrev AGQ:=CV [(182,yX),(168,lF),(181,sC)] AIi [.bor]
instance:Sd b3 121 AGQ:=Am
variable{j:L8}{R:Int}
attribute [local go_sem] GP in
@[go_sem]def G_26{I:Int}{J:L8}:Q7 (GP (AA.mk I J j R C)) AGQ [.agg ([.i I,.str J,.str j,.i R,.bool C])] .bool [.any]:=CK AIi trivial
def AHc:=Af b3 Tryz.f231 [0,2] [] [] []
abbrev AMX:=CV [] AHc [.bor]
instance:Sd b3 231 AMX:=Am
variable{x:Int}
attribute [local go_sem] Ia in
@[go_sem]def G_27:Q7 (Ia x) AMX [.i x] .bool [.any]:=CK AHc trivial
def AHw:=Af b3 Tryz.f184 [0,1,4,5,6] [] [] []
abbrev AMW:=CV [(231,AMX)] AHw [.bor,.bor]
instance:Sd b3 184 AMW:=Am
attribute [local go_sem] GE in
@[go_sem]def G_28{y:Int}:Q7 (GE x y) AMW [.i x,.i y] .i [.any,.any]:=CK AHw trivial
def AKZ:Cd b3 263 Sk:=rQ Tryz.func263 o' o' o' o'
instance:Sd b3 263 Sk:=⟨AKZ⟩
variable{a:L8}
@[go_sem]def ADm:=cr (fun y=>@AGj a b y)
def AHb:=Af b3 Tryz.f232 [0,1,4] [] [] []
abbrev AMV:=CV [(263,Sk)] AHb [.bor,.bor]
instance:Sd b3 232 AMV:=Am
attribute [local go_sem] EA in
@[go_sem]def G_30:Q7 (EA a b) AMV [.str a,.str b] .i [.any,.any]:=CK AHb trivial
def AHv:=Af b3 Tryz.f185 [0,1,4] [] [] []
abbrev AMU:=CV [(232,AMV)] AHv [.bor,.bor]
instance:Sd b3 185 AMU:=Am
attribute [local go_sem] IL in
@[go_sem]def G_31:Q7 (IL a b) AMU [.str a,.str b] .i [.any,.any]:=CK AHv trivial
def uK:=Af b3 Tryz.f183 [0,2,3,5,6,7,8,9] [] [] [(116,4,2)]
def AEE:List (Nat×Ao):=[]
instance:SdL b3 AEE:=SdL0
abbrev AGP:=CV AEE uK [.bor]
instance:Sd b3 183 AGP:=Am
def mZ(zero:Int)(C:List Int)(j:Int):Int->St
 |t8=>⟨[.any,.any,.i zero,.any,.sl 1 (cB (AV.int .i64) C),.i j,.i t8,.any],[],[],dT⟩
def lq(zero:Int)(C:List Int)(j:Int):(Unit⊕Int)->FM
 |.inl y=>(.exit 0,⟨[.any,.any,.i zero,.any,.any,.any,.any,.any],[],[],dT⟩)
 |.inr y=>(.ret,⟨[.any,.i y,.any,.any,.any,.any,.any,.any],[],[],dT⟩)
attribute [local go_sem] KO mZ lq in
def Xm{zero:Int}{J:List Int}{I:Int}:L7 (KO zero J I) AEE uK 0 (mZ zero J I) (lq zero J I):=Jd uK trivial
attribute [local go_sem] Lp AEE mZ lq in
@[go_sem]def AQb{j:List Int}:Q7 (Lp j) AGP [.sl 1 (cB (AV.int .i64) j)] .i [.any]:=CK uK @Xm
def ASA{j:List Int}{C:Int}(h:Lp j=dc C):AGP.F [.sl 1 (cB (AV.int .i64) j)]=⟨dT,.int .i64 C,[.any]⟩:=(Q8 AQb h:)
def AIh:=Af b3 Tryz.f122 [0,1,2,3,4] [(104,16),(109,16),(114,16),(115,32),(116,16)] [] []
abbrev AGO:=CV [(184,AMW),(185,AMU),(183,AGP)] AIh [.bor,.bor]
instance:Sd b3 122 AGO:=Am
attribute [local go_sem] Bc in
@[go_sem]def G_33{aa:Int}{ab C:L8}{ae:Int}{J:Bool}{U:L8}{ad:Int}{I:Bool}:Q7 (Bc (AA.mk aa ab C ae J) (AA.mk R U j ad I)) AGO [.agg ([.i aa,.str ab,.str C,.i ae,.bool J]),.agg ([.i R,.str U,.str j,.i ad,.bool I])] .i [.any,.any]:=CK AIh @ASA
def AFJ:=Af b3 Tryz.f70 [0,2,3,4,8,9,10,11] [(601,16)] [] [(113,0,2)]
def wX:List (Nat×Ao):=[(121,AGQ),(122,AGO)]
instance:SdL b3 wX:=by unfold wX;infer_instance
abbrev pU:=CV wX AFJ [.bor]
instance s_34:Sd b3 70 pU:=Am
def mY(j C:List AA)(t9:Int):Int->St
 |t10=>⟨[.sl 5 (cB AC j),.any,.any,.any,.sl 5 (cB AC C),.i t9,.i t10,.any],[],[],dT⟩
def lm(j C:List AA)(t9:Int):(Unit⊕Bool)->FM
 |.inl y=>(.exit 0,⟨[.any,.any,.any,.any,.any,.any,.any,.any],[],[],dT⟩)
 |.inr y=>(.ret,⟨[.any,.bool y,.any,.any,.any,.any,.any,.any],[],[],dT⟩)
attribute [local go_sem] DO wX mY lm in
def Oy{j J:List AA}{t9:Int}:L7 (DO j J t9) wX AFJ 0 (mY j J t9) (lm j J t9):=Jd AFJ trivial
variable{j:List AA}
attribute [local go_sem] BO wX mY lm in
@[go_sem]def AQa:Q7 (BO j) pU [.sl 5 (cB AC j)] .bool [.any]:=CK AFJ @Oy
theorem M_34:pU.modes=[.bor]:=rfl
def ARz(h:BO j=dc C):pU.F [.sl 5 (cB AC j)]=⟨dT,.bool C,[.any]⟩:=(Q8 AQa h:)
end Go.Proofs.YtegmpdmpgmpiaaaGreatDoor
namespace Go.Proofs.YtegmpdmpgmpiaaaGreatDoor.last
open Go Go.RowKit Go.Shelf Go.Proofs.YtegmpdmpgmpiaaaGreatDoor
attribute [local go_sem] Oper.semAt_some
def Nm(e:AA):Value:=.agg #[.int .i64 e.Time,.string ⟨e.Star.toArray⟩,.string ⟨e.Observer.toArray⟩,.int .i64 e.Mag,.bool e.Fainter]
structure py(W:e6)(b off:Nat)(l:List AA):Prop where
  c0:∀k,k<l.length->W.cell? ⟨b,off+k*5,ct⟩=dc (.int .i64 (l.getD k cw).Time)
  c1:∀k,k<l.length->W.cell? ⟨b,off+k*5+1,ct⟩=dc (.string ⟨(l.getD k cw).Star.toArray⟩)
  c2:∀k,k<l.length->W.cell? ⟨b,off+k*5+2,ct⟩=dc (.string ⟨(l.getD k cw).Observer.toArray⟩)
  c3:∀k,k<l.length->W.cell? ⟨b,off+k*5+3,ct⟩=dc (.int .i64 (l.getD k cw).Mag)
  c4:∀k,k<l.length->W.cell? ⟨b,off+k*5+4,ct⟩=dc (.bool (l.getD k cw).Fainter)
variable{b:Nat}
def py.below{I:Nat}{A B:e6}(h:ds I A B){off:Nat}{l:List AA}(hb:b<I)(C:py A b off l):py B b off l :=
  ⟨fun k j=>(h.cell (p:=⟨b,_,ct⟩) hb).trans (C.c0 k j),fun k j=>(h.cell (p:=⟨b,_,ct⟩) hb).trans (C.c1 k j),fun k j=>(h.cell (p:=⟨b,_,ct⟩) hb).trans (C.c2 k j),
   fun k j=>(h.cell (p:=⟨b,_,ct⟩) hb).trans (C.c3 k j),fun k j=>(h.cell (p:=⟨b,_,ct⟩) hb).trans (C.c4 k j)⟩
def dn(n k:Nat):List Nat:=(List.range k).map fun j=>n-1-j
def ul(n k:Nat):dn n (k+1)=dn n k++[n-1-k]:=by simp[dn,List.range_succ]
def yM(n k:Nat):(dn n k).length=k:=by simp[dn]
def APb(F:hP)(n:Nat)(hf:F.fn 228)(au:F.round=ct)(hn:1<=n)(l Bs n₀ b off len cap:Nat)(L:List AA)(a7:len=L.length)(bb:len<=100)(hb:b<n₀)(ay:Bs<n₀)(J Jx:List Nat->e6->Prop)
    (hY:∀pre x W,J pre W->pre.length<len->YieldAt F (n-1) b3 l #[.int .i64 (x:Nat),Nm (L.getD x cw)] W fun e U=>
      (e = .returned (.bool dT)/\J (pre++[x]) U/\ds n₀ W U)\/(e = .returned (.bool cm)/\Jx (pre++[x]) U))
    (W:e6) (ax:W.cell? ⟨Bs,0,ct⟩=dc (.slice (dc ⟨b,off,ct⟩) len cap)) (hc:py W b off L) (h0:J [] W) :
    fp F n b3 228 #[.func (.yield l) #[] #[],.pointer (dc ⟨Bs,0,ct⟩)] W fun e U=>(∃v,e = .returned v) /\
      ((∃ys,ys=dn len len/\J ys U)\/(∃pre,(∃k,k<=len/\pre=dn len k)/\Jx pre U)):=by
  refine gn hH rfl hf ?_ au;simp only[hZ,eg,eL,fa,fu,fs,d',dU,ev,e0,ea,e7];have b0:b6.wrap ((len:Int)-1)=(len:Int)-1:=Z1 n'
  gi_wp2
  gi_loopw [3] (fun i wr=>(∃k j:Nat,k+(j+1)=len/\i = .int .i64 j/\J (dn len k) wr/\ds n₀ W wr)\/(i = .int .i64 (-1)/\J (dn len len) wr/\ds n₀ W wr))
    (fun i _=>(intOf i+1).toNat)
  case atStart=>
    rcases h8 len with h|h
    · refine .inr ⟨?_,?_,fm _ _⟩
      · congr 1;omega
      · rw[h];exact h0
    · refine .inl ⟨0,len-1,n',?_,h0,fm _ _⟩
      congr 1
      omega
  case round=>
    rcases hrel with⟨k,j,hk,rfl,R,I⟩|⟨rfl,R,I⟩
    · have hj:j<L.length:=n'
      have C:=hc.below I hb;have q0:=C.c0 j hj;have q1:=C.c1 j hj;have q2:=C.c2 j hj;have q3:=C.c3 j hj;have q4:=C.c4 j hj;have b2:=(I.cell (p:=⟨Bs,0,ct⟩) ay).trans ax;obtain⟨fn,tmps,assign,body,hy,hR⟩:=hY _ j wr R (by rw[yM];omega);obtain⟨x,hx⟩:∃x,x=L.getD j default:=⟨_,rfl⟩;rw[←hx]at q0 q1 q2 q3 q4 hy;unfold Nm at hy;clear hx C hc hY
      gi_wp2
      refine hR.mono ?_;rintro e W3 (⟨rfl,aj,ab⟩|⟨rfl,ae⟩)
      · gi_wp2
        go_roundw
        case rel=>
          have e:dn len (k+1)=dn len k++[j]:=by rw[ul,show len-1-k=j by omega]
          rcases h8 j with h|h
          · refine .inr ⟨?_,?_,I.trans ab⟩
            · rw[h];rfl
            · rw[show len=k+1 by omega]at e ⊢;rw[e];rw[show k+1=len by omega];exact aj
          · refine .inl ⟨k+1,j-1,n',?_,by rw[e];exact aj,I.trans ab⟩
            congr 1
            omega
        case measure=>simp[intOf]
      · gi_wp2
        refine hL (results_none rfl _ _ _) rfl ?_;exact⟨⟨_,rfl⟩,.inr ⟨_,⟨k+1,n',by rw[ul,show len-1-k=j by omega]⟩,ae⟩⟩
    · gi_wp2
      go_end0
      exact⟨⟨_,rfl⟩,.inl ⟨_,rfl,R⟩⟩
def yb(F:hP)(n:Nat)(R:F.fn 228)(j:F.round=ct)(l I:Nat)(a:Option Addr)(cap:Nat)(J:List Nat->e6->Prop)(W:e6)(U:W.cell? ⟨I,0,ct⟩=dc (.slice a 0 cap))(h0:J [] W):
    fp F n b3 228 #[.func (.yield l) #[] #[],.pointer (dc ⟨I,0,ct⟩)] W fun e W'=>(∃v,e = .returned v)/\J [] W':=by
  refine gn hH rfl R ?_ j;simp only[hZ,eg,eL,fa,fu,fs,d',dU,ev,e0,ea,e7]
  gi_wp2
  gi_loopw [3] (fun i wr=>i = .int .i64 (-1)/\J [] wr) (fun _ _=>0)
  case atStart=>exact⟨rfl,h0⟩
  case round=>
    obtain⟨rfl,C⟩:=hrel
    gi_wp2
    go_end0
    exact⟨⟨_,rfl⟩,C⟩
def AGT(F:hP)(n:Nat)(C:F.fn 169)(j:F.round=ct)(a:Option Addr)(len cap:Nat)(w:e6):
    fp F n b3 169 #[.slice a len cap] w fun e w'=>e = .returned (.func (.func 228) #[] #[.pointer (dc ⟨w.heap.size,0,ct⟩)])/\w'=w.alloc (.cells #[.slice a len cap] 30):=by
  refine gn Tryz.func169 rfl C ?_ j;simp only[Tryz.ntmps169,eg,eL,fa,fu,fs,d',dU,ev,e0,ea,e7]
  gi_wp2
  go_ret
  exact⟨rfl,rfl⟩
def mD(C:Nat)(W:e6)(j:Value)(L:List AA):Prop := ∃a cap,j = .slice a L.length cap/\(0<L.length->∃b off,a=dc ⟨b,off,ct⟩/\b<C/\py W b off L)
def ADP(F:hP)(n:Nat)(hf:F.fn 228)(I:F.round=ct)(hn:1<=n)(C:Nat)(sv:Value)(L:List AA)(U:L.length<=100)(w:e6)(R:C<w.heap.size)
    (hc:w.cell? ⟨C,0,ct⟩=dc sv) (hI:mD w.heap.size w sv L) :
    SeqStopsK F n b3 228 #[.pointer (dc ⟨C,0,ct⟩)] (fun x:Nat=>#[cl .i64 (x:Int),Nm (L.getD x cw)]) (ds w.heap.size) (fun ys=>ys=dn L.length L.length)
      (fun pre=>∃k,k<=L.length/\pre=dn L.length k) L.length w:=fun l J Jx W hW _ _ hY h0=>by
  have j:=(hW.cell (p:=⟨C,0,ct⟩) R).trans hc;obtain⟨a,cap,rfl,hp⟩:=hI;rcases h8 L.length with h|h
  · rw[h]at j;refine(yb F n hf I l C a cap J W j h0).mono fun e W' ⟨he,hj⟩=>⟨he,.inl ⟨[],by rw[h];rfl,hj⟩⟩
  · obtain⟨b,off,rfl,hb,he⟩:=hp h;exact APb F n hf I hn l C w.heap.size b off L.length cap L rfl U hb R J Jx hY W j (he.below hW hb) h0
variable{w:e6}
def Tj{w':e6}(h:AD C' w w'):ds w.heap.size w w':=⟨h.os,h.tape,h.output,h.size,fun b hb=>h.block b hb fun c=>c⟩
def AGx{j:e6}{x y z:Obj}(h:ds (((w.alloc x).alloc y).alloc z).heap.size (((w.alloc x).alloc y).alloc z) j):AD C' w j :=
  (((AD.alloc _ _ _).trans (AD.alloc _ _ _)).trans (AD.alloc _ _ _)).trans ⟨h.os,h.tape,h.output,h.size,fun b hb _=>h.block b hb⟩
def mD.below{j:Nat}{A B:e6}(h:ds j A B){C:Value}{L:List AA}:mD j A C L->mD j B C L
  |⟨a,cap,e,J⟩=>⟨a,cap,e,fun q=>by obtain⟨b,off,U,I,R⟩:=J q;exact⟨b,off,U,I,R.below h I⟩⟩
def mD.le{I C:Nat}{A:e6}(h:I<=C){j:Value}{L:List AA}:mD I A j L->mD C A j L
  |⟨a,cap,e,J⟩=>⟨a,cap,e,fun q=>by obtain⟨b,off,U,e2,R⟩:=J q;exact⟨b,off,U,n',R⟩⟩
def RX(L:List AA)(s:L8):AA×Int :=match L.reverse.find? (fun e=>e.Star==s)with
  |some e=>(e,0)
  |none=>(AA.mk 0 [] [] 0 cm,3)
def Je(e:AA):Array Value:=#[.int .i64 e.Time,.string ⟨e.Star.toArray⟩,.string ⟨e.Observer.toArray⟩,.int .i64 e.Mag,.bool e.Fainter]
def zj(L:List AA):L.reverse=(dn L.length L.length).map fun j=>L.getD j cw:=by
  apply List.ext_getElem
  · simp[dn]
  · intro i C h2;have hi:i<L.length:=by simpa using C
    simp only[dn,List.getElem_reverse,List.getElem_map,List.getElem_range];rw[gdE,geE n'];rfl
variable{L:List AA}{s:L8}
def rD(h:∀x∈dn L.length L.length,((L.getD x cw).Star==s)=cm):RX L s=(AA.mk 0 [] [] 0 cm,3):=by
  have:L.reverse.find? (fun e=>e.Star==s)=ct:=by
    rw[hJ];intro e he;rw[zj]at he;obtain⟨j,C,rfl⟩:=ih.1 he;rw[h j C];simp
  unfold RX;rw[this]
def rC{k last:Nat}{C:List Nat}(hk:k<=L.length)(I:dn L.length k=C++[last])(h:∀x∈C,((L.getD x cw).Star==s)=cm)(U:((L.getD last cw).Star==s)=dT):
    RX L s=(L.getD last cw,0):=by
  have J:dn L.length L.length=dn L.length k++(dn L.length L.length).drop k:=by
    have:(dn L.length L.length).take k=dn L.length k:=by
      unfold dn;rw[←List.map_take,List.take_range,Nat.min_eq_left hk]
    rw[←this,List.take_append_drop]
  have:L.reverse.find? (fun e=>e.Star==s)=dc (L.getD last cw):=by
    rw[zj,J,I,hN,hN,List.append_assoc,List.find?_append]
    have R:(C.map fun j=>L.getD j cw).find? (fun e=>e.Star==s)=ct:=by
      rw[hJ];intro e I;obtain⟨j,hj,rfl⟩:=ih.1 I;rw[h j hj];simp
    rw[R];simp only[hV,List.map_nil,e7,ea,Option.none_or];rw[List.find?_cons,U]
  unfold RX;rw[this]
def OE(W:e6)(b:Nat)(t:hM)(e:AA):Prop:=W.heap[b]? = dc (.cells (Je e) t (0,0))
def OE.lt{W:e6}{t:hM}{e:AA}(h:OE W b t e):b<W.heap.size:=(Array.getElem?_eq_some_iff.1 h).1
def OE.own(b:Nat)(t:hM)(f:Unit->AA):Own (fun(_:List Nat) W=>OE W b t (f ())):=fun s X Y row hs C j=>(e9 C j hs rfl).trans hs
def OE.cells{W:e6}{b:Nat}{t:hM}{X:AA}(j:OE W b t X):W.cell? ⟨b,0,ct⟩=dc (.int .i64 X.Time)/\W.cell? ⟨b,1,ct⟩=dc (.string ⟨X.Star.toArray⟩)/\W.cell? ⟨b,2,ct⟩=dc (.string ⟨X.Observer.toArray⟩)/\W.cell? ⟨b,3,ct⟩=dc (.int .i64 X.Mag)/\W.cell? ⟨b,4,ct⟩=dc (.bool X.Fainter):=by
  refine⟨?_,?_,?_,?_,?_⟩<;>simp[cA,show W.heap[b]? = _ from j,Je]
def AKT{W:e6}{b n:Nat}{t:hM}{e X:AA}(J:OE W b t e)(I:n<=b):OE (W.setCells b 0 (Je X).toList) b t X/\ds n W (W.setCells b 0 (Je X).toList)/\KeepsOthers W (W.setCells b 0 (Je X).toList) /\
    ∀c T v,c≠b->ht W c T v->ht (W.setCells b 0 (Je X).toList) c T v:=by
  refine⟨?_,?_,?_,?_⟩
  · simp only[Je,gr,World.setCell,OE];unfold OE at J;simp[Array.getElem?_modify,J,Je]
  · simp only[Je,gr];exact(((((fm _ W).setCell (p:=⟨b,0,ct⟩) I _).setCell (p:=⟨b,1,ct⟩) I _).setCell (p:=⟨b,2,ct⟩) I _).setCell (p:=⟨b,3,ct⟩) I _).setCell (p:=⟨b,4,ct⟩) I _
  · simp only[Je,gr];exact((((dx W _ _).trans (dx _ _ _)).trans (dx _ _ _)).trans (dx _ _ _)).trans (dx _ _ _)
  · intro c T v R h;have C:∀(j:Nat) (u:Value) (Z:e6),ht Z c T v->ht (Z.setCell ⟨b,j,ct⟩ u) c T v:=fun j u Z h=>(fy _ _ _ _ R).trans h
    simp only[Je,gr];exact C _ _ _ (C _ _ _ (C _ _ _ (C _ _ _ (C _ _ _ h))))
def AEt(F:hP)(n:Nat)(f0:F.fn 106)(f1:F.fn 169)(f2:F.fn 228)(f3:F.fn 70)(f4:F.fn 168)(bs:F.round=ct)(hn:5<=n)(a:Option Addr)(len cap:Nat)(L:List AA)(bz:len=L.length)(b2:L.length<=100)(s:L8)(C:ByteArray)(a1:C=⟨s.toArray⟩)(w:e6)(hI:mD w.heap.size w (.slice a len cap) L)
    (c7:∀x y z,fp F (n-1) b3 70 #[.slice a len cap] (((w.alloc x).alloc y).alloc z) fun e b4=>e = .returned (.bool dT)/\ds (((w.alloc x).alloc y).alloc z).heap.size (((w.alloc x).alloc y).alloc z) b4)
    (c8:∀w',AD C' w w'->fp F (n-1) b3 168 #[.string C] w' fun e b4=>e = .returned (.bool dT)/\ds w'.heap.size w' b4) :
    fp F n b3 106 #[.slice a len cap,.string C] w fun e W'=>e = .returned (.tuple #[Nm (RX L s).1,.int .i64 (RX L s).2])/\ds w.heap.size w W':=by
  have h1:1<=n:=n'
  refine callsIn_of_wp_marks hz rfl f0 ?_ bs;simp only[hB,eg,eL,fa,fu,fs,d',dU,ev,e0,ea,e7];have b1:=cn c8;have b0:=cn c7;have eu:=cn hI;have ek:=cn bz;have ae:=cn a1;have cf:=cn b2;clear c8 c7 hI bz a1 b2
  gi_wp2_with (first
    |(gi_at_call 70;refine(b0.out _ _ _).mono ?_;rintro e w1 ⟨rfl,J⟩;have ef:=AGx J;have eo:=(J.cell (p:=⟨w.heap.size,0,ct⟩) t').trans (((g' w 9 (.string C)).alloc _).alloc _).cell)
    |(gi_at_call 168;refine(b1.out _ ef).mono ?_;rintro e w2 ⟨rfl,ab⟩)
    |(gi_at_call 169;refine(AGT F (n-1) f1 bs _ _ _ _).mono ?_;rintro e w3 ⟨rfl,rfl⟩))
  have hI:=eu.out
  have R:ds w.heap.size w (w2.alloc (b' #[e8 a len cap] 30)):=by
    have h3:ds w.heap.size w (((w.alloc (b' #[b5 C] 9)).alloc (b' #[cl b6 0,b5 { data:=#[] },b5 { data:=#[] },cl b6 0,c' cm] 89)).alloc (b' #[cl b6 0] 2)) :=
      (((fm _ w).alloc (fi _) _).alloc p' _).alloc t' _
    exact((h3.trans (J.mono h3.size)).trans (ab.mono (h3.trans (J.mono h3.size)).size)).alloc ((h3.trans (J.mono h3.size)).trans (ab.mono (h3.trans (J.mono h3.size)).size)).size _
  have s1:w.heap.size+3<=w1.heap.size:=by have:=J.size;simpa using this
  have s2:=ab.size
  have bS:ht (w2.alloc (b' #[e8 a len cap] 30)) w.heap.size 9 (.string C):=by
    have h:=((g' w 9 (.string C)).alloc (b' #[cl b6 0,b5 { data:=#[] },b5 { data:=#[] },cl b6 0,c' cm] 89)).alloc (b' #[cl b6 0] 2);exact ix (((ab.block _ n').trans (J.block _ t')).trans h) _
  have bR:OE (w2.alloc (b' #[e8 a len cap] 30)) (w.heap.size+1) 89 (AA.mk 0 [] [] 0 cm):=by
    have h:(((w.alloc (b' #[b5 C] 9)).alloc (b' #[cl b6 0,b5 { data:=#[] },b5 { data:=#[] },cl b6 0,c' cm] 89)).alloc (b' #[cl b6 0] 2)).heap[w.heap.size+1]? = dc (.cells (Je (AA.mk 0 [] [] 0 cm)) 89 (0,0)):=by
      refine(ga _ _ _ p').trans ?_;have:=gu (w.alloc (b' #[b5 C] 9)) (b' #[cl b6 0,b5 { data:=#[] },b5 { data:=#[] },cl b6 0,c' cm] 89);rw[ew]at this;exact this
    exact(ga _ _ _ n').trans (((ab.block _ n').trans (J.block _ p')).trans h)
  have bI:ht (w2.alloc (b' #[e8 a len cap] 30)) (w.heap.size+1+1) 2 (.int .i64 0):=by
    have h:=g' ((w.alloc (b' #[b5 C] 9)).alloc (b' #[cl b6 0,b5 { data:=#[] },b5 { data:=#[] },cl b6 0,c' cm] 89)) 2 (.int .i64 0);simp only[ew]at h;exact ix (((ab.block _ n').trans (J.block _ p')).trans h) _
  have bN:ht (w2.alloc (b' #[e8 a len cap] 30)) w2.heap.size 30 (.slice a len cap):=g' _ _ _;have au:=hI.below R;have s3:(w2.alloc (b' #[e8 a len cap] 30)).heap.size=w2.heap.size+1:=ew _ _;obtain⟨W0,c6⟩:∃W0,w2.alloc (b' #[e8 a len cap] 30)=W0:=⟨_,rfl⟩;obtain⟨nb,ej⟩:∃nb,w2.heap.size=nb:=⟨_,rfl⟩;rw[c6]at R bS bR bI bN au s3 ⊢;rw[ej]at bN s2 s3 ⊢;clear c6;have db:=au.le R.size;clear au J ab eo b1 b0 hI
  refine wpIn_rangeFunc_ownH bs h1 (gf:=228) (lb:=#[.pointer (dc ⟨nb,0,ct⟩)]) rfl f2 (enters_of hH o' rfl)
    (ADP F (n-1) f2 bs n' nb _ L cf.out W0 n' bN.cell db) belowK_t (belowK_b (fi _)) (fm _ _) (fun _=>rfl)
    (fun pre W=>((ht W w.heap.size 9 (.string C)/\OE W (w.heap.size+1) 89 (AA.mk 0 [] [] 0 cm))/\ht W (w.heap.size+1+1) 2 (.int .i64 0))/\(ds w.heap.size w W/\(W0.heap.size<=W.heap.size/\∀x∈pre,((L.getD x cw).Star==s)=cm)))
    (fun c pre W=>(∃ay last,pre=ay++[last]/\(∀x∈ay,((L.getD x cw).Star==s)=cm)/\((L.getD last cw).Star==s)=dT/\OE W (w.heap.size+1) 89 (L.getD last cw)/\ht W (w.heap.size+1+1) 2 (.int .i64 0))/\(ds w.heap.size w W/\c = .ret))
    (fA (fA (fA (Own.from (boxed_own _ _ (fun _=>b5 C)) _) (Own.from (OE.own _ _ (fun _=>AA.mk 0 [] [] 0 cm)) _)) (Own.from (boxed_own _ _ (fun _=>cl .i64 0)) _)) (fA (ownFrom_below (fi _) R.size) (fun s A B row hs hg _=>⟨iR hs.1 hg.size,hs.2⟩)))
    (fun c=>fA (Own.from (fun s A B row hs hg hr=>by obtain⟨ay,last,e1,e2,e3,e4,e5⟩:=hs;exact⟨ay,last,e1,e2,e3,(e9 hg hr e4 rfl).trans e4,(e9 hg hr e5 rfl).trans e5⟩) _) (fA (ownFrom_below (fi _) R.size) (fun s A B row hs _ _=>hs)))
    ⟨⟨⟨bS,bR⟩,bI⟩,R,fi _,p'⟩
    (fun x a' W=>∃U,W0.heap.size<=U/\OE W U 89 (L.getD x cw)/\a'={ tmps:=#[e8 a len cap,b5 C,h9,f' (dc { block:=w.heap.size,off:=0 }),f' (dc { block:=w.heap.size+1,off:=0 }),f' (dc { block:=w.heap.size+1+1,off:=0 }),h9,f' (dc { block:=U,off:=0 }),c' cm,e8 a len cap,c' dT,c' cm,h9,c' cm,b5 C,c' dT,c' cm,h9,e8 a len cap,Value.func (Fn.func 228) #[] #[f' (dc { block:=nb,off:=0 })],.int .i64 (x:Nat),Nm (L.getD x cw),h9,h9,h9,h9,h9,h9],defers:=[] })
    (fun x a' _ X Y row hs hg hr=>by obtain⟨U,h1,h2,h3⟩:=hs;exact⟨U,h1,(e9 hg (fun r e=>(hr r e).2) h2 rfl).trans h2,h3⟩)
    ?assign ?body ?done ?stop
  case assign=>
    rintro l pre x W K ⟨⟨⟨iS,I⟩,iI⟩,iB,iZ,iN⟩ hK;obtain⟨X,hX⟩:∃X,X=L.getD x default:=⟨_,rfl⟩;rw[←hX]at hK ⊢;unfold Nm at hK ⊢;clear hX;have cd:=cn hK;clear hK
    gi_wp2
    exact cd.out _ _ ((KeepsOthers.alloc _ _).from _) ((fm _ W).alloc iZ _) ⟨⟨⟨iS.alloc _,(ga _ _ _ I.lt).trans I⟩,iI.alloc _⟩,iB.alloc iB.size _,by rw[ew];omega,iN⟩ ⟨W.heap.size,iZ,gu W _,rfl⟩
  case body=>
    rintro l pre x a' W hl ⟨r,hr⟩ ⟨⟨⟨iS,I⟩,iI⟩,iB,iZ,iN⟩ ⟨U,gk,bX,rfl⟩ fx;obtain⟨X,hX⟩:∃X,X=L.getD x default:=⟨_,rfl⟩;rw[←hX]at bX ⊢;have cc:=cn hX;clear hX;have q0:W.cell? ⟨U,0,ct⟩=dc (.int .i64 X.Time):=by simp[cA,show W.heap[U]? = _ from bX,Je]
    have q1:W.cell? ⟨U,1,ct⟩=dc (.string ⟨X.Star.toArray⟩):=by simp[cA,show W.heap[U]? = _ from bX,Je]
    have q2:W.cell? ⟨U,2,ct⟩=dc (.string ⟨X.Observer.toArray⟩):=by simp[cA,show W.heap[U]? = _ from bX,Je]
    have q3:W.cell? ⟨U,3,ct⟩=dc (.int .i64 X.Mag):=by simp[cA,show W.heap[U]? = _ from bX,Je]
    have q4:W.cell? ⟨U,4,ct⟩=dc (.bool X.Fainter):=by simp[cA,show W.heap[U]? = _ from bX,Je]
    have r0:W.cell? ⟨w.heap.size+1,0,ct⟩=dc (.int .i64 0):=by simp[cA,show W.heap[w.heap.size+1]? = _ from I,Je]
    have r1:W.cell? ⟨w.heap.size+1,1,ct⟩=dc (.string ⟨#[]⟩):=by simp[cA,show W.heap[w.heap.size+1]? = _ from I,Je]
    have r2:W.cell? ⟨w.heap.size+1,2,ct⟩=dc (.string ⟨#[]⟩):=by simp[cA,show W.heap[w.heap.size+1]? = _ from I,Je]
    have r3:W.cell? ⟨w.heap.size+1,3,ct⟩=dc (.int .i64 0):=by simp[cA,show W.heap[w.heap.size+1]? = _ from I,Je]
    have r4:W.cell? ⟨w.heap.size+1,4,ct⟩=dc (.bool cm):=by simp[cA,show W.heap[w.heap.size+1]? = _ from I,Je]
    have rf:∀j,W.frozen? ⟨w.heap.size+1,j,ct⟩=false:=fun j=>by simp[hA,show W.heap[w.heap.size+1]? = _ from I]
    have g0:=rf 0;have g1:=rf 1;have g2:=rf 2;have g3:=rf 3;have g4:=rf 4;have cS:=iS.cell;have cI:=iI.cell;have fI:=iI.frozen;have ed:=cn iS;have be:=cn I;have bo:=cn iI;have bh:=cn iN;have hf:=cn bX;clear iS I iI iN bX rf;unfold Nm
    by_cases hq:(X.Star==s)=dT
    · have hc:(X.Star==C.toList)=dT:=by rw[ae.out,ByteArray.toList_eq];exact hq
      have ca:=cn hq;clear hq
      gi_wp2
      obtain⟨hh,ba,a7,ho⟩:=AKT (n:=w.heap.size) (X:=X) be.out n';have a8:=ho (w.heap.size+1+1) 2 (.int .i64 0) n' bo.out;show ownPostG _ _ _ _ _ _ _ _ ((W.setCells (w.heap.size+1) 0 (Je X).toList).setCell ⟨w.heap.size+1+1,0,ct⟩ (.int .i64 0));generalize W.setCells (w.heap.size+1) 0 (Je X).toList=W2 at hh ba a7 a8;refine⟨(a7.trans (dx _ _ _)).from _,⟨pre,x,rfl,bh.out,by rw[←cc.out];exact ca.out,?_,a8.set _⟩,iB.trans ((ba.setCell (p:=⟨w.heap.size+1+1,0,ct⟩) t' _)),rfl⟩;rw[←cc.out];exact(fy _ _ _ _ p').trans hh
    · have b9:(X.Star==s)=cm:=by simpa using hq
      have hc:(X.Star==C.toList)=cm:=by rw[ae.out,ByteArray.toList_eq];exact b9
      have ca:=cn b9;clear hq b9
      gi_wp2
      refine⟨KeepsFrom.refl _ _,fm _ _,⟨⟨ed.out,be.out⟩,bo.out⟩,iB,iZ,fun y hy=>?_⟩;rcases List.mem_append.1 hy with h|h
      · exact bh.out y h
      · simp at h;subst h;rw[←cc.out];exact ca.out
  case done=>
    rintro D ys W hD rfl ⟨⟨⟨iS,I⟩,iI⟩,iB,iZ,iN⟩ hK;have r0:W.cell? ⟨w.heap.size+1,0,ct⟩=dc (.int .i64 0):=by simp[cA,show W.heap[w.heap.size+1]? = _ from I,Je]
    have r1:W.cell? ⟨w.heap.size+1,1,ct⟩=dc (.string ⟨#[]⟩):=by simp[cA,show W.heap[w.heap.size+1]? = _ from I,Je]
    have r2:W.cell? ⟨w.heap.size+1,2,ct⟩=dc (.string ⟨#[]⟩):=by simp[cA,show W.heap[w.heap.size+1]? = _ from I,Je]
    have r3:W.cell? ⟨w.heap.size+1,3,ct⟩=dc (.int .i64 0):=by simp[cA,show W.heap[w.heap.size+1]? = _ from I,Je]
    have r4:W.cell? ⟨w.heap.size+1,4,ct⟩=dc (.bool cm):=by simp[cA,show W.heap[w.heap.size+1]? = _ from I,Je]
    have rf:∀j,W.frozen? ⟨w.heap.size+1,j,ct⟩=false:=fun j=>by simp[hA,show W.heap[w.heap.size+1]? = _ from I]
    have g0:=rf 0;have g1:=rf 1;have g2:=rf 2;have g3:=rf 3;have g4:=rf 4;have cI:=iI.cell;have fI:=iI.frozen;have cd:=cn hK;have be:=cn I;have bh:=cn iN;have b7:=cn iB;have bo:=cn iI;clear iS I iI iN iB rf hK
    gi_wp2
    obtain⟨hh,ba,a7,ho⟩:=AKT (n:=w.heap.size) (X:=AA.mk 0 [] [] 0 cm) be.out n';have a8:=ho (w.heap.size+1+1) 2 (.int .i64 0) n' bo.out;show bodyPostM _ _ _ _ _ _ _ ((W.setCells (w.heap.size+1) 0 (Je (AA.mk 0 [] [] 0 cm)).toList).setCell ⟨w.heap.size+1+1,0,ct⟩ (.int .i64 3));generalize W.setCells (w.heap.size+1) 0 (Je (AA.mk 0 [] [] 0 cm)).toList=W2 at hh ba a7 a8;have cb:OE (W2.setCell ⟨w.heap.size+1+1,0,ct⟩ (.int .i64 3)) (w.heap.size+1) 89 (AA.mk 0 [] [] 0 cm):=(fy _ _ _ _ p').trans hh;have au:=a8.set (.int .i64 3);have a6:=((a7.trans (dx W2 ⟨w.heap.size+1+1,0,ct⟩ (.int .i64 3)))).same D _ cd.out rfl;have df:=b7.out.trans (ba.setCell (p:=⟨w.heap.size+1+1,0,ct⟩) t' (.int .i64 3));generalize W2.setCell ⟨w.heap.size+1+1,0,ct⟩ (.int .i64 3)=W3 at cb au a6 df;refine⟨p',.inl ⟨_,_,rfl,i' a6,?_⟩⟩;have aa:OE (W3.putObj D (.deferred ct)) (w.heap.size+1) 89 (AA.mk 0 [] [] 0 cm):=(e9 (h5 _ D (.deferred ct)) (fun r e=>by cases e;exact⟨_,a6,rfl⟩) cb rfl).trans cb;have ao:=cell_kept au.cell (h5 _ D (.deferred ct)) (fun r e=>by cases e;exact⟨_,a6,rfl⟩);obtain⟨c0,c1,c2,c3,c4⟩:=aa.cells;refine⟨.tuple #[Nm (RX L s).1,.int .i64 (RX L s).2],?_,rfl,df.trans (belowK_b (w:=w) (fi _) _ D _ _ (by have:=R.size;omega) a6 rfl rfl)⟩;rw[rD bh.out];simp[ir,hG,go_sem,c0,c1,c2,c3,c4,ao,Nm]
  case stop=>
    rintro D c pre W hD ⟨k,hk,rfl⟩ ⟨⟨ay,last,e1,e2,e3,I,iI⟩,iB,rfl⟩ hK;have hr:=cn (rC hk e1 e2 e3);have aa:OE (W.putObj D (.deferred ct)) (w.heap.size+1) 89 (L.getD last cw):=(e9 (h5 _ D (.deferred ct)) (fun r e=>by cases e;exact⟨_,hK,rfl⟩) I rfl).trans I;have ao:=cell_kept iI.cell (h5 _ D (.deferred ct)) (fun r e=>by cases e;exact⟨_,hK,rfl⟩);have en:=cn aa;have et:=cn ao;have b7:=cn iB;have gv:=cn e1;clear aa ao iB I iI e1 e2 e3
    gi_wp2
    refine⟨p',.inl ⟨_,_,rfl,i' hK,?_⟩⟩;refine⟨.tuple #[Nm (RX L s).1,.int .i64 (RX L s).2],?_,rfl,b7.out.trans (belowK_b (w:=w) (fi _) W D _ _ (by have:=R.size;omega) hK rfl rfl)⟩;have aa:=en.out;have ao:=et.out;rw[hr.out];generalize L.getD last cw=X at aa ⊢;obtain⟨c0,c1,c2,c3,c4⟩:=aa.cells;simp[ir,hG,go_sem,c0,c1,c2,c3,c4,ao,Nm]
def zQ{I:e6}{j:ByteArray}(C:ds (((w.alloc (b' #[b5 j] 9)).alloc (b' #[cl b6 0,b5 { data:=#[] },b5 { data:=#[] },cl b6 0,c' cm] 89)).alloc (b' #[cl b6 0] 2)).heap.size (((w.alloc (b' #[b5 j] 9)).alloc (b' #[cl b6 0,b5 { data:=#[] },b5 { data:=#[] },cl b6 0,c' cm] 89)).alloc (b' #[cl b6 0] 2)) I):
    I.cell? ⟨w.heap.size,0,ct⟩=dc (.string j)/\OE I (w.heap.size+1) 89 (AA.mk 0 [] [] 0 cm)/\ht I (w.heap.size+1+1) 2 (.int .i64 0)/\ds w.heap.size w I:=by
  have J:ds w.heap.size w (((w.alloc (b' #[b5 j] 9)).alloc (b' #[cl b6 0,b5 { data:=#[] },b5 { data:=#[] },cl b6 0,c' cm] 89)).alloc (b' #[cl b6 0] 2)):=(((fm _ w).alloc (fi _) _).alloc p' _).alloc t' _;refine⟨?_,?_,?_,J.trans (C.mono J.size)⟩
  · exact(C.cell (p:=⟨w.heap.size,0,ct⟩) t').trans (((g' w 9 (.string j)).alloc _).alloc _).cell
  · have h:(((w.alloc (b' #[b5 j] 9)).alloc (b' #[cl b6 0,b5 { data:=#[] },b5 { data:=#[] },cl b6 0,c' cm] 89)).alloc (b' #[cl b6 0] 2)).heap[w.heap.size+1]? = dc (.cells (Je (AA.mk 0 [] [] 0 cm)) 89 (0,0)):=by
      refine(ga _ _ _ p').trans ?_;have:=gu (w.alloc (b' #[b5 j] 9)) (b' #[cl b6 0,b5 { data:=#[] },b5 { data:=#[] },cl b6 0,c' cm] 89);rw[ew]at this;exact this
    exact(C.block _ p').trans h
  · have h:=g' ((w.alloc (b' #[b5 j] 9)).alloc (b' #[cl b6 0,b5 { data:=#[] },b5 { data:=#[] },cl b6 0,c' cm] 89)) 2 (.int .i64 0);simp only[ew]at h;exact(C.block _ p').trans h
def OE.fr{W:e6}{b:Nat}{t:hM}{X:AA}(h:OE W b t X)(j:Nat):W.frozen? ⟨b,j,ct⟩=cm:=by
  simp[hA,show W.heap[b]? = _ from h]
def APU{w W:e6}{c:Int}(R:OE W (w.heap.size+1) 89 (AA.mk 0 [] [] 0 cm))(U:ht W (w.heap.size+1+1) 2 (.int .i64 0))(iB:ds w.heap.size w W):
    OE ((W.setCells (w.heap.size+1) 0 (Je (AA.mk 0 [] [] 0 cm)).toList).setCell ⟨w.heap.size+1+1,0,ct⟩ (.int .i64 c)) (w.heap.size+1) 89 (AA.mk 0 [] [] 0 cm) /\
    ((W.setCells (w.heap.size+1) 0 (Je (AA.mk 0 [] [] 0 cm)).toList).setCell ⟨w.heap.size+1+1,0,ct⟩ (.int .i64 c)).cell? ⟨w.heap.size+1+1,0,ct⟩=dc (.int .i64 c) /\
    ds w.heap.size w ((W.setCells (w.heap.size+1) 0 (Je (AA.mk 0 [] [] 0 cm)).toList).setCell ⟨w.heap.size+1+1,0,ct⟩ (.int .i64 c)):=by
  obtain⟨J,C,I,ho⟩:=AKT (n:=w.heap.size) (X:=(AA.mk 0 [] [] 0 cm)) R n';have j:=ho (w.heap.size+1+1) 2 (.int .i64 0) n' U;generalize W.setCells (w.heap.size+1) 0 (Je (AA.mk 0 [] [] 0 cm)).toList=W2 at J C I j;exact⟨(fy _ _ _ _ p').trans J,(j.set _).cell,iB.trans (C.setCell (p:=⟨w.heap.size+1+1,0,ct⟩) t' _)⟩
def ALG(F:hP)(n:Nat)(f0:F.fn 106)(f3:F.fn 70)(aj:F.round=ct)(hn:5<=n)(a:Option Addr)(len cap:Nat)(C:ByteArray)(w:e6)
    (R:∀x y z,fp F (n-1) b3 70 #[.slice a len cap] (((w.alloc x).alloc y).alloc z) fun e aa=>e = .returned (.bool cm)/\ds (((w.alloc x).alloc y).alloc z).heap.size (((w.alloc x).alloc y).alloc z) aa) :
    fp F n b3 106 #[.slice a len cap,.string C] w fun e W'=>e = .returned (.tuple #[Nm (AA.mk 0 [] [] 0 cm),.int .i64 1])/\ds w.heap.size w W':=by
  have h1:1<=n:=n'
  refine gn hz rfl f0 ?_ aj;simp only[hB,eg,eL,fa,fu,fs,d',dU,ev,e0,ea,e7];have J:=cn R;clear R
  gi_wp2_with (gi_at_call 70;refine(J.out _ _ _).mono ?_;rintro e w2 ⟨rfl,I⟩;obtain⟨ao,j,U,iB⟩:=zQ I;clear I ao;obtain⟨q0,q1,q2,q3,q4⟩:=j.cells;have g0:=j.fr 0;have g1:=j.fr 1;have g2:=j.fr 2;have g3:=j.fr 3;have g4:=j.fr 4;have cI:=U.cell;have fI:=U.frozen;have ab:=cn j;have ad:=cn U;have ae:=cn iB;clear j U iB)
  obtain⟨k1,k2,k3⟩:=APU (c:=1) ab.out ad.out ae.out;show bodyPost _ _ _ _ _ ((w2.setCells (w.heap.size+1) 0 (Je (AA.mk 0 [] [] 0 cm)).toList).setCell ⟨w.heap.size+1+1,0,ct⟩ (.int .i64 1));generalize(w2.setCells (w.heap.size+1) 0 (Je (AA.mk 0 [] [] 0 cm)).toList).setCell ⟨w.heap.size+1+1,0,ct⟩ (.int .i64 1)=W3 at k1 k2 k3;obtain⟨c0,c1,c2,c3,c4⟩:=k1.cells;refine hL (v:=.tuple #[Nm (AA.mk 0 [] [] 0 cm),.int .i64 1]) ?_ rfl ⟨rfl,k3⟩;simp[ir,hG,go_sem,c0,c1,c2,c3,c4,k2,Nm]
def AEu(F:hP)(n:Nat)(f0:F.fn 106)(f3:F.fn 70)(f4:F.fn 168)(a6:F.round=ct)(hn:5<=n)(a:Option Addr)(len cap:Nat)(I:ByteArray)(w:e6)
    (ae:∀x y z,fp F (n-1) b3 70 #[.slice a len cap] (((w.alloc x).alloc y).alloc z) fun e R=>e = .returned (.bool dT)/\ds (((w.alloc x).alloc y).alloc z).heap.size (((w.alloc x).alloc y).alloc z) R)
    (ao:∀w',AD C' w w'->fp F (n-1) b3 168 #[.string I] w' fun e R=>e = .returned (.bool cm)/\ds w'.heap.size w' R) :
    fp F n b3 106 #[.slice a len cap,.string I] w fun e W'=>e = .returned (.tuple #[Nm (AA.mk 0 [] [] 0 cm),.int .i64 2])/\ds w.heap.size w W':=by
  have h1:1<=n:=n'
  refine gn hz rfl f0 ?_ a6;simp only[hB,eg,eL,fa,fu,fs,d',dU,ev,e0,ea,e7];have ad:=cn ae;clear ae;have aj:=cn ao;clear ao
  gi_wp2_with (first
    |(gi_at_call 70;refine(ad.out _ _ _).mono ?_;rintro e w1 ⟨rfl,C⟩;have a1:=AGx C;obtain⟨bo,U,aa,ab⟩:=zQ C;have kR:=cn U;have kI:=cn aa;have kB:=cn ab;have s1:w.heap.size+3<=w1.heap.size:=(by have:=C.size;simpa using this);clear U aa ab C)
    |(gi_at_call 168;refine(aj.out _ a1).mono ?_;rintro e w2 ⟨rfl,j⟩;obtain⟨J,iI,iB⟩:OE w2 (w.heap.size+1) 89 (AA.mk 0 [] [] 0 cm)/\ht w2 (w.heap.size+1+1) 2 (.int .i64 0)/\ds w.heap.size w w2:=⟨(j.block _ n').trans kR.out,(j.block _ n').trans kI.out,kB.out.trans (j.mono kB.out.size)⟩;clear j;obtain⟨q0,q1,q2,q3,q4⟩:=J.cells;have g0:=J.fr 0;have g1:=J.fr 1;have g2:=J.fr 2;have g3:=J.fr 3;have g4:=J.fr 4;have cI:=iI.cell;have fI:=iI.frozen;have ax:=cn J;have ay:=cn iI;have az:=cn iB;clear J iI iB))
  obtain⟨k1,k2,k3⟩:=APU (c:=2) ax.out ay.out az.out;show bodyPost _ _ _ _ _ ((w2.setCells (w.heap.size+1) 0 (Je (AA.mk 0 [] [] 0 cm)).toList).setCell ⟨w.heap.size+1+1,0,ct⟩ (.int .i64 2));generalize(w2.setCells (w.heap.size+1) 0 (Je (AA.mk 0 [] [] 0 cm)).toList).setCell ⟨w.heap.size+1+1,0,ct⟩ (.int .i64 2)=W3 at k1 k2 k3;obtain⟨c0,c1,c2,c3,c4⟩:=k1.cells;refine hL (v:=.tuple #[Nm (AA.mk 0 [] [] 0 cm),.int .i64 2]) ?_ rfl ⟨rfl,k3⟩;simp[ir,hG,go_sem,c0,c1,c2,c3,c4,k2,Nm]
end Go.Proofs.YtegmpdmpgmpiaaaGreatDoor.last
namespace Go.Proofs.YtegmpdmpgmpiaaaGreatDoor
open Go Go.RowKit Go.Shelf Go.Proofs.YtegmpdmpgmpiaaaGreatDoor.last
def AFo:∀{a b:AA},AC a=AC b->a=b
  | ⟨_,_,_,_,_⟩,⟨_,_,_,_,_⟩,h=>by
    simp only[AC,AV.agg.injEq,List.cons.injEq,AV.int.injEq,AV.str.injEq,AV.bool.injEq,true_and,and_true]at h;obtain⟨rfl,rfl,rfl,rfl,rfl⟩:=h;rfl
def pI:∀{a b:List AA},cB AC a=cB AC b->a=b
  |[],[],_=>rfl
  |[],_::_,h=>by simp at h
  |_::_,[],h=>by simp at h
  | a::l,b::m,h=>by
    simp only[hV,List.cons.injEq]at h;rw[AFo h.1,pI h.2]
open Classical in
def oF (args:List AV):Rs :=if h:∃q:List AA×L8×(AA×Int),Gt q.1 q.2.1=dc q.2.2/\args=[.sl 5 (cB AC q.1),.str q.2.1]then⟨dT,.tup [AC (h7 h).2.2.1,.int .i64 (h7 h).2.2.2],[.any,.any]⟩else Rs.bad
def KP:Ao:=⟨[.bor,.bor],cm,oF⟩
def Sq{C:List AA}{j:L8}{I:AA×Int}(h:Gt C j=dc I):
    KP.F [.sl 5 (cB AC C),.str j]=⟨dT,.tup [AC I.1,.int .i64 I.2],[.any,.any]⟩:=by
  show oF _=_;have hex:∃q:List AA×L8×(AA×Int),Gt q.1 q.2.1=dc q.2.2/\[AV.sl 5 (cB AC C),.str j]=[.sl 5 (cB AC q.1),.str q.2.1]:=⟨(C,j,I),h,rfl⟩;unfold oF;rw[dif_pos hex];obtain⟨J,h2⟩:=Classical.choose_spec hex;generalize h7 hex=q at J h2 ⊢;simp only[List.cons.injEq,AV.sl.injEq,AV.str.injEq,true_and,and_true]at h2;have R:=pI h2.1;rw[←R,←h2.2,h]at J;rw[←Option.some.inj J]
theorem fq:KP.modes=[.bor,.bor]:=rfl
theorem dk:KP.flat=false:=rfl
attribute [go_sem] fq dk
def xc{args:List AV}(h:(oF args).ok=dT):∃list star y,Gt list star=dc y/\args=[.sl 5 (cB AC list),.str star]:=by
  unfold oF at h;split at h
  · rename_i hex;obtain⟨q,j,h2⟩:=hex;exact⟨q.1,q.2.1,q.2.2,j,h2⟩
  · cases h
variable{S:Nat->Prop}{w:e6}{v:Value}{l:List AA}
def AFl(h:VR S w v (.sl 5 (cB AC l))):mD w.heap.size w v l:=by
  cases h with
  | @sl a n cap sz els b off rd hn aa ab ha hc hw hr=>
    have I:(cB AC l).length=l.length:=p'
    refine⟨a,cap,by rw[hn,I],fun R=>?_⟩;obtain⟨e,_⟩:=ha (by rw[I];exact R);have hb:=World.block_lt_of_cell? w ⟨b,off+(0*5+0),ct⟩ (hw 0 0 (by rw[I];exact R) n')
    have J:∀k,k<l.length->(cB AC l).getD k .any=AC (l.getD k cw):=fun k C=>by
      simp[gdE,C]
    have one:∀k j,k<l.length->j<5->w.cell? ⟨b,off+(k*5+j),ct⟩=dc (rd k j)/\VR S w (rd k j) ((AC (l.getD k cw)).cells.getD j .any):=fun k j C U=>by
      refine⟨hw k j (by rw[I];exact C) U,?_⟩;have:=hr k j (by rw[I];exact C) U
      rwa [J k C]at this
    have i:∀{u:Value} {k:IntKind} {z:Int},VR S w u (.int k z)->u = .int k z:=fun h=>by cases h;rfl
    have s:∀{u:Value} {z:L8},VR S w u (.str z)->u = .string ⟨z.toArray⟩:=fun h=>by cases h;rfl
    have bo:∀{u:Value} {z:Bool},VR S w u (.bool z)->u = .bool z:=fun h=>by cases h;rfl
    refine⟨b,off,e,hb,⟨fun k C=>?_,fun k C=>?_,fun k C=>?_,fun k C=>?_,fun k C=>?_⟩⟩
    · obtain⟨q,r⟩:=one k 0 C n';rw[←i r];exact q
    · obtain⟨q,r⟩:=one k 1 C n';rw[←s r];exact q
    · obtain⟨q,r⟩:=one k 2 C n';rw[←s r];exact q
    · obtain⟨q,r⟩:=one k 3 C n';rw[←i r];exact q
    · obtain⟨q,r⟩:=one k 4 C n';rw[←bo r];exact q
def wC(h:BO l=dc dT):l.length<=100:=by
  unfold BO at h;split at h
  · cases h
  · rename_i j;simp only[dtE]at j;omega
def AFp(e:AA):VR S w (Nm e) (AC e):=by
  refine .agg rfl (fun j C=>?_) (fun j C=>?_)
  · match j,C with
    |0,_=>rfl
    |1,_=>rfl
    |2,_=>rfl
    |3,_=>rfl
    |4,_=>rfl
  · match j,C with
    |0,_=>exact .int
    |1,_=>exact .str
    |2,_=>exact .str
    |3,_=>exact .int
    |4,_=>exact .bool
def APc{C:Ao}(h:C.modes=[.bor,.bor])(j:Nat):C.modes[j]? ≠ dc .io:=by
  rw[h]
  match j with
  |0=>intro c;cases c
  |1=>intro c;cases c
  |j+2=>simp
def rB{s:L8}{y:AA×Int}(h:Gt l s=dc y)(hv:VR C' w v (.sl 5 (cB AC l)))(hg:GT C' w):
    hQ b3 106 #[v,.string ⟨s.toArray⟩] w fun e W'=>e = .returned (.tuple #[Nm y.1,.int .i64 y.2])/\ds w.heap.size w W':=by
  unfold Gt at h;have hE:=AFl hv;obtain⟨a,cap,rfl,hp⟩:=id hE;cases hb:BO l with
  |none=>rw[hb]at h;cases h
  | some b=>
    rw[hb,obS]at h
    have R:∀x y z,fp h6 (9-1) b3 70 #[.slice a l.length cap] (((w.alloc x).alloc y).alloc z) fun e I=>e = .returned (.bool b)/\ds (((w.alloc x).alloc y).alloc z).heap.size (((w.alloc x).alloc y).alloc z) I:=fun x y z=>by
      have C:AD C' w (((w.alloc x).alloc y).alloc z):=((AD.alloc _ _ _).trans (AD.alloc _ _ _)).trans (AD.alloc _ _ _);refine h4.2 ((ie s_34.s Tryz.func70 rfl z' (args:=[.sl 5 (cB AC l)]) (vargs:=#[.slice a l.length cap]) rfl (by rw[M_34];rfl) rfl (fun j hj=>?_) (hg.mono C fun _ _ c=>c) (ARz hb)).mono fun e I ⟨h1,h2⟩=>⟨h1,Tj h2⟩);have J:j<1:=by simpa using hj
      match j,J with
      |0,_=>exact hv.mono C fun _ _ c=>c
    cases b
    · simp only[hT,if_true,Option.some.injEq]at h;subst h;exact h4.1 (ALG h6 9 trivial trivial rfl n' a l.length cap ⟨s.toArray⟩ w R)
    · simp only[h',bfT,if_false]at h;cases hc:CD s with
      |none=>rw[hc]at h;cases h
      | some c=>
        rw[hc,obS]at h
        have U:∀w',AD C' w w'->fp h6 (9-1) b3 168 #[.string ⟨s.toArray⟩] w' fun e I=>e = .returned (.bool c)/\ds w'.heap.size w' I:=fun w' C=>by
          refine h4.2 ((ie s_25.s Tryz.func168 rfl z' (args:=[.str s]) (vargs:=#[.string ⟨s.toArray⟩]) rfl (by rw[M_25];rfl) rfl (fun j hj=>?_) (hg.mono C fun _ _ c=>c) (ASB hc)).mono fun e I ⟨h1,h2⟩=>⟨h1,Tj h2⟩);have J:j<1:=by simpa using hj
          match j,J with
          |0,_=>exact .str
        cases c
        · simp only[hT,if_true,Option.some.injEq]at h;subst h;exact h4.1 (AEu h6 9 trivial trivial trivial rfl n' a l.length cap ⟨s.toArray⟩ w R U)
        · simp only[h',bfT,if_false]at h
          have e:RX l s=y:=by
            unfold RX;revert h;cases l.reverse.find? (fun e=>e.Star==s)<;>intro h<;>exact Option.some.inj h
          rw[←e];exact h4.1 (AEt h6 9 trivial trivial trivial trivial trivial rfl n' a l.length cap l rfl (wC hb) s ⟨s.toArray⟩ rfl w hE R U)
def fS:Cd b3 106 KP:=by
  refine⟨fun e=>gb e,fun F g0 w args vargs ao R C U=>⟨fun e=>gb e,?_⟩⟩;obtain⟨l,s,y,hy,rfl⟩:=xc U;have h0:=Hw C (i:=0) p';have J:=Hw C (i:=1) p';rw[OG R];generalize vargs.getD 0 h9=v at h0;generalize vargs.getD 1 h9=u at J;have hv:VR C' w v (.sl 5 (cB AC l)):=VR.mono (AD.refl _ _) (fun _ _ c=>c.elim) h0;have J:VR _ w u (.str s):=J;cases J
  have he:=Go.Proofs.enters_of (P:=b3) hz o' rfl;unfold DJ;rw[he,Sq hy];refine(rB hy hv (C.tab.mono (AD.refl _ _) fun _ _ c=>c.elim)).mono ?_;rintro e' w' ⟨rfl,I⟩;have hs:AD C' w w':=⟨I.os,I.tape,I.output,I.size,fun b hb _=>I.block b hb⟩;refine⟨_,g0,[],id,rfl,Mf hs ⟨_,rfl,rfl,fun j hj=>?_⟩ (fun i hi=>?_) (APc rfl)⟩
  · match j,hj with
    |0,_=>exact AFp _
    |1,_=>exact .int
  · obtain⟨j,_,hj,hf⟩:=hi
    match j,hj with
    |0,_=>exact absurd hf fB
    |1,_=>exact absurd hf fB
end Go.Proofs.YtegmpdmpgmpiaaaGreatDoor
